/- The reference's rightExpr and RightExpr by contracts: they answer as expr.shallow and expr.Right do. -/
import Derived.Test.YtfdpkmpnfalggaaDoorRf
set_option linter.unusedVariables false
set_option linter.unusedSimpArgs false
namespace Go.Proofs.YtfdpkmpnfalggaaDoor
open Go.RowKit

theorem lName_empty {s : ByteArray} (h : s.size = 0) : lNameB s = false := by simp [lNameB, vNameB, h]

set_option maxRecDepth 100000 in
set_option maxHeartbeats 4000000 in
theorem rright_any : ∀ (m : Nat) (hm : m ≤ 40) (d : Int) (hd : d = 41 - (m : Int)) (kind n : Int) (name : ByteArray) (kids : List Expr) (A : Option Addr) (c : Nat) (S : Nat → Prop) (w : World)
    (hr : RdV S w (.l 4 (Expr.ds kids)) (.slice A kids.length c)) (hs : name.size ≤ maxLen) (hk : IntKind.i64.wrap kind = kind) (hn : IntKind.i64.wrap n = n),
    Calls Tryd.prog 55 #[.agg #[.int .i64 kind, .int .i64 n, .string name, .slice A kids.length c], .int .i64 d] w fun e w' => e = .returned (.bool (shallowB m (.mk kind n name kids))) ∧ Below w.heap.size w w' := by
  intro m
  induction m with
  | zero =>
    intro hm d hd kind n name kids A c S w hr hs hk hn
    have hd1 : decide (40 < d) = true := by simp; omega
    go_enter Tryd.func55, Tryd.ntmps55
    go_wp2_with fail
    go_quiet (fail)
    go_wp2
    go_ret
    exact ⟨by simp [shallowB], by with_reducible repeat (first | exact Below.refl _ _ | apply below_drewN' | apply below_alloc')⟩
  | succ m ih =>
    intro hm d hd kind n name kids A c S w hr hs hk hn
    have hdd : decide (40 < d) = false := by simp; omega
    have hdb : 0 ≤ d ∧ d ≤ 40 := by omega
    have hnb := i64_bd hn
    have hlen := hr.len_le
    have ih' := ih (by omega) (d + 1) (by omega)
    clear ih hd
    have hB : ∀ o, Below w.heap.size w (w.alloc o) := fun o => below_alloc' (Below.refl _ _) _
    by_cases h1 : kind < 0
    · have hd1 : decide (kind < 0) = true := by simpa using h1
      go_enter Tryd.func55, Tryd.ntmps55
      go_wp2_with fail
      go_quiet (fail)
      go_wp2
      go_ret
      exact ⟨ret_bool (by simp [shallowB]; omega), by with_reducible repeat (first | exact Below.refl _ _ | apply below_drewN' | apply below_alloc')⟩
    have hd1 : decide (kind < 0) = false := by simpa using h1
    by_cases h2 : 20 ≤ kind
    · have hd2 : decide (19 < kind) = true := by simp; omega
      go_enter Tryd.func55, Tryd.ntmps55
      go_wp2_with fail
      go_quiet (fail)
      go_wp2
      go_ret
      exact ⟨ret_bool (by simp [shallowB]; omega), by with_reducible repeat (first | exact Below.refl _ _ | apply below_drewN' | apply below_alloc')⟩
    have hd2 : decide (19 < kind) = false := by simp; omega
    obtain ⟨k, rfl⟩ := Int.eq_ofNat_of_zero_le (show 0 ≤ kind by omega)
    have hk20 : k < 20 := by omega
    by_cases h3 : formKids k = (kids.length : Int)
    · by_cases k0 : k = 0
      · subst k0
        obtain rfl : kids = [] := List.eq_nil_of_length_eq_zero (by have : formKids 0 = 0 := rfl; omega)
        cases hem : name.toList.isEmpty
        · go_enter Tryd.func55, Tryd.ntmps55
          go_wp2_with fail
          go_quiet ((go_at_call 97; exact Calls.quiet_of_same ((rkids_any _ hk20 _).mono fun _ _ h => ⟨h.1, h.2.symm⟩)))
          go_wp2
          · go_ret
            refine ⟨ret_bool (sh_leaf ?_).symm, by with_reducible repeat (first | exact Below.refl _ _ | exact hB1 | apply below_drewN' | apply below_alloc')⟩
            simp [leafOk, nonEmpty_size (s := name) (by rw [hem]; rfl)]
        · go_enter Tryd.func55, Tryd.ntmps55
          go_wp2_with fail
          go_quiet ((go_at_call 97; exact Calls.quiet_of_same ((rkids_any _ hk20 _).mono fun _ _ h => ⟨h.1, h.2.symm⟩)))
          go_wp2
          · go_ret
            refine ⟨ret_bool (sh_leaf ?_).symm, by with_reducible repeat (first | exact Below.refl _ _ | exact hB1 | apply below_drewN' | apply below_alloc')⟩
            simp [leafOk, show n = -9223372036854775808 by assumption]
          · have hl : leafOk ((0 : Nat) : Int) n name = true := by
              have a1 : ¬ n = -9223372036854775808 := by assumption
              have a2 := isEmpty_size (s := name) (by rw [hem]; rfl)
              simp [leafOk, a2]; omega
            go_loopw [6] (fun i wr => i = .int .i64 0 ∧ Below (w.alloc (.cells #[.int .i64 0, .int .i64 n, .string name, .slice A 0 c] 24)).heap.size (w.alloc (.cells #[.int .i64 0, .int .i64 n, .string name, .slice A 0 c] 24)) wr) (fun _ _ => 0)
            case atStart => exact ⟨rfl, by with_reducible repeat (first | exact Below.refl _ _ | exact hB2 | apply below_drewN')⟩
            case round =>
              obtain ⟨rfl, hBB⟩ := hrel
              obtain ⟨q1, q2⟩ := bcell hBB
              go_wp2
              go_ret
              exact ⟨ret_bool (sh_true hk20 h3 hl (fun j hj => absurd hj (by simp))).symm, (hB _).trans' hBB⟩
      by_cases k1 : k = 1
      · subst k1
        obtain rfl : kids = [] := List.eq_nil_of_length_eq_zero (by have : formKids 1 = 0 := rfl; omega)
        cases hem : name.toList.isEmpty
        · go_enter Tryd.func55, Tryd.ntmps55
          go_wp2_with fail
          go_quiet ((go_at_call 97; exact Calls.quiet_of_same ((rkids_any _ hk20 _).mono fun _ _ h => ⟨h.1, h.2.symm⟩)))
          go_wp2
          · go_ret
            refine ⟨ret_bool (sh_leaf ?_).symm, by with_reducible repeat (first | exact Below.refl _ _ | exact hB1 | apply below_drewN' | apply below_alloc')⟩
            simp [leafOk, nonEmpty_size (s := name) (by rw [hem]; rfl)]
        · have a2 := isEmpty_size (s := name) (by rw [hem]; rfl)
          by_cases hn0 : n = 0
          · subst hn0
            have hl : leafOk ((1 : Nat) : Int) 0 name = true := by simp [leafOk, a2]
            clear a2
            go_enter Tryd.func55, Tryd.ntmps55
            go_wp2_with fail
            go_quiet ((go_at_call 97; exact Calls.quiet_of_same ((rkids_any _ hk20 _).mono fun _ _ h => ⟨h.1, h.2.symm⟩)))
            go_wp2
            go_loopw [6] (fun i wr => i = .int .i64 0 ∧ Below (w.alloc (.cells #[.int .i64 1, .int .i64 0, .string name, .slice A 0 c] 24)).heap.size (w.alloc (.cells #[.int .i64 1, .int .i64 0, .string name, .slice A 0 c] 24)) wr) (fun _ _ => 0)
            case atStart => exact ⟨rfl, by with_reducible repeat (first | exact Below.refl _ _ | exact hB2 | apply below_drewN')⟩
            case round =>
              obtain ⟨rfl, hBB⟩ := hrel
              obtain ⟨q1, q2⟩ := bcell hBB
              go_wp2
              go_ret
              exact ⟨ret_bool (sh_true hk20 h3 hl (fun j hj => absurd hj (by simp))).symm, (hB _).trans' hBB⟩
          by_cases hn1 : n = 1
          · subst hn1
            have hl : leafOk ((1 : Nat) : Int) 1 name = true := by simp [leafOk, a2]
            clear a2
            go_enter Tryd.func55, Tryd.ntmps55
            go_wp2_with fail
            go_quiet ((go_at_call 97; exact Calls.quiet_of_same ((rkids_any _ hk20 _).mono fun _ _ h => ⟨h.1, h.2.symm⟩)))
            go_wp2
            go_loopw [6] (fun i wr => i = .int .i64 0 ∧ Below (w.alloc (.cells #[.int .i64 1, .int .i64 1, .string name, .slice A 0 c] 24)).heap.size (w.alloc (.cells #[.int .i64 1, .int .i64 1, .string name, .slice A 0 c] 24)) wr) (fun _ _ => 0)
            case atStart => exact ⟨rfl, by with_reducible repeat (first | exact Below.refl _ _ | exact hB2 | apply below_drewN')⟩
            case round =>
              obtain ⟨rfl, hBB⟩ := hrel
              obtain ⟨q1, q2⟩ := bcell hBB
              go_wp2
              go_ret
              exact ⟨ret_bool (sh_true hk20 h3 hl (fun j hj => absurd hj (by simp))).symm, (hB _).trans' hBB⟩
          have hn2 : (n != 0) = true := by simpa using hn0
          have hn3 : (n != 1) = true := by simpa using hn1
          clear a2
          go_enter Tryd.func55, Tryd.ntmps55
          go_wp2_with fail
          go_quiet ((go_at_call 97; exact Calls.quiet_of_same ((rkids_any _ hk20 _).mono fun _ _ h => ⟨h.1, h.2.symm⟩)))
          go_wp2
          · go_ret
            refine ⟨ret_bool (sh_leaf ?_).symm, by with_reducible repeat (first | exact Below.refl _ _ | exact hB1 | apply below_drewN' | apply below_alloc')⟩
            simp [leafOk]; intro h; omega
      by_cases k2 : k = 2
      · subst k2
        obtain rfl : kids = [] := List.eq_nil_of_length_eq_zero (by have : formKids 2 = 0 := rfl; omega)
        cases hem : name.toList.isEmpty
        · cases hln : lNameB name
          · go_enter Tryd.func55, Tryd.ntmps55
            go_wp2_with fail
            go_quiet ((go_at_call 97; exact Calls.quiet_of_same ((rkids_any _ hk20 _).mono fun _ _ h => ⟨h.1, h.2.symm⟩)))
            go_wp2_with (go_at_call 98; refine (rName_any _ _ hs).mono ?_; rw [hln]; rintro e w' ⟨rfl, hb'⟩; have hB1 := Below.trans' (below_drewN' (hB _) _) hb')
            · go_ret
              refine ⟨ret_bool (sh_leaf ?_).symm, by with_reducible repeat (first | exact Below.refl _ _ | exact hB1 | apply below_drewN' | apply below_alloc')⟩
              simp [leafOk, hln]
          · go_enter Tryd.func55, Tryd.ntmps55
            go_wp2_with fail
            go_quiet ((go_at_call 97; exact Calls.quiet_of_same ((rkids_any _ hk20 _).mono fun _ _ h => ⟨h.1, h.2.symm⟩)))
            go_wp2_with (go_at_call 98; refine (rName_any _ _ hs).mono ?_; rw [hln]; rintro e w' ⟨rfl, hb'⟩; have hB1 := Below.trans' (below_drewN' (hB _) _) hb'; have hB2 := Below.trans' (below_drewN' (Below.refl _ _) _) hb'; obtain ⟨q1, q2⟩ := bcell hB2)
            · go_ret
              refine ⟨ret_bool (sh_leaf ?_).symm, by with_reducible repeat (first | exact Below.refl _ _ | exact hB1 | apply below_drewN' | apply below_alloc')⟩
              simp [leafOk, show ¬ n = 0 by simpa using (show (n != 0) = true by assumption)]
            · have hl : leafOk ((2 : Nat) : Int) n name = true := by
                have a1 : (n != 0) = false := by assumption
                have a2 : n = 0 := by simpa using a1
                simp [leafOk, hln, a2]
              go_loopw [6] (fun i wr => i = .int .i64 0 ∧ Below (w.alloc (.cells #[.int .i64 2, .int .i64 n, .string name, .slice A 0 c] 24)).heap.size (w.alloc (.cells #[.int .i64 2, .int .i64 n, .string name, .slice A 0 c] 24)) wr) (fun _ _ => 0)
              case atStart => exact ⟨rfl, by with_reducible repeat (first | exact Below.refl _ _ | exact hB2 | apply below_drewN')⟩
              case round =>
                obtain ⟨rfl, hBB⟩ := hrel
                obtain ⟨q1, q2⟩ := bcell hBB
                go_wp2
                go_ret
                exact ⟨ret_bool (sh_true hk20 h3 hl (fun j hj => absurd hj (by simp))).symm, (hB _).trans' hBB⟩
        · go_enter Tryd.func55, Tryd.ntmps55
          go_wp2_with fail
          go_quiet ((go_at_call 97; exact Calls.quiet_of_same ((rkids_any _ hk20 _).mono fun _ _ h => ⟨h.1, h.2.symm⟩)))
          go_wp2
          · go_ret
            refine ⟨ret_bool (sh_leaf ?_).symm, by with_reducible repeat (first | exact Below.refl _ _ | exact hB1 | apply below_drewN' | apply below_alloc')⟩
            simp [leafOk, lName_empty (isEmpty_size (s := name) (by rw [hem]; rfl))]
      by_cases k3 : k = 3
      · subst k3
        obtain rfl : kids = [] := List.eq_nil_of_length_eq_zero (by have : formKids 3 = 0 := rfl; omega)
        cases hem : name.toList.isEmpty
        · cases hln : lNameB name
          · go_enter Tryd.func55, Tryd.ntmps55
            go_wp2_with fail
            go_quiet ((go_at_call 97; exact Calls.quiet_of_same ((rkids_any _ hk20 _).mono fun _ _ h => ⟨h.1, h.2.symm⟩)))
            go_wp2_with (go_at_call 98; refine (rName_any _ _ hs).mono ?_; rw [hln]; rintro e w' ⟨rfl, hb'⟩; have hB1 := Below.trans' (below_drewN' (hB _) _) hb')
            · go_ret
              refine ⟨ret_bool (sh_leaf ?_).symm, by with_reducible repeat (first | exact Below.refl _ _ | exact hB1 | apply below_drewN' | apply below_alloc')⟩
              simp [leafOk, hln]
          · go_enter Tryd.func55, Tryd.ntmps55
            go_wp2_with fail
            go_quiet ((go_at_call 97; exact Calls.quiet_of_same ((rkids_any _ hk20 _).mono fun _ _ h => ⟨h.1, h.2.symm⟩)))
            go_wp2_with (go_at_call 98; refine (rName_any _ _ hs).mono ?_; rw [hln]; rintro e w' ⟨rfl, hb'⟩; have hB1 := Below.trans' (below_drewN' (hB _) _) hb'; have hB2 := Below.trans' (below_drewN' (Below.refl _ _) _) hb'; obtain ⟨q1, q2⟩ := bcell hB2)
            · go_ret
              refine ⟨ret_bool (sh_leaf ?_).symm, by with_reducible repeat (first | exact Below.refl _ _ | exact hB1 | apply below_drewN' | apply below_alloc')⟩
              simp [leafOk, show ¬ n = 0 by simpa using (show (n != 0) = true by assumption)]
            · have hl : leafOk ((3 : Nat) : Int) n name = true := by
                have a1 : (n != 0) = false := by assumption
                have a2 : n = 0 := by simpa using a1
                simp [leafOk, hln, a2]
              go_loopw [6] (fun i wr => i = .int .i64 0 ∧ Below (w.alloc (.cells #[.int .i64 3, .int .i64 n, .string name, .slice A 0 c] 24)).heap.size (w.alloc (.cells #[.int .i64 3, .int .i64 n, .string name, .slice A 0 c] 24)) wr) (fun _ _ => 0)
              case atStart => exact ⟨rfl, by with_reducible repeat (first | exact Below.refl _ _ | exact hB2 | apply below_drewN')⟩
              case round =>
                obtain ⟨rfl, hBB⟩ := hrel
                obtain ⟨q1, q2⟩ := bcell hBB
                go_wp2
                go_ret
                exact ⟨ret_bool (sh_true hk20 h3 hl (fun j hj => absurd hj (by simp))).symm, (hB _).trans' hBB⟩
        · go_enter Tryd.func55, Tryd.ntmps55
          go_wp2_with fail
          go_quiet ((go_at_call 97; exact Calls.quiet_of_same ((rkids_any _ hk20 _).mono fun _ _ h => ⟨h.1, h.2.symm⟩)))
          go_wp2
          · go_ret
            refine ⟨ret_bool (sh_leaf ?_).symm, by with_reducible repeat (first | exact Below.refl _ _ | exact hB1 | apply below_drewN' | apply below_alloc')⟩
            simp [leafOk, lName_empty (isEmpty_size (s := name) (by rw [hem]; rfl))]
      have g0 : ((k : Int) == 0) = false := by rw [beq_eq_false_iff_ne]; omega
      have g1 : ((k : Int) == 1) = false := by rw [beq_eq_false_iff_ne]; omega
      have g2 : ((k : Int) == 2) = false := by rw [beq_eq_false_iff_ne]; omega
      have g3 : ((k : Int) == 3) = false := by rw [beq_eq_false_iff_ne]; omega
      have g4 : decide (1 < (k : Int)) = true := by simp; omega
      cases hem : name.toList.isEmpty
      · go_enter Tryd.func55, Tryd.ntmps55
        go_wp2_with fail
        go_quiet ((go_at_call 97; exact Calls.quiet_of_same ((rkids_any _ hk20 _).mono fun _ _ h => ⟨h.1, h.2.symm⟩)))
        go_wp2
        · go_ret
          refine ⟨ret_bool (sh_leaf ?_).symm, by with_reducible repeat (first | exact Below.refl _ _ | apply below_drewN' | apply below_alloc')⟩
          have a1 := nonEmpty_size (s := name) (by rw [hem]; rfl)
          simp only [leafOk]; rw [if_neg (by omega), if_neg (by omega), if_neg (by omega)]
          simp only [a1, decide_false, Bool.and_false]
      · by_cases hn0 : n = 0
        · have hl : leafOk (k : Int) n name = true := by
            have a2 := isEmpty_size (s := name) (by rw [hem]; rfl)
            simp only [leafOk]; rw [if_neg (by omega), if_neg (by omega), if_neg (by omega)]; simp [hn0, a2]
          have hn1 : (n != 0) = false := by simpa using hn0
          clear hn0
          by_cases he : kids = []
          · subst he
            go_enter Tryd.func55, Tryd.ntmps55
            go_wp2_with fail
            go_quiet ((go_at_call 97; exact Calls.quiet_of_same ((rkids_any _ hk20 _).mono fun _ _ h => ⟨h.1, h.2.symm⟩)))
            go_wp2
            go_loopw [6] (fun i wr => i = .int .i64 0 ∧ Below (w.alloc (.cells #[.int .i64 k, .int .i64 n, .string name, .slice A 0 c] 24)).heap.size (w.alloc (.cells #[.int .i64 k, .int .i64 n, .string name, .slice A 0 c] 24)) wr) (fun _ _ => 0)
            case atStart => exact ⟨rfl, by with_reducible repeat (first | exact Below.refl _ _ | exact hB2 | apply below_drewN')⟩
            case round =>
              obtain ⟨rfl, hBB⟩ := hrel
              obtain ⟨q1, q2⟩ := bcell hBB
              go_wp2
              go_ret
              exact ⟨ret_bool (sh_true hk20 h3 hl (fun j hj => absurd hj (by simp))).symm, (hB _).trans' hBB⟩
          · obtain ⟨b, o, _, _, rfl, _, hb, _⟩ := expr_at hr (List.length_pos_iff.2 he)
            have hne : ((kids.length : Int) != formKids k) = false := by rw [h3]; simp
            have H3 := Lib.hid h3
            clear h3
            go_enter Tryd.func55, Tryd.ntmps55
            go_wp2_with fail
            go_quiet ((go_at_call 97; exact Calls.quiet_of_same ((rkids_any _ hk20 _).mono fun _ _ h => ⟨h.1, h.2.symm⟩)))
            go_wp2
            go_loopw [6] (fun i wr => (∃ k' : Nat, k' ≤ kids.length ∧ i = .int .i64 k' ∧ ∀ j (hj : j < kids.length), j < k' → shallowB m kids[j] = true) ∧ Below (w.alloc (.cells #[.int .i64 k, .int .i64 n, .string name, .slice (some ⟨b, o, none⟩) kids.length c] 24)).heap.size (w.alloc (.cells #[.int .i64 k, .int .i64 n, .string name, .slice (some ⟨b, o, none⟩) kids.length c] 24)) wr) (fun i _ => kids.length - (intOf i).toNat)
            case atStart => exact ⟨⟨0, Nat.zero_le _, rfl, fun j _ hj => absurd hj (Nat.not_lt_zero j)⟩, by with_reducible repeat (first | exact Below.refl _ _ | apply below_drewN')⟩
            case round =>
              obtain ⟨⟨k', hk', rfl, hall⟩, hBB⟩ := hrel
              have hBw := (hB _).trans' hBB
              obtain ⟨q1, q2⟩ := bcell hBB
              by_cases hlt : k' < kids.length
              · obtain ⟨b1, o1, A', c', hbo, _, hb, _, d0, d1, d2, d3, hr', hs', hk'', hn'⟩ := expr_at hr hlt
                obtain ⟨rfl, rfl⟩ : b = b1 ∧ o = o1 := by simpa using hbo
                have hI := ih' kids[k'].kind kids[k'].n kids[k'].name kids[k'].kids A' c' S _ (hr'.blw hBw) hs' hk'' hn'
                cases hx : shallowB m kids[k']
                all_goals
                  go_wp2_with (go_at_call 55; refine hI.mono ?_; rw [Expr.eta, hx]; rintro e w' ⟨rfl, hb'⟩)
                · go_ret
                  exact ⟨ret_bool (sh_kid hlt hx).symm, hBw.trans' hb'⟩
                · go_roundw
                  case rel => exact ⟨⟨k' + 1, by omega, by go_num, fun j hj hj' => if h : j = k' then by subst h; exact hx else hall j hj (by omega)⟩, hBB.trans' hb'⟩
                  case measure => simp only [intOf]; omega
              · go_wp2
                go_ret
                exact ⟨ret_bool (sh_true hk20 H3.out hl (fun j hj => hall j hj (by omega))).symm, hBw⟩
        · have hn1 : (n != 0) = true := by simpa using hn0
          go_enter Tryd.func55, Tryd.ntmps55
          go_wp2_with fail
          go_quiet ((go_at_call 97; exact Calls.quiet_of_same ((rkids_any _ hk20 _).mono fun _ _ h => ⟨h.1, h.2.symm⟩)))
          go_wp2
          · go_ret
            refine ⟨ret_bool (sh_leaf ?_).symm, by with_reducible repeat (first | exact Below.refl _ _ | apply below_drewN' | apply below_alloc')⟩
            simp only [leafOk]; rw [if_neg (by omega), if_neg (by omega), if_neg (by omega)]; simp [hn0]
    · have h3' : ¬ (kids.length : Int) = formKids k := fun h => h3 h.symm
      have h4 : ((kids.length : Int) != formKids k) = true := by simpa using h3'
      go_enter Tryd.func55, Tryd.ntmps55
      go_wp2_with fail
      go_quiet ((go_at_call 97; exact Calls.quiet_of_same ((rkids_any _ hk20 _).mono fun _ _ h => ⟨h.1, h.2.symm⟩)))
      go_wp2
      go_ret
      exact ⟨ret_bool (by simp [shallowB, h3']), by with_reducible repeat (first | exact Below.refl _ _ | apply below_drewN' | apply below_alloc')⟩

theorem rRight_any (x : Expr) (A : Option Addr) (c : Nat) (S : Nat → Prop) (w : World) (hr : RdL S w x.d [.int .i64 x.kind, .int .i64 x.n, .string x.name, .slice A x.kids.length c]) :
    Calls Tryd.prog 27 #[.agg #[.int .i64 x.kind, .int .i64 x.n, .string x.name, .slice A x.kids.length c]] w fun e w' => e = .returned (.bool (rightB x)) ∧ Below w.heap.size w w' := by
  rw [Expr.d_eq] at hr
  have r0 := (hr.2 0 _ _ rfl rfl).int_inv
  have r1 := (hr.2 1 _ _ rfl rfl).int_inv
  have r2 := (hr.2 2 _ _ rfl rfl).str_inv
  have r3 := hr.2 3 _ _ rfl rfl
  have hS := fun W h => rright_any 40 (by omega) 1 (by omega) x.kind x.n x.name x.kids A c S W h r2.2 r0.2 r1.2
  go_enter Tryd.func27, Tryd.ntmps27
  go_wp2_with (go_at_call 55; refine (hS _ (r3.blw (below_alloc' (Below.refl _ _) _))).mono ?_; rw [Expr.eta]; rintro e w' ⟨rfl, hb⟩)
  go_ret
  exact ⟨rfl, (below_alloc' (Below.refl _ _) _).trans' hb⟩
end Go.Proofs.YtfdpkmpnfalggaaDoor
