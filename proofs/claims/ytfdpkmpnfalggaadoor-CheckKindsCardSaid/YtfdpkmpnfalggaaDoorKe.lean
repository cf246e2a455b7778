/- check.kind and check.Kind by contracts. -/
import Derived.Test.YtfdpkmpnfalggaaDoorKd
import Derived.Test.YtfdpkmpnfalggaaDoorOw
set_option linter.unusedVariables false
set_option linter.unusedSimpArgs false
namespace Go.Proofs.YtfdpkmpnfalggaaDoor
open Go.RowKit

mutual
/-- An expression's kind, and the error. -/
def kindP (l : List Key) : Expr → Int × Int
  | .mk kind _ name kids => if kids.isEmpty then plainP l kind name else
      match kindsP l kids with
      | .error e => (0, e)
      | .ok ks => if (joinedP kind ks).2 then ((joinedP kind ks).1, 0) else (0, 7)
def kindsP (l : List Key) : List Expr → Except Int (List Int)
  | [] => .ok []
  | x :: xs => if (kindP l x).2 = 0 then (match kindsP l xs with | .error e => .error e | .ok ks => .ok ((kindP l x).1 :: ks)) else .error (kindP l x).2
end
theorem kindsP_ok (l : List Key) : ∀ kids : List Expr, (∀ j (hj : j < kids.length), (kindP l kids[j]).2 = 0) → kindsP l kids = .ok (kids.map fun x => (kindP l x).1)
  | [], _ => rfl
  | x :: xs, h => by
    have h0 : (kindP l x).2 = 0 := h 0 (by simp)
    rw [kindsP, if_pos h0, kindsP_ok l xs fun j hj => h (j + 1) (by simpa using hj)]
    rfl
theorem kindsP_err (l : List Key) : ∀ (kids : List Expr) (k : Nat) (hk : k < kids.length), (∀ j (hj : j < kids.length), j < k → (kindP l kids[j]).2 = 0) → (kindP l kids[k]).2 ≠ 0 → kindsP l kids = .error (kindP l kids[k]).2
  | x :: xs, 0, _, _, h => by rw [kindsP]; simp only [List.getElem_cons_zero] at h ⊢; rw [if_neg h]
  | x :: xs, k + 1, hk, hb, h => by
    have h0 : (kindP l x).2 = 0 := hb 0 (by simp) (by omega)
    simp only [List.getElem_cons_succ] at h ⊢
    rw [kindsP, if_pos h0, kindsP_err l xs k (by simpa using hk) (fun j hj hjk => hb (j + 1) (by simpa using hj) (by omega)) h]

theorem sh_split {m : Nat} {kind n : Int} {name : ByteArray} {kids : List Expr} (h : shallowB (m + 1) (.mk kind n name kids) = true) :
    0 ≤ kind ∧ kind < 20 ∧ (kids.length : Int) = formKids kind.toNat ∧ leafOk kind n name = true ∧ ∀ j (hj : j < kids.length), shallowB m kids[j] = true := by
  simp only [shallowB, Bool.and_eq_true, decide_eq_true_eq, List.all_eq_true] at h
  exact ⟨h.1.1.1.1, h.1.1.1.2, h.1.1.2, h.1.2, fun j hj => h.2 _ (List.getElem_mem hj)⟩
theorem exists_least {p : Nat → Prop} (h : ∃ n, p n) : ∃ n, p n ∧ ∀ m, m < n → ¬ p m := by
  obtain ⟨n, hn⟩ := h
  induction n using Nat.strongRecOn with
  | _ n ih =>
    by_cases hx : ∃ m, m < n ∧ p m
    · obtain ⟨m, hm, hp⟩ := hx; exact ih m hm hp
    · exact ⟨n, hn, fun m hm hp => hx ⟨m, hm, hp⟩⟩
theorem formKids_le (k : Nat) : formKids k ≤ 2 := by
  by_cases h : k < 20
  · exact (show ∀ k : Fin 20, formKids k.val ≤ 2 by decide) ⟨k, h⟩
  · unfold formKids formKidsL
    rw [List.getD_eq_getElem?_getD, List.getElem?_eq_none (by simp; omega)]; decide
theorem keys_wf {S : Nat → Prop} {w : World} {l : List Key} {A : Option Addr} {n c : Nat} (h : RdV S w (.l 3 (Key.ds l)) (.slice A n c)) : ∀ i, IntKind.i64.wrap (keyAt l i).kind = (keyAt l i).kind := by
  intro i
  unfold keyAt
  by_cases hi : i.toNat < l.length
  · obtain ⟨_, _, _, _, _, _, _, _, _, _, hw⟩ := key_at h hi
    rw [List.getD_eq_getElem?_getD, List.getElem?_eq_getElem hi]; exact hw
  · rw [List.getD_eq_getElem?_getD, List.getElem?_eq_none (by omega)]; decide
theorem plainP_wf {l : List Key} (hl : ∀ i, IntKind.i64.wrap (keyAt l i).kind = (keyAt l i).kind) (kind : Int) (name : ByteArray) : IntKind.i64.wrap (plainP l kind name).1 = (plainP l kind name).1 := by
  unfold plainP
  split
  · exact (by decide : IntKind.i64.wrap 1 = 1)
  split
  · exact (by decide : IntKind.i64.wrap 2 = 2)
  split
  · exact (by decide : IntKind.i64.wrap 3 = 3)
  split
  · split
    · exact (by decide : IntKind.i64.wrap 0 = 0)
    · exact hl _
  · exact (by decide : IntKind.i64.wrap 0 = 0)
theorem joinedP_wf (kind : Int) (ks : List Int) (h : ∀ k ∈ ks, IntKind.i64.wrap k = k) : IntKind.i64.wrap (joinedP kind ks).1 = (joinedP kind ks).1 := by
  unfold joinedP
  split
  · cases ks with
    | nil => decide
    | cons a t => exact h a (by simp)
  all_goals (repeat' split)
  all_goals first | exact (by decide : IntKind.i64.wrap 0 = 0) | exact (by decide : IntKind.i64.wrap 1 = 1) | exact (by decide : IntKind.i64.wrap 4 = 4)
theorem kindP_wf {l : List Key} (hl : ∀ i, IntKind.i64.wrap (keyAt l i).kind = (keyAt l i).kind) : ∀ (m : Nat) (x : Expr), shallowB m x = true → IntKind.i64.wrap (kindP l x).1 = (kindP l x).1 := by
  intro m
  induction m with
  | zero => intro x h; exact absurd h (by simp [shallowB])
  | succ m ih =>
    intro x h
    cases x with
    | mk kind n name kids =>
      obtain ⟨_, _, _, _, hk⟩ := sh_split h
      rw [kindP]
      split
      · exact plainP_wf hl _ _
      · cases hks : kindsP l kids with
        | error e => exact (by decide : IntKind.i64.wrap 0 = 0)
        | ok ks =>
          have hks' : ks = kids.map fun x => (kindP l x).1 := by
            by_cases hall : ∀ j (hj : j < kids.length), (kindP l kids[j]).2 = 0
            · rw [kindsP_ok l kids hall] at hks; injection hks with hks; exact hks.symm
            · exfalso
              have : ∃ k, ∃ hk : k < kids.length, (kindP l kids[k]).2 ≠ 0 ∧ ∀ j (hj : j < kids.length), j < k → (kindP l kids[j]).2 = 0 := by
                have hex : ∃ k, ∃ hk : k < kids.length, (kindP l kids[k]).2 ≠ 0 := by
                  refine Classical.byContradiction fun hn => hall fun j hj => Classical.byContradiction fun hne => hn ⟨j, hj, hne⟩
                obtain ⟨k, hk, hmin⟩ := exists_least hex
                exact ⟨k, hk.1, hk.2, fun j hj hjk => Classical.byContradiction fun hne => hmin j hjk ⟨hj, hne⟩⟩
              obtain ⟨k, hk, h1, h2⟩ := this
              rw [kindsP_err l kids k hk h2 h1] at hks
              exact absurd hks (by simp)
          show IntKind.i64.wrap (if (joinedP kind ks).2 then ((joinedP kind ks).1, (0 : Int)) else (0, 7)).1 = (if (joinedP kind ks).2 then ((joinedP kind ks).1, (0 : Int)) else (0, 7)).1
          split
          · refine joinedP_wf kind ks fun k hk' => ?_
            rw [hks'] at hk'
            obtain ⟨y, hy, rfl⟩ := List.mem_map.1 hk'
            obtain ⟨j, hj, rfl⟩ := List.getElem_of_mem hy
            exact ih _ (hk j hj)
          · exact (by decide : IntKind.i64.wrap 0 = 0)

theorem info3 : (Tryd.prog.info? 3).map (fun i => (i.zero, i.size, i.bytes)) = some (some (.int .i64 0), 1, 8) := by kernel_rfl

set_option maxRecDepth 100000 in
set_option maxHeartbeats 2000000 in
theorem ckind_any (l : List Key) : ∀ (m : Nat) (kind n : Int) (name : ByteArray) (kids : List Expr) (h : shallowB m (.mk kind n name kids) = true) (A : Option Addr) (c : Nat) (S : Nat → Prop) (w : World)
    (hr : RdV S w (.l 4 (Expr.ds kids)) (.slice A kids.length c)) (Al : Option Addr) (cl : Nat) (Sl : Nat → Prop) (hl : RdV Sl w (.l 3 (Key.ds l)) (.slice Al l.length cl)),
    Calls Tryd.prog 26 #[.agg #[.int .i64 kind, .int .i64 n, .string name, .slice A kids.length c], .slice Al l.length cl] w fun e w' => e = .returned (.tuple #[.int .i64 (kindP l (.mk kind n name kids)).1, .int .i64 (kindP l (.mk kind n name kids)).2]) ∧ Below w.heap.size w w' := by
  intro m
  induction m with
  | zero => intro kind n name kids h; exact absurd h (by simp [shallowB])
  | succ m ih =>
    intro kind n name kids h A c S w hr Al cl Sl hl
    obtain ⟨hk0, hk1, hkl, _, hkids⟩ := sh_split h
    have hk2 := formKids_le kind.toNat
    have hB : ∀ o, Below w.heap.size w (w.alloc o) := fun o => below_alloc' (Below.refl _ _) _
    by_cases he : kids = []
    · subst he
      have hP := fun W hW => cplain_any kind n name (.slice A 0 c) l Al cl Sl W hW rfl
      have e1 : kindP l (.mk kind n name []) = plainP l kind name := by rw [kindP]; rfl
      rw [e1]
      clear hkl hk2
      go_enter Tryd.func26, Tryd.ntmps26
      go_wp2_with (go_at_call 53; refine (hP _ (hl.blw (hB _))).mono ?_; rintro e w' ⟨rfl, hb⟩)
      go_ret2
      exact ⟨rfl, (hB _).trans' hb⟩
    have hpos : 0 < kids.length := List.length_pos_iff.2 he
    have hle : kids.length ≤ 2 := by omega
    have hz : ((kids.length : Int) == 0) = false := by rw [beq_eq_false_iff_ne]; omega
    obtain ⟨b, o, _, _, rfl, _, hb, _⟩ := expr_at hr hpos
    clear hkl hk2
    go_enter Tryd.func26, Tryd.ntmps26
    go_wp2
    have hwf := keys_wf hl
    have hb64 : kids.length ≤ 2 := hle
    go_loopw [6, 25] (fun v i wr => (∃ k : Nat, k ≤ kids.length ∧ i = .int .i64 k ∧ (∀ j (hj : j < kids.length), j < k → (kindP l kids[j]).2 = 0) ∧
      OwnR (fun q => (w.alloc (.cells #[.int .i64 kind, .int .i64 n, .string name, .slice (some ⟨b, o, none⟩) kids.length c] 24)).heap.size ≤ q) wr (w.alloc (.cells #[.int .i64 kind, .int .i64 n, .string name, .slice (some ⟨b, o, none⟩) kids.length c] 24)).heap.size 3 1 v (intsD ((kids.take k).map fun x => (kindP l x).1))) ∧ Below (w.alloc (.cells #[.int .i64 kind, .int .i64 n, .string name, .slice (some ⟨b, o, none⟩) kids.length c] 24)).heap.size (w.alloc (.cells #[.int .i64 kind, .int .i64 n, .string name, .slice (some ⟨b, o, none⟩) kids.length c] 24)) wr) (fun _ i _ => kids.length - (intOf i).toNat)
    case atStart => exact ⟨⟨0, Nat.zero_le _, rfl, fun j _ hj => absurd hj (Nat.not_lt_zero j), OwnR.nil _ _ _ _ (by decide)⟩, Below.refl _ _⟩
    case round =>
      obtain ⟨⟨k, hk, rfl, hall, hown⟩, hB1⟩ := hrel
      have hB2 : Below w.heap.size w wr := (hB _).trans' hB1
      by_cases hlt : k < kids.length
      · obtain ⟨b1, o1, A', c', hbo, _, hb, _, d0, d1, d2, d3, hr', hs', hk'', hn'⟩ := expr_at (hr.blw hB2) hlt
        obtain ⟨rfl, rfl⟩ : b = b1 ∧ o = o1 := by simpa using hbo
        have hI := fun (W : World) => ih kids[k].kind kids[k].n kids[k].name kids[k].kids (by rw [Expr.eta]; exact hkids k hlt) A' c' S W
        have hO : ∀ o, Below w.heap.size w (wr.alloc o) := fun o => below_alloc' hB2 _
        have hO1 : ∀ ob, Below (w.alloc (.cells #[.int .i64 kind, .int .i64 n, .string name, .slice (some ⟨b, o, none⟩) kids.length c] 24)).heap.size (w.alloc (.cells #[.int .i64 kind, .int .i64 n, .string name, .slice (some ⟨b, o, none⟩) kids.length c] 24)) (wr.alloc ob) := fun ob => below_alloc' hB1 _
        by_cases hx : (kindP l kids[k]).2 = 0
        · have hw1 := kindP_wf hwf m kids[k] (hkids k hlt)
          have hln : (intsD ((kids.take k).map fun x => (kindP l x).1)).length < 3 := by simp; omega
          have hR : ∀ (S : Nat → Prop) (W : World), RdL S W [.i .i64 (kindP l kids[k]).1] [.int .i64 (kindP l kids[k]).1] := fun S W => RdL.cons (.i _ _ hw1) RdL.nil
          have hap : ∀ v1 w1, OwnR (fun q => (w.alloc (.cells #[.int .i64 kind, .int .i64 n, .string name, .slice (some ⟨b, o, none⟩) kids.length c] 24)).heap.size ≤ q) w1 (w.alloc (.cells #[.int .i64 kind, .int .i64 n, .string name, .slice (some ⟨b, o, none⟩) kids.length c] 24)).heap.size 3 1 v1 (intsD ((kids.take k).map fun x => (kindP l x).1) ++ [[.i .i64 (kindP l kids[k]).1]]) → OwnR (fun q => (w.alloc (.cells #[.int .i64 kind, .int .i64 n, .string name, .slice (some ⟨b, o, none⟩) kids.length c] 24)).heap.size ≤ q) w1 (w.alloc (.cells #[.int .i64 kind, .int .i64 n, .string name, .slice (some ⟨b, o, none⟩) kids.length c] 24)).heap.size 3 1 v1 (intsD ((kids.take (k + 1)).map fun x => (kindP l x).1)) := fun v1 w1 h => by
            rw [List.take_succ_eq_append_getElem hlt, List.map_append, intsD, List.map_append]
            exact h
          clear hw1
          go_wp2_with (first
            | (go_at_call 26; refine (hI _ (hr'.blw (below_alloc' (Below.refl _ _) _)) Al cl Sl (hl.blw (hO _))).mono ?_; rw [Expr.eta, hx]; rintro e w' ⟨rfl, hb'⟩; have hown1 := hown.blw ((below_alloc' (Below.refl _ _) _).trans' hb'); have hB3 := (hO1 _).trans' hb')
            | (at_builtin; refine append_one (w0 := (w.alloc (.cells #[.int .i64 kind, .int .i64 n, .string name, .slice (some ⟨b, o, none⟩) kids.length c] 24))) (base := (w.alloc (.cells #[.int .i64 kind, .int .i64 n, .string name, .slice (some ⟨b, o, none⟩) kids.length c] 24)).heap.size) (S := fun q => (w.alloc (.cells #[.int .i64 kind, .int .i64 n, .string name, .slice (some ⟨b, o, none⟩) kids.length c] 24)).heap.size ≤ q) rfl _ _ 57 8 (.int .i64 0) rfl Tryd.underlying57 info3 rfl rfl hown1 [.i .i64 (kindP l kids[k]).1] [.int .i64 (kindP l kids[k]).1] rfl rfl (hR _ _) hB3 hB3.size (by omega) (by omega) (fun q hq => Nat.le_trans hB3.size hq) ?_; intro v1 w1 hown2 hB4 _))
          go_roundw
          case rel => exact ⟨⟨k + 1, by omega, by go_num, fun j hj hj' => if h : j = k then by subst h; exact hx else hall j hj (by omega), hap _ _ hown2⟩, hB4⟩
          case measure => simp only [intOf]; omega
        · go_wp2_with (go_at_call 26; refine (hI _ (hr'.blw (below_alloc' (Below.refl _ _) _)) Al cl Sl (hl.blw (hO _))).mono ?_; rw [Expr.eta]; rintro e w' ⟨rfl, hb'⟩; have hB3 := (hO _).trans' hb')
          go_ret2
          refine ⟨ret_two ?_ ?_, hB3⟩ <;> (rw [kindP, if_neg (by simpa using he), kindsP_err l kids k hlt hall hx])
      · obtain ⟨q1, q2⟩ := bcell hB1
        have hall' := fun j (hj : j < kids.length) => hall j hj (by omega)
        have hks := kindsP_ok l kids hall'
        have hkk : k = kids.length := by omega
        subst hkk
        rw [List.take_length] at hown
        obtain ⟨A0, c0, hv⟩ := hown.slice
        have hrd := hown.rd
        rw [hv] at hrd ⊢
        clear hv hown
        have hJ := fun (W : World) => cjoined_any kind (kids.map fun x => (kindP l x).1) A0 c0 (fun q => (w.alloc (.cells #[.int .i64 kind, .int .i64 n, .string name, .slice (some ⟨b, o, none⟩) kids.length c] 24)).heap.size ≤ q) W
        simp only [intsD_length, List.length_map] at hrd hJ ⊢
        have e1 : kindP l (.mk kind n name kids) = if (joinedP kind (kids.map fun x => (kindP l x).1)).2 then ((joinedP kind (kids.map fun x => (kindP l x).1)).1, 0) else (0, 7) := by
          rw [kindP, if_neg (by simpa using he), hks]
        have E1 := Lib.hid e1
        clear e1
        cases hj : (joinedP kind (kids.map fun x => (kindP l x).1)).2
        all_goals
          go_wp2_with (go_at_call 54; refine (hJ _ hrd hpos).mono ?_; rw [hj]; rintro e w' ⟨rfl, hb'⟩; have hB3 := hB2.trans' hb')
          go_ret2
          refine ⟨ret_two ?_ ?_, hB3⟩ <;> (rw [E1.out, hj]; rfl)

theorem cKind_any (l : List Key) (x : Expr) (A : Option Addr) (c : Nat) (S : Nat → Prop) (w : World) (hr : RdL S w x.d [.int .i64 x.kind, .int .i64 x.n, .string x.name, .slice A x.kids.length c])
    (Al : Option Addr) (cl : Nat) (Sl : Nat → Prop) (hl : RdV Sl w (.l 3 (Key.ds l)) (.slice Al l.length cl)) (ht : Spaces w) :
    Calls Tryd.prog 11 #[.agg #[.int .i64 x.kind, .int .i64 x.n, .string x.name, .slice A x.kids.length c], .slice Al l.length cl] w fun e w' =>
      e = .returned (.tuple #[.int .i64 (if rightB x then kindP l x else (0, 1)).1, .int .i64 (if rightB x then kindP l x else (0, 1)).2]) ∧ Below w.heap.size w w' := by
  have hB : ∀ o, Below w.heap.size w (w.alloc o) := fun o => below_alloc' (Below.refl _ _) _
  have hR := fun W hW hs => eRight_any x A c S W hW hs
  have r3 := (by have h := hr; rw [Expr.d_eq] at h; exact h.2 3 _ _ rfl rfl : RdV S w (.l 4 (Expr.ds x.kids)) (.slice A x.kids.length c))
  cases hx : rightB x
  · go_enter Tryd.func11, Tryd.ntmps11
    go_wp2_with (go_at_call 21; refine (hR _ (hr.blw (hB _)) (ht.kept (hB _))).mono ?_; rw [hx]; rintro e w' ⟨rfl, hb'⟩; have hB3 := (hB _).trans' hb')
    go_ret2
    exact ⟨rfl, hB3⟩
  · have hK := fun W hW hWl => ckind_any l 40 x.kind x.n x.name x.kids (by rw [Expr.eta]; exact hx) A c S W hW Al cl Sl hWl
    have hv : ∀ W : World, Below w.heap.size w W → RdV S W (.l 4 (Expr.ds x.kids)) (.slice A x.kids.length c) := fun W h => r3.blw h
    go_enter Tryd.func11, Tryd.ntmps11
    go_wp2_with (first
      | (go_at_call 21; refine (hR _ (hr.blw (hB _)) (ht.kept (hB _))).mono ?_; rw [hx]; rintro e w' ⟨rfl, hb'⟩; obtain ⟨q1, q2⟩ := bcell hb'; have hB3 := (hB _).trans' hb')
      | (go_at_call 26; refine (hK _ (hv _ hB3) (hl.blw hB3)).mono ?_; rw [Expr.eta]; rintro e w' ⟨rfl, hb''⟩; have hB4 := hB3.trans' hb''))
    go_ret2
    exact ⟨rfl, hB4⟩
end Go.Proofs.YtfdpkmpnfalggaaDoor
