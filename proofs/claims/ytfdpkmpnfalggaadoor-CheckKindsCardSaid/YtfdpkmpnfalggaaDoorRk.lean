/- The reference's kind and Kind by contracts: they answer as check.kind and check.Kind do. -/
import Derived.Test.YtfdpkmpnfalggaaDoorRr
set_option linter.unusedVariables false
set_option linter.unusedSimpArgs false
namespace Go.Proofs.YtfdpkmpnfalggaaDoor
open Go.RowKit

theorem _root_.Go.RowKit.Below.heap_alloc_lt' (w : World) (o : Obj) (q : Nat) (h : q < w.heap.size) : (w.alloc o).heap[q]? = w.heap[q]? := ((Below.refl w.heap.size w).alloc (Nat.le_refl _) o).block q h

theorem two_of {α : Type} : ∀ {l : List α}, l.length = 2 → ∃ x y, l = [x, y]
  | [x, y], _ => ⟨x, y, rfl⟩

/-- What the array of two holds when k Kids have been gone through. -/
def arrV (l : List Key) (kids : List Expr) (k i : Nat) : Int := if i < k then (match kids[i]? with | some x => (kindP l x).1 | none => 0) else 0

theorem arr_step {l : List Key} {kids : List Expr} {k p : Nat} {w : World} (hk : k < kids.length) (hle : kids.length ≤ 2) (g0 : w.cell? ⟨p, 0, none⟩ = some (.int .i64 (arrV l kids k 0))) (g1 : w.cell? ⟨p, 1, none⟩ = some (.int .i64 (arrV l kids k 1))) :
    (w.setCell ⟨p, k, none⟩ (.int .i64 (kindP l kids[k]).1)).cell? ⟨p, 0, none⟩ = some (.int .i64 (arrV l kids (k + 1) 0)) ∧ (w.setCell ⟨p, k, none⟩ (.int .i64 (kindP l kids[k]).1)).cell? ⟨p, 1, none⟩ = some (.int .i64 (arrV l kids (k + 1) 1)) := by
  rcases (show k = 0 ∨ k = 1 by omega) with rfl | rfl
  · refine ⟨?_, ?_⟩
    · rw [World.cell?_setCell_same _ _ _ g0]; simp [arrV, List.getElem?_eq_getElem hk]
    · rw [World.cell?_setCell_other _ _ _ _ (by simp), g1]; simp [arrV]
  · refine ⟨?_, ?_⟩
    · rw [World.cell?_setCell_other _ _ _ _ (by simp), g0]; simp [arrV]
    · rw [World.cell?_setCell_same _ _ _ g1]; simp [arrV, List.getElem?_eq_getElem hk]

set_option maxRecDepth 100000 in
set_option maxHeartbeats 4000000 in
theorem rkind_any (l : List Key) : ∀ (m : Nat) (kind n : Int) (name : ByteArray) (kids : List Expr) (h : shallowB m (.mk kind n name kids) = true) (A : Option Addr) (c : Nat) (S : Nat → Prop) (w : World)
    (hr : RdV S w (.l 4 (Expr.ds kids)) (.slice A kids.length c)) (Al : Option Addr) (cl : Nat) (Sl : Nat → Prop) (hl : RdV Sl w (.l 3 (Key.ds l)) (.slice Al l.length cl)),
    Calls Tryd.prog 28 #[.agg #[.int .i64 kind, .int .i64 n, .string name, .slice A kids.length c], .slice Al l.length cl] w fun e w' => e = .returned (.tuple #[.int .i64 (kindP l (.mk kind n name kids)).1, .int .i64 (kindP l (.mk kind n name kids)).2]) ∧ Below w.heap.size w w' := by
  intro m
  induction m with
  | zero => intro kind n name kids h; exact absurd h (by simp [shallowB])
  | succ m ih =>
    intro kind n name kids h A c S w hr Al cl Sl hl
    obtain ⟨hk0, hk1, hkl, _, hkids⟩ := sh_split h
    have hk2 := formKids_le kind.toNat
    have hB : ∀ ob, Below w.heap.size w (w.alloc ob) := fun ob => below_alloc' (Below.refl _ _) _
    have hle : kids.length ≤ 2 := by omega
    have hwf := keys_wf hl
    obtain ⟨k, rfl⟩ := Int.eq_ofNat_of_zero_le hk0
    have hk20 : k < 20 := by omega
    have HKL : Hid ((kids.length : Int) = formKids k) := hkl
    clear hkl hk2 h
    go_enter Tryd.func28, Tryd.ntmps28
    go_wp2
    go_loopw [7] (fun i wr => (∃ k' : Nat, k' ≤ kids.length ∧ i = .int .i64 k' ∧ (∀ j (hj : j < kids.length), j < k' → (kindP l kids[j]).2 = 0) ∧
      wr.cell? ⟨w.heap.size + 1, 0, none⟩ = some (.int .i64 (arrV l kids k' 0)) ∧ wr.cell? ⟨w.heap.size + 1, 1, none⟩ = some (.int .i64 (arrV l kids k' 1)) ∧ wr.frozen? ⟨w.heap.size + 1, 0, none⟩ = false ∧ wr.frozen? ⟨w.heap.size + 1, 1, none⟩ = false) ∧
      Below (w.heap.size + 1) (w.alloc (.cells #[.int .i64 k, .int .i64 n, .string name, .slice A kids.length c] 24)) wr) (fun i _ => kids.length - (intOf i).toNat)
    case atStart => exact ⟨⟨0, Nat.zero_le _, rfl, fun j _ hj => absurd hj (Nat.not_lt_zero j), by simp [go_sem, arrV], by simp [go_sem, arrV], by simp [go_sem], by simp [go_sem]⟩, ⟨rfl, rfl, rfl, by simp, fun q hq => by rw [Below.heap_alloc_lt' _ _ _ (by simpa using hq)]⟩⟩
    case round =>
      obtain ⟨⟨k', hk', rfl, hall, a0, a1, f0, f1⟩, hB1⟩ := hrel
      have hB1' : Below (w.alloc (.cells #[.int .i64 k, .int .i64 n, .string name, .slice A kids.length c] 24)).heap.size (w.alloc (.cells #[.int .i64 k, .int .i64 n, .string name, .slice A kids.length c] 24)) wr := by simpa using hB1
      have hBw : Below w.heap.size w wr := (hB _).trans' hB1'
      have hax := World.block_lt_of_cell? wr _ a0
      by_cases hlt : k' < kids.length
      · obtain ⟨b, o, A', c', rfl, _, hb, _, d0, d1, d2, d3, hr', hs', hk'', hn'⟩ := expr_at hr hlt
        have hI := ih kids[k'].kind kids[k'].n kids[k'].name kids[k'].kids (by rw [Expr.eta]; exact hkids k' hlt) A' c' S _ (hr'.blw hBw) Al cl Sl (hl.blw hBw)
        have hki : (k' : Int) < 2 := by omega
        obtain ⟨q1, q2⟩ := bcell hB1'
        have ak0 : wr.cell? ⟨w.heap.size + 1, k', none⟩ = some (.int .i64 (arrV l kids k' k')) := by rcases (show k' = 0 ∨ k' = 1 by omega) with h | h <;> subst h <;> assumption
        have fk0 : wr.frozen? ⟨w.heap.size + 1, k', none⟩ = false := by rcases (show k' = 0 ∨ k' = 1 by omega) with h | h <;> subst h <;> assumption
        by_cases hx : (kindP l kids[k']).2 = 0
        · go_wp2_with (go_at_call 28; refine hI.mono ?_; rw [Expr.eta, hx]; rintro e w' ⟨rfl, hb'⟩; obtain ⟨z1, z2⟩ := bcell hb'; have hbz := hb'.size)
          go_roundw
          case rel =>
            have g := arr_step hlt hle ((z1 _ 0 hax).trans a0) ((z1 _ 1 hax).trans a1)
            exact ⟨⟨k' + 1, by omega, by go_num, fun j hj hj' => if h : j = k' then by subst h; exact hx else hall j hj (by omega), g.1, g.2, by rw [World.frozen?_setCell]; exact (z2 _ 0 hax).trans f0, by rw [World.frozen?_setCell]; exact (z2 _ 1 hax).trans f1⟩,
              below_set' (hB1.trans ⟨hb'.os, hb'.tape, hb'.output, hb'.size, fun q hq => hb'.block q (by omega)⟩) (Nat.le_refl _)⟩
          case measure => simp only [intOf]; omega
        · go_wp2_with (go_at_call 28; refine hI.mono ?_; rw [Expr.eta]; rintro e w' ⟨rfl, hb'⟩)
          go_ret2
          have he : ¬ kids = [] := fun h => by subst h; simp at hlt
          refine ⟨ret_two ?_ ?_, hBw.trans' hb'⟩ <;> (rw [kindP, if_neg (by simpa using he), kindsP_err l kids k' hlt hall hx])
      · have hall' : ∀ j (hj : j < kids.length), (kindP l kids[j]).2 = 0 := fun j hj => hall j hj (by omega)
        have hks := kindsP_ok l kids hall'
        have hkk : k' = kids.length := by omega
        subst hkk
        obtain ⟨q1, q2⟩ := bcell hB1'
        have hF := rFindKey_any l name Al cl Sl wr (hl.blw hBw)
        clear hall ih hkids
        have hkc : k = 0 ∨ k = 1 ∨ k = 2 ∨ k = 3 ∨ k = 4 ∨ k = 5 ∨ k = 6 ∨ k = 7 ∨ k = 8 ∨ k = 9 ∨ k = 10 ∨ k = 11 ∨ k = 12 ∨ k = 13 ∨ k = 14 ∨ k = 15 ∨ k = 16 ∨ k = 17 ∨ k = 18 ∨ k = 19 := by omega
        rcases hkc with rfl | rfl | rfl | rfl | rfl | rfl | rfl | rfl | rfl | rfl | rfl | rfl | rfl | rfl | rfl | rfl | rfl | rfl | rfl | rfl
        · obtain rfl : kids = [] := List.eq_nil_of_length_eq_zero (by have := HKL.out; have : formKids 0 = 0 := rfl; omega)
          have e0 : arrV l [] 0 0 = 0 := rfl
          have e1 : arrV l [] 0 1 = 0 := rfl
          go_wp2
          go_ret2
          exact ⟨ret_two (by simp [kindP, plainP]) (by simp [kindP, plainP]), hBw⟩
        · obtain rfl : kids = [] := List.eq_nil_of_length_eq_zero (by have := HKL.out; have : formKids 1 = 0 := rfl; omega)
          have e0 : arrV l [] 0 0 = 0 := rfl
          have e1 : arrV l [] 0 1 = 0 := rfl
          go_wp2
          go_ret2
          exact ⟨ret_two (by simp [kindP, plainP]) (by simp [kindP, plainP]), hBw⟩
        · obtain rfl : kids = [] := List.eq_nil_of_length_eq_zero (by have := HKL.out; have : formKids 2 = 0 := rfl; omega)
          have e0 : arrV l [] 0 0 = 0 := rfl
          have e1 : arrV l [] 0 1 = 0 := rfl
          rcases idxP_range (fun k : Key => decide (k.name = name)) l with hi | ⟨j, hj, hi⟩
          · have hi' : findKey l name = -1 := hi
            rw [hi'] at hF
            go_wp2_with (go_at_call 56; refine hF.mono ?_; rintro e w' ⟨rfl, rfl⟩)
            go_ret2
            exact ⟨ret_two (by simp [kindP, plainP, hi']) (by simp [kindP, plainP, hi']), hBw⟩
          · have hi' : findKey l name = (j : Int) := hi
            rw [hi'] at hF
            have hlen := hl.len_le
            obtain ⟨b, o, rfl, _, hb0, _, d0, d1, d2, hs', hk'⟩ := key_at (hl.blw hBw) hj
            go_wp2_with (go_at_call 56; refine hF.mono ?_; rintro e w' ⟨rfl, rfl⟩)
            go_ret2
            have hj0 : ¬ (j : Int) < 0 := by omega
            exact ⟨ret_two (by simp [kindP, plainP, hi', keyAt, hj, if_neg hj0]) (by simp [kindP, plainP, hi', hj, if_neg hj0]), hBw⟩
        · obtain rfl : kids = [] := List.eq_nil_of_length_eq_zero (by have := HKL.out; have : formKids 3 = 0 := rfl; omega)
          have e0 : arrV l [] 0 0 = 0 := rfl
          have e1 : arrV l [] 0 1 = 0 := rfl
          go_wp2
          go_ret2
          exact ⟨ret_two (by simp [kindP, plainP]) (by simp [kindP, plainP]), hBw⟩
        · obtain rfl : kids = [] := List.eq_nil_of_length_eq_zero (by have := HKL.out; have : formKids 4 = 0 := rfl; omega)
          have e0 : arrV l [] 0 0 = 0 := rfl
          have e1 : arrV l [] 0 1 = 0 := rfl
          go_wp2
          go_ret2
          exact ⟨ret_two (by simp [kindP, plainP]) (by simp [kindP, plainP]), hBw⟩
        · obtain rfl : kids = [] := List.eq_nil_of_length_eq_zero (by have := HKL.out; have : formKids 5 = 0 := rfl; omega)
          have e0 : arrV l [] 0 0 = 0 := rfl
          have e1 : arrV l [] 0 1 = 0 := rfl
          go_wp2
          go_ret2
          exact ⟨ret_two (by simp [kindP, plainP]) (by simp [kindP, plainP]), hBw⟩
        · obtain ⟨x, y, rfl⟩ : ∃ x y, kids = [x, y] := two_of (by have := HKL.out; have : formKids 6 = 2 := rfl; omega)
          have hK : kindP l (.mk 6 n name [x, y]) = if (joinedP 6 [(kindP l x).1, (kindP l y).1]).2 then ((joinedP 6 [(kindP l x).1, (kindP l y).1]).1, 0) else (0, 7) := by
            rw [kindP, hks]; rfl
          have e0 : arrV l [x, y] [x, y].length 0 = (kindP l x).1 := rfl
          have e1 : arrV l [x, y] [x, y].length 1 = (kindP l y).1 := rfl
          rw [e0] at a0
          rw [e1] at a1
          generalize (kindP l x).1 = p at a0 hK
          generalize (kindP l y).1 = r at a1 hK
          have HK := Lib.hid hK
          clear hK hks hall' e0 e1
          by_cases hpr : r = p
          · subst hpr
            by_cases p1 : r = 1
            · subst p1
              · go_wp2
                go_ret2
                refine ⟨ret_two ?_ ?_, hBw⟩ <;> (rw [HK.out]; simp [joinedP, allEq, *])
            by_cases p4 : r = 4
            · subst p4
              · go_wp2
                go_ret2
                refine ⟨ret_two ?_ ?_, hBw⟩ <;> (rw [HK.out]; simp [joinedP, allEq, *])
            by_cases p0 : r = 0
            · subst p0
              · go_wp2
                go_ret2
                refine ⟨ret_two ?_ ?_, hBw⟩ <;> (rw [HK.out]; simp [joinedP, allEq, *])
            have f1 : (r == 1) = false := by simpa using p1
            have f4 : (r == 4) = false := by simpa using p4
            have f0 : (r == 0) = false := by simpa using p0
            · go_wp2
              go_ret2
              refine ⟨ret_two ?_ ?_, hBw⟩ <;> (rw [HK.out]; simp [joinedP, allEq, *])
          have fpr : (p == r) = false := by rw [beq_eq_false_iff_ne]; exact fun h => hpr h.symm
          by_cases p1 : p = 1
          · subst p1
            have f1 : (r == 1) = false := by simpa using hpr
            · go_wp2
              go_ret2
              refine ⟨ret_two ?_ ?_, hBw⟩ <;> (rw [HK.out]; simp [joinedP, allEq, *])
          by_cases p4 : p = 4
          · subst p4
            have f1 : (r == 4) = false := by simpa using hpr
            · go_wp2
              go_ret2
              refine ⟨ret_two ?_ ?_, hBw⟩ <;> (rw [HK.out]; simp [joinedP, allEq, *])
          by_cases p0 : p = 0
          · subst p0
            have f1 : (r == 0) = false := by simpa using hpr
            · go_wp2
              go_ret2
              refine ⟨ret_two ?_ ?_, hBw⟩ <;> (rw [HK.out]; simp [joinedP, allEq, *])
          have f1 : (p == 1) = false := by simpa using p1
          have f4 : (p == 4) = false := by simpa using p4
          have f0 : (p == 0) = false := by simpa using p0
          · go_wp2
            go_ret2
            refine ⟨ret_two ?_ ?_, hBw⟩ <;> (rw [HK.out]; simp [joinedP, allEq, *])
        · obtain ⟨x, y, rfl⟩ : ∃ x y, kids = [x, y] := two_of (by have := HKL.out; have : formKids 7 = 2 := rfl; omega)
          have hK : kindP l (.mk 7 n name [x, y]) = if (joinedP 7 [(kindP l x).1, (kindP l y).1]).2 then ((joinedP 7 [(kindP l x).1, (kindP l y).1]).1, 0) else (0, 7) := by
            rw [kindP, hks]; rfl
          have e0 : arrV l [x, y] [x, y].length 0 = (kindP l x).1 := rfl
          have e1 : arrV l [x, y] [x, y].length 1 = (kindP l y).1 := rfl
          rw [e0] at a0
          rw [e1] at a1
          generalize (kindP l x).1 = p at a0 hK
          generalize (kindP l y).1 = r at a1 hK
          have HK := Lib.hid hK
          clear hK hks hall' e0 e1
          by_cases hpr : r = p
          · subst hpr
            by_cases p1 : r = 1
            · subst p1
              · go_wp2
                go_ret2
                refine ⟨ret_two ?_ ?_, hBw⟩ <;> (rw [HK.out]; simp [joinedP, allEq, *])
            by_cases p4 : r = 4
            · subst p4
              · go_wp2
                go_ret2
                refine ⟨ret_two ?_ ?_, hBw⟩ <;> (rw [HK.out]; simp [joinedP, allEq, *])
            by_cases p0 : r = 0
            · subst p0
              · go_wp2
                go_ret2
                refine ⟨ret_two ?_ ?_, hBw⟩ <;> (rw [HK.out]; simp [joinedP, allEq, *])
            have f1 : (r == 1) = false := by simpa using p1
            have f4 : (r == 4) = false := by simpa using p4
            have f0 : (r == 0) = false := by simpa using p0
            · go_wp2
              go_ret2
              refine ⟨ret_two ?_ ?_, hBw⟩ <;> (rw [HK.out]; simp [joinedP, allEq, *])
          have fpr : (p == r) = false := by rw [beq_eq_false_iff_ne]; exact fun h => hpr h.symm
          by_cases p1 : p = 1
          · subst p1
            have f1 : (r == 1) = false := by simpa using hpr
            · go_wp2
              go_ret2
              refine ⟨ret_two ?_ ?_, hBw⟩ <;> (rw [HK.out]; simp [joinedP, allEq, *])
          by_cases p4 : p = 4
          · subst p4
            have f1 : (r == 4) = false := by simpa using hpr
            · go_wp2
              go_ret2
              refine ⟨ret_two ?_ ?_, hBw⟩ <;> (rw [HK.out]; simp [joinedP, allEq, *])
          by_cases p0 : p = 0
          · subst p0
            have f1 : (r == 0) = false := by simpa using hpr
            · go_wp2
              go_ret2
              refine ⟨ret_two ?_ ?_, hBw⟩ <;> (rw [HK.out]; simp [joinedP, allEq, *])
          have f1 : (p == 1) = false := by simpa using p1
          have f4 : (p == 4) = false := by simpa using p4
          have f0 : (p == 0) = false := by simpa using p0
          · go_wp2
            go_ret2
            refine ⟨ret_two ?_ ?_, hBw⟩ <;> (rw [HK.out]; simp [joinedP, allEq, *])
        · obtain ⟨x, y, rfl⟩ : ∃ x y, kids = [x, y] := two_of (by have := HKL.out; have : formKids 8 = 2 := rfl; omega)
          have hK : kindP l (.mk 8 n name [x, y]) = if (joinedP 8 [(kindP l x).1, (kindP l y).1]).2 then ((joinedP 8 [(kindP l x).1, (kindP l y).1]).1, 0) else (0, 7) := by
            rw [kindP, hks]; rfl
          have e0 : arrV l [x, y] [x, y].length 0 = (kindP l x).1 := rfl
          have e1 : arrV l [x, y] [x, y].length 1 = (kindP l y).1 := rfl
          rw [e0] at a0
          rw [e1] at a1
          generalize (kindP l x).1 = p at a0 hK
          generalize (kindP l y).1 = r at a1 hK
          have HK := Lib.hid hK
          clear hK hks hall' e0 e1
          by_cases hpr : r = p
          · subst hpr
            by_cases p1 : r = 1
            · subst p1
              · go_wp2
                go_ret2
                refine ⟨ret_two ?_ ?_, hBw⟩ <;> (rw [HK.out]; simp [joinedP, allEq, *])
            by_cases p4 : r = 4
            · subst p4
              · go_wp2
                go_ret2
                refine ⟨ret_two ?_ ?_, hBw⟩ <;> (rw [HK.out]; simp [joinedP, allEq, *])
            by_cases p0 : r = 0
            · subst p0
              · go_wp2
                go_ret2
                refine ⟨ret_two ?_ ?_, hBw⟩ <;> (rw [HK.out]; simp [joinedP, allEq, *])
            have f1 : (r == 1) = false := by simpa using p1
            have f4 : (r == 4) = false := by simpa using p4
            have f0 : (r == 0) = false := by simpa using p0
            · go_wp2
              go_ret2
              refine ⟨ret_two ?_ ?_, hBw⟩ <;> (rw [HK.out]; simp [joinedP, allEq, *])
          have fpr : (p == r) = false := by rw [beq_eq_false_iff_ne]; exact fun h => hpr h.symm
          by_cases p1 : p = 1
          · subst p1
            have f1 : (r == 1) = false := by simpa using hpr
            · go_wp2
              go_ret2
              refine ⟨ret_two ?_ ?_, hBw⟩ <;> (rw [HK.out]; simp [joinedP, allEq, *])
          by_cases p4 : p = 4
          · subst p4
            have f1 : (r == 4) = false := by simpa using hpr
            · go_wp2
              go_ret2
              refine ⟨ret_two ?_ ?_, hBw⟩ <;> (rw [HK.out]; simp [joinedP, allEq, *])
          by_cases p0 : p = 0
          · subst p0
            have f1 : (r == 0) = false := by simpa using hpr
            · go_wp2
              go_ret2
              refine ⟨ret_two ?_ ?_, hBw⟩ <;> (rw [HK.out]; simp [joinedP, allEq, *])
          have f1 : (p == 1) = false := by simpa using p1
          have f4 : (p == 4) = false := by simpa using p4
          have f0 : (p == 0) = false := by simpa using p0
          · go_wp2
            go_ret2
            refine ⟨ret_two ?_ ?_, hBw⟩ <;> (rw [HK.out]; simp [joinedP, allEq, *])
        · obtain ⟨x, y, rfl⟩ : ∃ x y, kids = [x, y] := two_of (by have := HKL.out; have : formKids 9 = 2 := rfl; omega)
          have hK : kindP l (.mk 9 n name [x, y]) = if (joinedP 9 [(kindP l x).1, (kindP l y).1]).2 then ((joinedP 9 [(kindP l x).1, (kindP l y).1]).1, 0) else (0, 7) := by
            rw [kindP, hks]; rfl
          have e0 : arrV l [x, y] [x, y].length 0 = (kindP l x).1 := rfl
          have e1 : arrV l [x, y] [x, y].length 1 = (kindP l y).1 := rfl
          rw [e0] at a0
          rw [e1] at a1
          generalize (kindP l x).1 = p at a0 hK
          generalize (kindP l y).1 = r at a1 hK
          have HK := Lib.hid hK
          clear hK hks hall' e0 e1
          by_cases hpr : r = p
          · subst hpr
            by_cases p1 : r = 1
            · subst p1
              · go_wp2
                go_ret2
                refine ⟨ret_two ?_ ?_, hBw⟩ <;> (rw [HK.out]; simp [joinedP, allEq, *])
            by_cases p4 : r = 4
            · subst p4
              · go_wp2
                go_ret2
                refine ⟨ret_two ?_ ?_, hBw⟩ <;> (rw [HK.out]; simp [joinedP, allEq, *])
            by_cases p0 : r = 0
            · subst p0
              · go_wp2
                go_ret2
                refine ⟨ret_two ?_ ?_, hBw⟩ <;> (rw [HK.out]; simp [joinedP, allEq, *])
            have f1 : (r == 1) = false := by simpa using p1
            have f4 : (r == 4) = false := by simpa using p4
            have f0 : (r == 0) = false := by simpa using p0
            · go_wp2
              go_ret2
              refine ⟨ret_two ?_ ?_, hBw⟩ <;> (rw [HK.out]; simp [joinedP, allEq, *])
          have fpr : (p == r) = false := by rw [beq_eq_false_iff_ne]; exact fun h => hpr h.symm
          by_cases p1 : p = 1
          · subst p1
            have f1 : (r == 1) = false := by simpa using hpr
            · go_wp2
              go_ret2
              refine ⟨ret_two ?_ ?_, hBw⟩ <;> (rw [HK.out]; simp [joinedP, allEq, *])
          by_cases p4 : p = 4
          · subst p4
            have f1 : (r == 4) = false := by simpa using hpr
            · go_wp2
              go_ret2
              refine ⟨ret_two ?_ ?_, hBw⟩ <;> (rw [HK.out]; simp [joinedP, allEq, *])
          by_cases p0 : p = 0
          · subst p0
            have f1 : (r == 0) = false := by simpa using hpr
            · go_wp2
              go_ret2
              refine ⟨ret_two ?_ ?_, hBw⟩ <;> (rw [HK.out]; simp [joinedP, allEq, *])
          have f1 : (p == 1) = false := by simpa using p1
          have f4 : (p == 4) = false := by simpa using p4
          have f0 : (p == 0) = false := by simpa using p0
          · go_wp2
            go_ret2
            refine ⟨ret_two ?_ ?_, hBw⟩ <;> (rw [HK.out]; simp [joinedP, allEq, *])
        · obtain ⟨x, y, rfl⟩ : ∃ x y, kids = [x, y] := two_of (by have := HKL.out; have : formKids 10 = 2 := rfl; omega)
          have hK : kindP l (.mk 10 n name [x, y]) = if (joinedP 10 [(kindP l x).1, (kindP l y).1]).2 then ((joinedP 10 [(kindP l x).1, (kindP l y).1]).1, 0) else (0, 7) := by
            rw [kindP, hks]; rfl
          have e0 : arrV l [x, y] [x, y].length 0 = (kindP l x).1 := rfl
          have e1 : arrV l [x, y] [x, y].length 1 = (kindP l y).1 := rfl
          rw [e0] at a0
          rw [e1] at a1
          generalize (kindP l x).1 = p at a0 hK
          generalize (kindP l y).1 = r at a1 hK
          have HK := Lib.hid hK
          clear hK hks hall' e0 e1
          by_cases hpr : r = p
          · subst hpr
            by_cases p1 : r = 1
            · subst p1
              · go_wp2
                go_ret2
                refine ⟨ret_two ?_ ?_, hBw⟩ <;> (rw [HK.out]; simp [joinedP, allEq, *])
            by_cases p4 : r = 4
            · subst p4
              · go_wp2
                go_ret2
                refine ⟨ret_two ?_ ?_, hBw⟩ <;> (rw [HK.out]; simp [joinedP, allEq, *])
            by_cases p0 : r = 0
            · subst p0
              · go_wp2
                go_ret2
                refine ⟨ret_two ?_ ?_, hBw⟩ <;> (rw [HK.out]; simp [joinedP, allEq, *])
            have f1 : (r == 1) = false := by simpa using p1
            have f4 : (r == 4) = false := by simpa using p4
            have f0 : (r == 0) = false := by simpa using p0
            · go_wp2
              go_ret2
              refine ⟨ret_two ?_ ?_, hBw⟩ <;> (rw [HK.out]; simp [joinedP, allEq, *])
          have fpr : (p == r) = false := by rw [beq_eq_false_iff_ne]; exact fun h => hpr h.symm
          by_cases p1 : p = 1
          · subst p1
            have f1 : (r == 1) = false := by simpa using hpr
            · go_wp2
              go_ret2
              refine ⟨ret_two ?_ ?_, hBw⟩ <;> (rw [HK.out]; simp [joinedP, allEq, *])
          by_cases p4 : p = 4
          · subst p4
            have f1 : (r == 4) = false := by simpa using hpr
            · go_wp2
              go_ret2
              refine ⟨ret_two ?_ ?_, hBw⟩ <;> (rw [HK.out]; simp [joinedP, allEq, *])
          by_cases p0 : p = 0
          · subst p0
            have f1 : (r == 0) = false := by simpa using hpr
            · go_wp2
              go_ret2
              refine ⟨ret_two ?_ ?_, hBw⟩ <;> (rw [HK.out]; simp [joinedP, allEq, *])
          have f1 : (p == 1) = false := by simpa using p1
          have f4 : (p == 4) = false := by simpa using p4
          have f0 : (p == 0) = false := by simpa using p0
          · go_wp2
            go_ret2
            refine ⟨ret_two ?_ ?_, hBw⟩ <;> (rw [HK.out]; simp [joinedP, allEq, *])
        · obtain ⟨x, y, rfl⟩ : ∃ x y, kids = [x, y] := two_of (by have := HKL.out; have : formKids 11 = 2 := rfl; omega)
          have hK : kindP l (.mk 11 n name [x, y]) = if (joinedP 11 [(kindP l x).1, (kindP l y).1]).2 then ((joinedP 11 [(kindP l x).1, (kindP l y).1]).1, 0) else (0, 7) := by
            rw [kindP, hks]; rfl
          have e0 : arrV l [x, y] [x, y].length 0 = (kindP l x).1 := rfl
          have e1 : arrV l [x, y] [x, y].length 1 = (kindP l y).1 := rfl
          rw [e0] at a0
          rw [e1] at a1
          generalize (kindP l x).1 = p at a0 hK
          generalize (kindP l y).1 = r at a1 hK
          have HK := Lib.hid hK
          clear hK hks hall' e0 e1
          by_cases hpr : r = p
          · subst hpr
            by_cases p1 : r = 1
            · subst p1
              · go_wp2
                go_ret2
                refine ⟨ret_two ?_ ?_, hBw⟩ <;> (rw [HK.out]; simp [joinedP, allEq, *])
            by_cases p4 : r = 4
            · subst p4
              · go_wp2
                go_ret2
                refine ⟨ret_two ?_ ?_, hBw⟩ <;> (rw [HK.out]; simp [joinedP, allEq, *])
            by_cases p0 : r = 0
            · subst p0
              · go_wp2
                go_ret2
                refine ⟨ret_two ?_ ?_, hBw⟩ <;> (rw [HK.out]; simp [joinedP, allEq, *])
            have f1 : (r == 1) = false := by simpa using p1
            have f4 : (r == 4) = false := by simpa using p4
            have f0 : (r == 0) = false := by simpa using p0
            · go_wp2
              go_ret2
              refine ⟨ret_two ?_ ?_, hBw⟩ <;> (rw [HK.out]; simp [joinedP, allEq, *])
          have fpr : (p == r) = false := by rw [beq_eq_false_iff_ne]; exact fun h => hpr h.symm
          by_cases p1 : p = 1
          · subst p1
            have f1 : (r == 1) = false := by simpa using hpr
            · go_wp2
              go_ret2
              refine ⟨ret_two ?_ ?_, hBw⟩ <;> (rw [HK.out]; simp [joinedP, allEq, *])
          by_cases p4 : p = 4
          · subst p4
            have f1 : (r == 4) = false := by simpa using hpr
            · go_wp2
              go_ret2
              refine ⟨ret_two ?_ ?_, hBw⟩ <;> (rw [HK.out]; simp [joinedP, allEq, *])
          by_cases p0 : p = 0
          · subst p0
            have f1 : (r == 0) = false := by simpa using hpr
            · go_wp2
              go_ret2
              refine ⟨ret_two ?_ ?_, hBw⟩ <;> (rw [HK.out]; simp [joinedP, allEq, *])
          have f1 : (p == 1) = false := by simpa using p1
          have f4 : (p == 4) = false := by simpa using p4
          have f0 : (p == 0) = false := by simpa using p0
          · go_wp2
            go_ret2
            refine ⟨ret_two ?_ ?_, hBw⟩ <;> (rw [HK.out]; simp [joinedP, allEq, *])
        · obtain ⟨x, y, rfl⟩ : ∃ x y, kids = [x, y] := two_of (by have := HKL.out; have : formKids 12 = 2 := rfl; omega)
          have hK : kindP l (.mk 12 n name [x, y]) = if (joinedP 12 [(kindP l x).1, (kindP l y).1]).2 then ((joinedP 12 [(kindP l x).1, (kindP l y).1]).1, 0) else (0, 7) := by
            rw [kindP, hks]; rfl
          have e0 : arrV l [x, y] [x, y].length 0 = (kindP l x).1 := rfl
          have e1 : arrV l [x, y] [x, y].length 1 = (kindP l y).1 := rfl
          rw [e0] at a0
          rw [e1] at a1
          generalize (kindP l x).1 = p at a0 hK
          generalize (kindP l y).1 = r at a1 hK
          have HK := Lib.hid hK
          clear hK hks hall' e0 e1
          by_cases hpr : r = p
          · subst hpr
            by_cases p1 : r = 1
            · subst p1
              · go_wp2
                go_ret2
                refine ⟨ret_two ?_ ?_, hBw⟩ <;> (rw [HK.out]; simp [joinedP, allEq, *])
            by_cases p4 : r = 4
            · subst p4
              · go_wp2
                go_ret2
                refine ⟨ret_two ?_ ?_, hBw⟩ <;> (rw [HK.out]; simp [joinedP, allEq, *])
            by_cases p0 : r = 0
            · subst p0
              · go_wp2
                go_ret2
                refine ⟨ret_two ?_ ?_, hBw⟩ <;> (rw [HK.out]; simp [joinedP, allEq, *])
            have f1 : (r == 1) = false := by simpa using p1
            have f4 : (r == 4) = false := by simpa using p4
            have f0 : (r == 0) = false := by simpa using p0
            · go_wp2
              go_ret2
              refine ⟨ret_two ?_ ?_, hBw⟩ <;> (rw [HK.out]; simp [joinedP, allEq, *])
          have fpr : (p == r) = false := by rw [beq_eq_false_iff_ne]; exact fun h => hpr h.symm
          by_cases p1 : p = 1
          · subst p1
            have f1 : (r == 1) = false := by simpa using hpr
            · go_wp2
              go_ret2
              refine ⟨ret_two ?_ ?_, hBw⟩ <;> (rw [HK.out]; simp [joinedP, allEq, *])
          by_cases p4 : p = 4
          · subst p4
            have f1 : (r == 4) = false := by simpa using hpr
            · go_wp2
              go_ret2
              refine ⟨ret_two ?_ ?_, hBw⟩ <;> (rw [HK.out]; simp [joinedP, allEq, *])
          by_cases p0 : p = 0
          · subst p0
            have f1 : (r == 0) = false := by simpa using hpr
            · go_wp2
              go_ret2
              refine ⟨ret_two ?_ ?_, hBw⟩ <;> (rw [HK.out]; simp [joinedP, allEq, *])
          have f1 : (p == 1) = false := by simpa using p1
          have f4 : (p == 4) = false := by simpa using p4
          have f0 : (p == 0) = false := by simpa using p0
          · go_wp2
            go_ret2
            refine ⟨ret_two ?_ ?_, hBw⟩ <;> (rw [HK.out]; simp [joinedP, allEq, *])
        · obtain ⟨x, y, rfl⟩ : ∃ x y, kids = [x, y] := two_of (by have := HKL.out; have : formKids 13 = 2 := rfl; omega)
          have hK : kindP l (.mk 13 n name [x, y]) = if (joinedP 13 [(kindP l x).1, (kindP l y).1]).2 then ((joinedP 13 [(kindP l x).1, (kindP l y).1]).1, 0) else (0, 7) := by
            rw [kindP, hks]; rfl
          have e0 : arrV l [x, y] [x, y].length 0 = (kindP l x).1 := rfl
          have e1 : arrV l [x, y] [x, y].length 1 = (kindP l y).1 := rfl
          rw [e0] at a0
          rw [e1] at a1
          generalize (kindP l x).1 = p at a0 hK
          generalize (kindP l y).1 = r at a1 hK
          have HK := Lib.hid hK
          clear hK hks hall' e0 e1
          by_cases hpr : r = p
          · subst hpr
            by_cases p1 : r = 1
            · subst p1
              · go_wp2
                go_ret2
                refine ⟨ret_two ?_ ?_, hBw⟩ <;> (rw [HK.out]; simp [joinedP, allEq, *])
            by_cases p4 : r = 4
            · subst p4
              · go_wp2
                go_ret2
                refine ⟨ret_two ?_ ?_, hBw⟩ <;> (rw [HK.out]; simp [joinedP, allEq, *])
            by_cases p0 : r = 0
            · subst p0
              · go_wp2
                go_ret2
                refine ⟨ret_two ?_ ?_, hBw⟩ <;> (rw [HK.out]; simp [joinedP, allEq, *])
            have f1 : (r == 1) = false := by simpa using p1
            have f4 : (r == 4) = false := by simpa using p4
            have f0 : (r == 0) = false := by simpa using p0
            · go_wp2
              go_ret2
              refine ⟨ret_two ?_ ?_, hBw⟩ <;> (rw [HK.out]; simp [joinedP, allEq, *])
          have fpr : (p == r) = false := by rw [beq_eq_false_iff_ne]; exact fun h => hpr h.symm
          by_cases p1 : p = 1
          · subst p1
            have f1 : (r == 1) = false := by simpa using hpr
            · go_wp2
              go_ret2
              refine ⟨ret_two ?_ ?_, hBw⟩ <;> (rw [HK.out]; simp [joinedP, allEq, *])
          by_cases p4 : p = 4
          · subst p4
            have f1 : (r == 4) = false := by simpa using hpr
            · go_wp2
              go_ret2
              refine ⟨ret_two ?_ ?_, hBw⟩ <;> (rw [HK.out]; simp [joinedP, allEq, *])
          by_cases p0 : p = 0
          · subst p0
            have f1 : (r == 0) = false := by simpa using hpr
            · go_wp2
              go_ret2
              refine ⟨ret_two ?_ ?_, hBw⟩ <;> (rw [HK.out]; simp [joinedP, allEq, *])
          have f1 : (p == 1) = false := by simpa using p1
          have f4 : (p == 4) = false := by simpa using p4
          have f0 : (p == 0) = false := by simpa using p0
          · go_wp2
            go_ret2
            refine ⟨ret_two ?_ ?_, hBw⟩ <;> (rw [HK.out]; simp [joinedP, allEq, *])
        · obtain ⟨x, rfl⟩ : ∃ x, kids = [x] := List.length_eq_one_iff.1 (by have := HKL.out; have : formKids 14 = 1 := rfl; omega)
          have hK : kindP l (.mk 14 n name [x]) = if (joinedP 14 [(kindP l x).1]).2 then ((joinedP 14 [(kindP l x).1]).1, 0) else (0, 7) := by
            rw [kindP, hks]; rfl
          have e0 : arrV l [x] [x].length 0 = (kindP l x).1 := rfl
          have e1 : arrV l [x] [x].length 1 = 0 := rfl
          rw [e0] at a0
          rw [e1] at a1
          generalize (kindP l x).1 = p at a0 hK
          have HK := Lib.hid hK
          clear hK hks hall' e0 e1
          by_cases p1 : p = 1
          · subst p1
            · go_wp2
              go_ret2
              refine ⟨ret_two ?_ ?_, hBw⟩ <;> (rw [HK.out]; simp [joinedP, allEq, *])
          by_cases p4 : p = 4
          · subst p4
            · go_wp2
              go_ret2
              refine ⟨ret_two ?_ ?_, hBw⟩ <;> (rw [HK.out]; simp [joinedP, allEq, *])
          have f1 : (p == 1) = false := by simpa using p1
          have f4 : (p == 4) = false := by simpa using p4
          by_cases p0 : p = 0
          · subst p0
            · go_wp2
              go_ret2
              refine ⟨ret_two ?_ ?_, hBw⟩ <;> (rw [HK.out]; simp [joinedP, allEq, *])
          have f0 : (p == 0) = false := by simpa using p0
          · go_wp2
            go_ret2
            refine ⟨ret_two ?_ ?_, hBw⟩ <;> (rw [HK.out]; simp [joinedP, allEq, *])
        · obtain ⟨x, y, rfl⟩ : ∃ x y, kids = [x, y] := two_of (by have := HKL.out; have : formKids 15 = 2 := rfl; omega)
          have hK : kindP l (.mk 15 n name [x, y]) = if (joinedP 15 [(kindP l x).1, (kindP l y).1]).2 then ((joinedP 15 [(kindP l x).1, (kindP l y).1]).1, 0) else (0, 7) := by
            rw [kindP, hks]; rfl
          have e0 : arrV l [x, y] [x, y].length 0 = (kindP l x).1 := rfl
          have e1 : arrV l [x, y] [x, y].length 1 = (kindP l y).1 := rfl
          rw [e0] at a0
          rw [e1] at a1
          generalize (kindP l x).1 = p at a0 hK
          generalize (kindP l y).1 = r at a1 hK
          have HK := Lib.hid hK
          clear hK hks hall' e0 e1
          by_cases hpr : r = p
          · subst hpr
            by_cases p1 : r = 1
            · subst p1
              · go_wp2
                go_ret2
                refine ⟨ret_two ?_ ?_, hBw⟩ <;> (rw [HK.out]; simp [joinedP, allEq, *])
            by_cases p4 : r = 4
            · subst p4
              · go_wp2
                go_ret2
                refine ⟨ret_two ?_ ?_, hBw⟩ <;> (rw [HK.out]; simp [joinedP, allEq, *])
            by_cases p0 : r = 0
            · subst p0
              · go_wp2
                go_ret2
                refine ⟨ret_two ?_ ?_, hBw⟩ <;> (rw [HK.out]; simp [joinedP, allEq, *])
            have f1 : (r == 1) = false := by simpa using p1
            have f4 : (r == 4) = false := by simpa using p4
            have f0 : (r == 0) = false := by simpa using p0
            · go_wp2
              go_ret2
              refine ⟨ret_two ?_ ?_, hBw⟩ <;> (rw [HK.out]; simp [joinedP, allEq, *])
          have fpr : (p == r) = false := by rw [beq_eq_false_iff_ne]; exact fun h => hpr h.symm
          by_cases p1 : p = 1
          · subst p1
            have f1 : (r == 1) = false := by simpa using hpr
            · go_wp2
              go_ret2
              refine ⟨ret_two ?_ ?_, hBw⟩ <;> (rw [HK.out]; simp [joinedP, allEq, *])
          by_cases p4 : p = 4
          · subst p4
            have f1 : (r == 4) = false := by simpa using hpr
            · go_wp2
              go_ret2
              refine ⟨ret_two ?_ ?_, hBw⟩ <;> (rw [HK.out]; simp [joinedP, allEq, *])
          by_cases p0 : p = 0
          · subst p0
            have f1 : (r == 0) = false := by simpa using hpr
            · go_wp2
              go_ret2
              refine ⟨ret_two ?_ ?_, hBw⟩ <;> (rw [HK.out]; simp [joinedP, allEq, *])
          have f1 : (p == 1) = false := by simpa using p1
          have f4 : (p == 4) = false := by simpa using p4
          have f0 : (p == 0) = false := by simpa using p0
          · go_wp2
            go_ret2
            refine ⟨ret_two ?_ ?_, hBw⟩ <;> (rw [HK.out]; simp [joinedP, allEq, *])
        · obtain ⟨x, rfl⟩ : ∃ x, kids = [x] := List.length_eq_one_iff.1 (by have := HKL.out; have : formKids 16 = 1 := rfl; omega)
          have hK : kindP l (.mk 16 n name [x]) = if (joinedP 16 [(kindP l x).1]).2 then ((joinedP 16 [(kindP l x).1]).1, 0) else (0, 7) := by
            rw [kindP, hks]; rfl
          have e0 : arrV l [x] [x].length 0 = (kindP l x).1 := rfl
          have e1 : arrV l [x] [x].length 1 = 0 := rfl
          rw [e0] at a0
          rw [e1] at a1
          generalize (kindP l x).1 = p at a0 hK
          have HK := Lib.hid hK
          clear hK hks hall' e0 e1
          by_cases p1 : p = 1
          · subst p1
            · go_wp2
              go_ret2
              refine ⟨ret_two ?_ ?_, hBw⟩ <;> (rw [HK.out]; simp [joinedP, allEq, *])
          by_cases p4 : p = 4
          · subst p4
            · go_wp2
              go_ret2
              refine ⟨ret_two ?_ ?_, hBw⟩ <;> (rw [HK.out]; simp [joinedP, allEq, *])
          have f1 : (p == 1) = false := by simpa using p1
          have f4 : (p == 4) = false := by simpa using p4
          by_cases p0 : p = 0
          · subst p0
            · go_wp2
              go_ret2
              refine ⟨ret_two ?_ ?_, hBw⟩ <;> (rw [HK.out]; simp [joinedP, allEq, *])
          have f0 : (p == 0) = false := by simpa using p0
          · go_wp2
            go_ret2
            refine ⟨ret_two ?_ ?_, hBw⟩ <;> (rw [HK.out]; simp [joinedP, allEq, *])
        · obtain ⟨x, rfl⟩ : ∃ x, kids = [x] := List.length_eq_one_iff.1 (by have := HKL.out; have : formKids 17 = 1 := rfl; omega)
          have hK : kindP l (.mk 17 n name [x]) = if (joinedP 17 [(kindP l x).1]).2 then ((joinedP 17 [(kindP l x).1]).1, 0) else (0, 7) := by
            rw [kindP, hks]; rfl
          have e0 : arrV l [x] [x].length 0 = (kindP l x).1 := rfl
          have e1 : arrV l [x] [x].length 1 = 0 := rfl
          rw [e0] at a0
          rw [e1] at a1
          generalize (kindP l x).1 = p at a0 hK
          have HK := Lib.hid hK
          clear hK hks hall' e0 e1
          by_cases p1 : p = 1
          · subst p1
            · go_wp2
              go_ret2
              refine ⟨ret_two ?_ ?_, hBw⟩ <;> (rw [HK.out]; simp [joinedP, allEq, *])
          by_cases p4 : p = 4
          · subst p4
            · go_wp2
              go_ret2
              refine ⟨ret_two ?_ ?_, hBw⟩ <;> (rw [HK.out]; simp [joinedP, allEq, *])
          have f1 : (p == 1) = false := by simpa using p1
          have f4 : (p == 4) = false := by simpa using p4
          by_cases p0 : p = 0
          · subst p0
            · go_wp2
              go_ret2
              refine ⟨ret_two ?_ ?_, hBw⟩ <;> (rw [HK.out]; simp [joinedP, allEq, *])
          have f0 : (p == 0) = false := by simpa using p0
          · go_wp2
            go_ret2
            refine ⟨ret_two ?_ ?_, hBw⟩ <;> (rw [HK.out]; simp [joinedP, allEq, *])
        · obtain ⟨x, rfl⟩ : ∃ x, kids = [x] := List.length_eq_one_iff.1 (by have := HKL.out; have : formKids 18 = 1 := rfl; omega)
          have hK : kindP l (.mk 18 n name [x]) = if (joinedP 18 [(kindP l x).1]).2 then ((joinedP 18 [(kindP l x).1]).1, 0) else (0, 7) := by
            rw [kindP, hks]; rfl
          have e0 : arrV l [x] [x].length 0 = (kindP l x).1 := rfl
          have e1 : arrV l [x] [x].length 1 = 0 := rfl
          rw [e0] at a0
          rw [e1] at a1
          generalize (kindP l x).1 = p at a0 hK
          have HK := Lib.hid hK
          clear hK hks hall' e0 e1
          by_cases p1 : p = 1
          · subst p1
            · go_wp2
              go_ret2
              refine ⟨ret_two ?_ ?_, hBw⟩ <;> (rw [HK.out]; simp [joinedP, allEq, *])
          by_cases p4 : p = 4
          · subst p4
            · go_wp2
              go_ret2
              refine ⟨ret_two ?_ ?_, hBw⟩ <;> (rw [HK.out]; simp [joinedP, allEq, *])
          have f1 : (p == 1) = false := by simpa using p1
          have f4 : (p == 4) = false := by simpa using p4
          by_cases p0 : p = 0
          · subst p0
            · go_wp2
              go_ret2
              refine ⟨ret_two ?_ ?_, hBw⟩ <;> (rw [HK.out]; simp [joinedP, allEq, *])
          have f0 : (p == 0) = false := by simpa using p0
          · go_wp2
            go_ret2
            refine ⟨ret_two ?_ ?_, hBw⟩ <;> (rw [HK.out]; simp [joinedP, allEq, *])
        · obtain ⟨x, y, rfl⟩ : ∃ x y, kids = [x, y] := two_of (by have := HKL.out; have : formKids 19 = 2 := rfl; omega)
          have hK : kindP l (.mk 19 n name [x, y]) = if (joinedP 19 [(kindP l x).1, (kindP l y).1]).2 then ((joinedP 19 [(kindP l x).1, (kindP l y).1]).1, 0) else (0, 7) := by
            rw [kindP, hks]; rfl
          have e0 : arrV l [x, y] [x, y].length 0 = (kindP l x).1 := rfl
          have e1 : arrV l [x, y] [x, y].length 1 = (kindP l y).1 := rfl
          rw [e0] at a0
          rw [e1] at a1
          generalize (kindP l x).1 = p at a0 hK
          generalize (kindP l y).1 = r at a1 hK
          have HK := Lib.hid hK
          clear hK hks hall' e0 e1
          by_cases hpr : r = p
          · subst hpr
            by_cases p1 : r = 1
            · subst p1
              · go_wp2
                go_ret2
                refine ⟨ret_two ?_ ?_, hBw⟩ <;> (rw [HK.out]; simp [joinedP, allEq, *])
            by_cases p4 : r = 4
            · subst p4
              · go_wp2
                go_ret2
                refine ⟨ret_two ?_ ?_, hBw⟩ <;> (rw [HK.out]; simp [joinedP, allEq, *])
            by_cases p0 : r = 0
            · subst p0
              · go_wp2
                go_ret2
                refine ⟨ret_two ?_ ?_, hBw⟩ <;> (rw [HK.out]; simp [joinedP, allEq, *])
            have f1 : (r == 1) = false := by simpa using p1
            have f4 : (r == 4) = false := by simpa using p4
            have f0 : (r == 0) = false := by simpa using p0
            · go_wp2
              go_ret2
              refine ⟨ret_two ?_ ?_, hBw⟩ <;> (rw [HK.out]; simp [joinedP, allEq, *])
          have fpr : (p == r) = false := by rw [beq_eq_false_iff_ne]; exact fun h => hpr h.symm
          by_cases p1 : p = 1
          · subst p1
            have f1 : (r == 1) = false := by simpa using hpr
            · go_wp2
              go_ret2
              refine ⟨ret_two ?_ ?_, hBw⟩ <;> (rw [HK.out]; simp [joinedP, allEq, *])
          by_cases p4 : p = 4
          · subst p4
            have f1 : (r == 4) = false := by simpa using hpr
            · go_wp2
              go_ret2
              refine ⟨ret_two ?_ ?_, hBw⟩ <;> (rw [HK.out]; simp [joinedP, allEq, *])
          by_cases p0 : p = 0
          · subst p0
            have f1 : (r == 0) = false := by simpa using hpr
            · go_wp2
              go_ret2
              refine ⟨ret_two ?_ ?_, hBw⟩ <;> (rw [HK.out]; simp [joinedP, allEq, *])
          have f1 : (p == 1) = false := by simpa using p1
          have f4 : (p == 4) = false := by simpa using p4
          have f0 : (p == 0) = false := by simpa using p0
          · go_wp2
            go_ret2
            refine ⟨ret_two ?_ ?_, hBw⟩ <;> (rw [HK.out]; simp [joinedP, allEq, *])
end Go.Proofs.YtfdpkmpnfalggaaDoor
