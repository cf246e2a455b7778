/- The reference's kids, word, Named, Name, FindKey, rightExpr, RightExpr by contracts. -/
import Derived.Test.YtfdpkmpnfalggaaDoorKe
set_option linter.unusedVariables false
set_option linter.unusedSimpArgs false
namespace Go.Proofs.YtfdpkmpnfalggaaDoor
open Go.RowKit

theorem rkids_any (k : Nat) (h : k < 20) (w : World) : Calls Tryd.prog 97 #[.int .i64 k] w fun e w' => e = .returned (.int .i64 (formKids k)) ∧ w = w' := by
  have hk : k = 0 ∨ k = 1 ∨ k = 2 ∨ k = 3 ∨ k = 4 ∨ k = 5 ∨ k = 6 ∨ k = 7 ∨ k = 8 ∨ k = 9 ∨ k = 10 ∨ k = 11 ∨ k = 12 ∨ k = 13 ∨ k = 14 ∨ k = 15 ∨ k = 16 ∨ k = 17 ∨ k = 18 ∨ k = 19 := by omega
  rcases hk with rfl | rfl | rfl | rfl | rfl | rfl | rfl | rfl | rfl | rfl | rfl | rfl | rfl | rfl | rfl | rfl | rfl | rfl | rfl | rfl
  all_goals (go_enter Tryd.func97, Tryd.ntmps97; go_wp2; go_ret; exact ⟨rfl, rfl⟩)

theorem containsS_eq (l : List ByteArray) (x : ByteArray) : Lib.containsS l x = true ↔ x ∈ l := Lib.containsS_iff l x

set_option maxRecDepth 100000 in
set_option maxHeartbeats 1000000 in
theorem rword_any (s : ByteArray) (w : World) : Calls Tryd.prog 60 #[.string s] w fun e w' => e = .returned (.bool (isWordB s)) ∧ Below w.heap.size w w' := by
  have hc : ∀ j, j < wordsL.length → (w.alloc (.cells (wordsL.map Value.string).toArray 9)).cell? ⟨w.heap.size, j, none⟩ = some (.string (wordsL.getD j ByteArray.empty)) := fun j hj => by
    have := strs_new w wordsL 9 j hj
    rwa [Nat.zero_add] at this
  have hb : Below w.heap.size w (w.alloc (.cells (wordsL.map Value.string).toArray 9)) := (Below.refl _ _).alloc (Nat.le_refl _) _
  have hn : wordsL.length = 42 := rfl
  go_enter Tryd.func60, Tryd.ntmps60
  go_wp2
  change Code.wp _ _ _ _ (w.alloc (.cells (wordsL.map Value.string).toArray 9))
  generalize (w.alloc (.cells (wordsL.map Value.string).toArray 9)) = w1 at hc hb
  go_loop [4] (fun i => ∃ k : Nat, k ≤ 42 ∧ i = .int .i64 k ∧ ∀ j, j < k → wordsL.getD j ByteArray.empty ≠ s) (fun i => 42 - (intOf i).toNat)
  case atStart => exact ⟨0, Nat.zero_le _, rfl, fun j hj => absurd hj (Nat.not_lt_zero j)⟩
  case round =>
    obtain ⟨k, hk, rfl, hall⟩ := hrel
    by_cases hlt : k < 42
    · have c0 := hc k (by omega)
      have hb0 := World.block_lt_of_cell? w1 _ c0
      clear hc
      by_cases hx : wordsL.getD k ByteArray.empty = s
      · have hx' : ((wordsL.getD k ByteArray.empty).toList == s.toList) = true := by rw [toList_beq]; simpa using hx
        have HX : isWordB s = true := (containsS_eq _ _).2 (by rw [← hx, List.getD_eq_getElem?_getD, List.getElem?_eq_getElem (by omega)]; exact List.getElem_mem _)
        clear hx
        generalize wordsL.getD k ByteArray.empty = q at c0 hx'
        go_wp2
        go_ret
        exact ⟨ret_bool rfl, hb⟩
      · have hx' : ((wordsL.getD k ByteArray.empty).toList == s.toList) = false := by rw [toList_beq]; simpa using hx
        have HX := Lib.hid hx
        clear hx
        generalize hq : wordsL.getD k ByteArray.empty = q at c0 hx' HX
        go_wp2
        go_round
        case rel => exact ⟨k + 1, by omega, by go_num, fun j hj => if h : j = k then by subst h; rw [hq]; exact HX.out else hall j (by omega)⟩
        case measure => simp only [intOf]; omega
    · go_wp2
      go_ret
      refine ⟨ret_bool ?_, hb⟩
      cases hx : isWordB s with
      | false => rfl
      | true =>
        obtain ⟨j, hj, rfl⟩ := List.getElem_of_mem ((containsS_eq _ _).1 hx)
        exact absurd (by rw [List.getD_eq_getElem?_getD, List.getElem?_eq_getElem hj]; rfl) (hall j (by omega))

/-- May a name have this byte at this place? -/
def okB (k : Nat) (c : Int) : Bool := letterB c || (decide (0 < k) && goesB c)
theorem okB_names (s : ByteArray) (h1 : 1 ≤ s.size) (h2 : s.size ≤ 24) (h : ∀ j, j < s.size → okB j (byteAt s j) = true) : vNameB s = true := by
  refine vName_yes (by omega) h2 ?_ fun j hj => ?_
  · have := h 0 (by omega); simpa [okB] using this
  · have := h j hj
    simp only [okB, Bool.or_eq_true, Bool.and_eq_true] at this
    rcases this with h | ⟨_, h⟩
    · simp [goesB, h]
    · exact h
theorem okB_not (s : ByteArray) (k : Nat) (hk : k < s.size) (h : okB k (byteAt s k) = false) : vNameB s = false := by
  by_cases k0 : k = 0
  · subst k0
    have : letterB (byteAt s 0) = false := by simpa [okB] using h
    simp [vNameB, this]
  · refine vName_no k hk ?_
    simp only [okB, Bool.or_eq_false_iff, Bool.and_eq_false_iff] at h
    rcases h.2 with h | h
    · simp at h; omega
    · exact h

set_option maxRecDepth 100000 in
set_option maxHeartbeats 4000000 in
theorem rNamed_any (s : ByteArray) (w : World) (hs : s.size ≤ maxLen) : Calls Tryd.prog 148 #[.string s] w fun e w' => e = .returned (.bool (vNameB s)) ∧ w = w' := by
  unfold maxLen at hs
  go_enter Tryd.func148, Tryd.ntmps148
  go_wp2
  go_loop [3] (fun i => ∃ k : Nat, k ≤ s.size ∧ i = .int .i64 k ∧ ∀ j, j < k → okB j (byteAt s j) = true) (fun i => s.size - (intOf i).toNat)
  case atStart => exact ⟨0, Nat.zero_le _, rfl, fun j hj => absurd hj (Nat.not_lt_zero j)⟩
  case round =>
    obtain ⟨k, hk, rfl, hall⟩ := hrel
    by_cases hlt : k < s.size
    · have hb := byteAt_eq s k hlt
      have hno := okB_not s k hlt
      have hyes : okB k (byteAt s k) = true → ∀ j, j < k + 1 → okB j (byteAt s j) = true := fun hx j hj => if h : j = k then by subst h; exact hx else hall j (by omega)
      clear hall
      have hc : (97 ≤ ((s[k]'hlt).toNat : Int) ∧ ((s[k]'hlt).toNat : Int) ≤ 122) ∨ (65 ≤ ((s[k]'hlt).toNat : Int) ∧ ((s[k]'hlt).toNat : Int) ≤ 90) ∨ 123 ≤ ((s[k]'hlt).toNat : Int) ∨ (91 ≤ ((s[k]'hlt).toNat : Int) ∧ ((s[k]'hlt).toNat : Int) ≤ 94) ∨ ((s[k]'hlt).toNat : Int) = 96 ∨
          (58 ≤ ((s[k]'hlt).toNat : Int) ∧ ((s[k]'hlt).toNat : Int) ≤ 64) ∨ ((s[k]'hlt).toNat : Int) < 48 ∨ ((s[k]'hlt).toNat : Int) = 95 ∨ (48 ≤ ((s[k]'hlt).toNat : Int) ∧ ((s[k]'hlt).toNat : Int) ≤ 57) := by omega
      rcases hc with hc | hc | hc | hc | hc | hc | hc | hc | hc
      · have hx := hyes (by rw [hb]; simp [okB, letterB]; omega)
        have f1 : decide (97 ≤ ((s[k]'hlt).toNat : Int)) = true := by simp; omega
        have f2 : decide (((s[k]'hlt).toNat : Int) ≤ 122) = true := by simp; omega
        have f3 : decide (65 ≤ ((s[k]'hlt).toNat : Int)) = true := by simp; omega
        have f4 : decide (((s[k]'hlt).toNat : Int) ≤ 90) = false := by simp; omega
        have f5 : decide (((s[k]'hlt).toNat : Int) < 48) = false := by simp; omega
        have f6 : decide (57 < ((s[k]'hlt).toNat : Int)) = true := by simp; omega
        have f7 : (((s[k]'hlt).toNat : Int) != 95) = true := by simp; omega
        clear hb hno hyes
        go_wp2
        go_round
        case rel => exact ⟨k + 1, by omega, by go_num, hx⟩
        case measure => simp only [intOf]; omega
      · have hx := hyes (by rw [hb]; simp [okB, letterB]; omega)
        have f1 : decide (97 ≤ ((s[k]'hlt).toNat : Int)) = false := by simp; omega
        have f2 : decide (((s[k]'hlt).toNat : Int) ≤ 122) = true := by simp; omega
        have f3 : decide (65 ≤ ((s[k]'hlt).toNat : Int)) = true := by simp; omega
        have f4 : decide (((s[k]'hlt).toNat : Int) ≤ 90) = true := by simp; omega
        have f5 : decide (((s[k]'hlt).toNat : Int) < 48) = false := by simp; omega
        have f6 : decide (57 < ((s[k]'hlt).toNat : Int)) = true := by simp; omega
        have f7 : (((s[k]'hlt).toNat : Int) != 95) = true := by simp; omega
        clear hb hno hyes
        go_wp2
        go_round
        case rel => exact ⟨k + 1, by omega, by go_num, hx⟩
        case measure => simp only [intOf]; omega
      · have hx := hno (by rw [hb]; simp [okB, letterB, goesB]; omega)
        have f1 : decide (97 ≤ ((s[k]'hlt).toNat : Int)) = true := by simp; omega
        have f2 : decide (((s[k]'hlt).toNat : Int) ≤ 122) = false := by simp; omega
        have f3 : decide (65 ≤ ((s[k]'hlt).toNat : Int)) = true := by simp; omega
        have f4 : decide (((s[k]'hlt).toNat : Int) ≤ 90) = false := by simp; omega
        have f5 : decide (((s[k]'hlt).toNat : Int) < 48) = false := by simp; omega
        have f6 : decide (57 < ((s[k]'hlt).toNat : Int)) = true := by simp; omega
        have f7 : (((s[k]'hlt).toNat : Int) != 95) = true := by simp; omega
        clear hb hno hyes
        by_cases k0 : k = 0
        · have k1 : ((k : Int) == 0) = true := by rw [beq_iff_eq]; omega
          have K0 := Lib.hid k0
          clear k0
          go_wp2
          go_ret
          exact ⟨ret_bool rfl, rfl⟩
        · have k1 : ((k : Int) == 0) = false := by rw [beq_eq_false_iff_ne]; omega
          go_wp2
          go_ret
          exact ⟨ret_bool rfl, rfl⟩
      · have hx := hno (by rw [hb]; simp [okB, letterB, goesB]; omega)
        have f1 : decide (97 ≤ ((s[k]'hlt).toNat : Int)) = false := by simp; omega
        have f2 : decide (((s[k]'hlt).toNat : Int) ≤ 122) = true := by simp; omega
        have f3 : decide (65 ≤ ((s[k]'hlt).toNat : Int)) = true := by simp; omega
        have f4 : decide (((s[k]'hlt).toNat : Int) ≤ 90) = false := by simp; omega
        have f5 : decide (((s[k]'hlt).toNat : Int) < 48) = false := by simp; omega
        have f6 : decide (57 < ((s[k]'hlt).toNat : Int)) = true := by simp; omega
        have f7 : (((s[k]'hlt).toNat : Int) != 95) = true := by simp; omega
        clear hb hno hyes
        by_cases k0 : k = 0
        · have k1 : ((k : Int) == 0) = true := by rw [beq_iff_eq]; omega
          have K0 := Lib.hid k0
          clear k0
          go_wp2
          go_ret
          exact ⟨ret_bool rfl, rfl⟩
        · have k1 : ((k : Int) == 0) = false := by rw [beq_eq_false_iff_ne]; omega
          go_wp2
          go_ret
          exact ⟨ret_bool rfl, rfl⟩
      · have hx := hno (by rw [hb]; simp [okB, letterB, goesB]; omega)
        have f1 : decide (97 ≤ ((s[k]'hlt).toNat : Int)) = false := by simp; omega
        have f2 : decide (((s[k]'hlt).toNat : Int) ≤ 122) = true := by simp; omega
        have f3 : decide (65 ≤ ((s[k]'hlt).toNat : Int)) = true := by simp; omega
        have f4 : decide (((s[k]'hlt).toNat : Int) ≤ 90) = false := by simp; omega
        have f5 : decide (((s[k]'hlt).toNat : Int) < 48) = false := by simp; omega
        have f6 : decide (57 < ((s[k]'hlt).toNat : Int)) = true := by simp; omega
        have f7 : (((s[k]'hlt).toNat : Int) != 95) = true := by simp; omega
        clear hb hno hyes
        by_cases k0 : k = 0
        · have k1 : ((k : Int) == 0) = true := by rw [beq_iff_eq]; omega
          have K0 := Lib.hid k0
          clear k0
          go_wp2
          go_ret
          exact ⟨ret_bool rfl, rfl⟩
        · have k1 : ((k : Int) == 0) = false := by rw [beq_eq_false_iff_ne]; omega
          go_wp2
          go_ret
          exact ⟨ret_bool rfl, rfl⟩
      · have hx := hno (by rw [hb]; simp [okB, letterB, goesB]; omega)
        have f1 : decide (97 ≤ ((s[k]'hlt).toNat : Int)) = false := by simp; omega
        have f2 : decide (((s[k]'hlt).toNat : Int) ≤ 122) = true := by simp; omega
        have f3 : decide (65 ≤ ((s[k]'hlt).toNat : Int)) = false := by simp; omega
        have f4 : decide (((s[k]'hlt).toNat : Int) ≤ 90) = true := by simp; omega
        have f5 : decide (((s[k]'hlt).toNat : Int) < 48) = false := by simp; omega
        have f6 : decide (57 < ((s[k]'hlt).toNat : Int)) = true := by simp; omega
        have f7 : (((s[k]'hlt).toNat : Int) != 95) = true := by simp; omega
        clear hb hno hyes
        by_cases k0 : k = 0
        · have k1 : ((k : Int) == 0) = true := by rw [beq_iff_eq]; omega
          have K0 := Lib.hid k0
          clear k0
          go_wp2
          go_ret
          exact ⟨ret_bool rfl, rfl⟩
        · have k1 : ((k : Int) == 0) = false := by rw [beq_eq_false_iff_ne]; omega
          go_wp2
          go_ret
          exact ⟨ret_bool rfl, rfl⟩
      · have hx := hno (by rw [hb]; simp [okB, letterB, goesB]; omega)
        have f1 : decide (97 ≤ ((s[k]'hlt).toNat : Int)) = false := by simp; omega
        have f2 : decide (((s[k]'hlt).toNat : Int) ≤ 122) = true := by simp; omega
        have f3 : decide (65 ≤ ((s[k]'hlt).toNat : Int)) = false := by simp; omega
        have f4 : decide (((s[k]'hlt).toNat : Int) ≤ 90) = true := by simp; omega
        have f5 : decide (((s[k]'hlt).toNat : Int) < 48) = true := by simp; omega
        have f6 : decide (57 < ((s[k]'hlt).toNat : Int)) = false := by simp; omega
        have f7 : (((s[k]'hlt).toNat : Int) != 95) = true := by simp; omega
        clear hb hno hyes
        by_cases k0 : k = 0
        · have k1 : ((k : Int) == 0) = true := by rw [beq_iff_eq]; omega
          have K0 := Lib.hid k0
          clear k0
          go_wp2
          go_ret
          exact ⟨ret_bool rfl, rfl⟩
        · have k1 : ((k : Int) == 0) = false := by rw [beq_eq_false_iff_ne]; omega
          go_wp2
          go_ret
          exact ⟨ret_bool rfl, rfl⟩
      · have f1 : decide (97 ≤ ((s[k]'hlt).toNat : Int)) = false := by simp; omega
        have f2 : decide (((s[k]'hlt).toNat : Int) ≤ 122) = true := by simp; omega
        have f3 : decide (65 ≤ ((s[k]'hlt).toNat : Int)) = true := by simp; omega
        have f4 : decide (((s[k]'hlt).toNat : Int) ≤ 90) = false := by simp; omega
        have f5 : decide (((s[k]'hlt).toNat : Int) < 48) = false := by simp; omega
        have f6 : decide (57 < ((s[k]'hlt).toNat : Int)) = true := by simp; omega
        have f7 : (((s[k]'hlt).toNat : Int) != 95) = false := by simp; omega
        by_cases k0 : k = 0
        · have hx := hno (by rw [hb]; simp [okB, letterB, show ¬ 0 < k by omega]; omega)
          have k1 : ((k : Int) == 0) = true := by rw [beq_iff_eq]; omega
          have K0 := Lib.hid k0
          clear k0 hb hno hyes
          go_wp2
          go_ret
          exact ⟨ret_bool rfl, rfl⟩
        · have hx := hyes (by rw [hb]; simp [okB, letterB, goesB]; omega)
          have k1 : ((k : Int) == 0) = false := by rw [beq_eq_false_iff_ne]; omega
          clear hb hno hyes
          go_wp2
          go_round
          case rel => exact ⟨k + 1, by omega, by go_num, hx⟩
          case measure => simp only [intOf]; omega
      · have f1 : decide (97 ≤ ((s[k]'hlt).toNat : Int)) = false := by simp; omega
        have f2 : decide (((s[k]'hlt).toNat : Int) ≤ 122) = true := by simp; omega
        have f3 : decide (65 ≤ ((s[k]'hlt).toNat : Int)) = false := by simp; omega
        have f4 : decide (((s[k]'hlt).toNat : Int) ≤ 90) = true := by simp; omega
        have f5 : decide (((s[k]'hlt).toNat : Int) < 48) = false := by simp; omega
        have f6 : decide (57 < ((s[k]'hlt).toNat : Int)) = false := by simp; omega
        have f7 : (((s[k]'hlt).toNat : Int) != 95) = true := by simp; omega
        by_cases k0 : k = 0
        · have hx := hno (by rw [hb]; simp [okB, letterB, show ¬ 0 < k by omega]; omega)
          have k1 : ((k : Int) == 0) = true := by rw [beq_iff_eq]; omega
          have K0 := Lib.hid k0
          clear k0 hb hno hyes
          go_wp2
          go_ret
          exact ⟨ret_bool rfl, rfl⟩
        · have hx := hyes (by rw [hb]; simp [okB, letterB, goesB]; omega)
          have k1 : ((k : Int) == 0) = false := by rw [beq_eq_false_iff_ne]; omega
          clear hb hno hyes
          go_wp2
          go_round
          case rel => exact ⟨k + 1, by omega, by go_num, hx⟩
          case measure => simp only [intOf]; omega
    · have hall' : ∀ j, j < s.size → okB j (byteAt s j) = true := fun j hj => hall j (by omega)
      go_wp2
      · go_ret
        refine ⟨ret_bool ?_, rfl⟩
        have h1 : 1 ≤ (s.size : Int) := by assumption
        by_cases h24 : s.size ≤ 24
        · rw [okB_names s (by omega) h24 hall']; first | (simp; done) | (simp; omega)
        · have : vNameB s = false := by simp [vNameB] <;> omega
          rw [this]; first | (simp; done) | (simp; omega)
      · go_ret
        refine ⟨ret_bool ?_, rfl⟩
        have : vNameB s = false := by simp [vNameB] <;> omega
        rw [this]

theorem rName_any (s : ByteArray) (w : World) (hs : s.size ≤ maxLen) : Calls Tryd.prog 98 #[.string s] w fun e w' => e = .returned (.bool (lNameB s)) ∧ Below w.heap.size w w' := by
  unfold lNameB
  cases hn : vNameB s
  · go_enter Tryd.func98, Tryd.ntmps98
    go_wp2_with (go_at_call 148; refine (rNamed_any _ _ hs).mono ?_; rw [hn]; rintro e w' ⟨rfl, rfl⟩)
    go_ret
    exact ⟨rfl, Below.refl _ _⟩
  · go_enter Tryd.func98, Tryd.ntmps98
    go_wp2_with (first | (go_at_call 148; refine (rNamed_any _ _ hs).mono ?_; rw [hn]; rintro e w1 ⟨rfl, rfl⟩) | (go_at_call 60; refine (rword_any _ _).mono ?_; rintro e w2 ⟨rfl, hb2⟩))
    go_ret
    exact ⟨rfl, hb2⟩

theorem rFindKey_any (l : List Key) (nm : ByteArray) (A : Option Addr) (c : Nat) (S : Nat → Prop) (w : World) (hr : RdV S w (.l 3 (Key.ds l)) (.slice A l.length c)) :
    Calls Tryd.prog 56 #[.slice A l.length c, .string nm] w fun e w' => e = .returned (.int .i64 (findKey l nm)) ∧ w = w' := by
  have hlen := hr.len_le
  go_enter Tryd.func56, Tryd.ntmps56
  go_wp2
  go_loop [5] (fun i => (∃ k : Nat, k ≤ l.length ∧ i = .int .i64 k ∧ ∀ j (hj : j < l.length), j < k → decide (l[j].name = nm) = false)) (fun i => l.length - (intOf i).toNat)
  case atStart => exact ⟨0, Nat.zero_le _, rfl, fun j _ hj => absurd hj (Nat.not_lt_zero j)⟩
  case round =>
    obtain ⟨k, hk, rfl, hall⟩ := hrel
    by_cases hlt : k < l.length
    · obtain ⟨b, o, rfl, _, hb, _, d0, d1, d2, hs', hk'⟩ := key_at hr hlt
      have hq := toList_beq l[k].name nm
      cases hx : decide (l[k].name = nm)
      · rw [hx] at hq
        go_wp2
        go_round
        case rel => exact ⟨k + 1, by omega, by go_num, fun j hj hj' => if h : j = k then by subst h; exact hx else hall j hj (by omega)⟩
        case measure => simp only [intOf]; omega
      · rw [hx] at hq
        go_wp2
        go_ret
        exact ⟨ret_int (idxP_hit (p := fun k : Key => decide (k.name = nm)) hlt hx hall).symm, rfl⟩
    · go_wp2
      go_ret
      exact ⟨ret_int (idxP_miss (p := fun k : Key => decide (k.name = nm)) fun j hj => hall j hj (by omega)).symm, rfl⟩
end Go.Proofs.YtfdpkmpnfalggaaDoor
