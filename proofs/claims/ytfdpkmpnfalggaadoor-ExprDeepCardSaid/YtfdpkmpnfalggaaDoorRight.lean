/- expr.forms, expr.shallow, expr.Right by contracts. -/
import Derived.Test.YtfdpkmpnfalggaaDoorLx
import Derived.Test.YtfdpkmpnfalggaaDoorTy
import Derived.Lib.Hide
set_option linter.unusedVariables false
set_option linter.unusedSimpArgs false
namespace Go.Proofs.YtfdpkmpnfalggaaDoor
open Go.RowKit

def formKidsL : List Int := [0, 0, 0, 0, 0, 0, 2, 2, 2, 2, 2, 2, 2, 2, 1, 2, 1, 1, 1, 2]
def formTextL : List ByteArray := [(⟨#[]⟩ : ByteArray), (⟨#[]⟩ : ByteArray), (⟨#[]⟩ : ByteArray), (⟨#[]⟩ : ByteArray), (⟨#[115, 101, 108, 102]⟩ : ByteArray), (⟨#[116, 105, 109, 101]⟩ : ByteArray), (⟨#[43]⟩ : ByteArray), (⟨#[45]⟩ : ByteArray), (⟨#[42]⟩ : ByteArray), (⟨#[47]⟩ : ByteArray), (⟨#[61, 61]⟩ : ByteArray), (⟨#[60]⟩ : ByteArray), (⟨#[97, 110, 100]⟩ : ByteArray), (⟨#[111, 114]⟩ : ByteArray), (⟨#[110, 111, 116]⟩ : ByteArray), (⟨#[44]⟩ : ByteArray), (⟨#[114, 101]⟩ : ByteArray), (⟨#[105, 109]⟩ : ByteArray), (⟨#[116, 117, 114, 110]⟩ : ByteArray), (⟨#[102, 97, 114]⟩ : ByteArray)]
def formKids (k : Nat) : Int := formKidsL.getD k 0
def formText (k : Nat) : ByteArray := formTextL.getD k ByteArray.empty
def formCells : Array Value := #[.int .i64 0, .string (⟨#[]⟩ : ByteArray), .int .i64 0, .string (⟨#[]⟩ : ByteArray), .int .i64 0, .string (⟨#[]⟩ : ByteArray), .int .i64 0, .string (⟨#[]⟩ : ByteArray), .int .i64 0, .string (⟨#[115, 101, 108, 102]⟩ : ByteArray), .int .i64 0, .string (⟨#[116, 105, 109, 101]⟩ : ByteArray), .int .i64 2, .string (⟨#[43]⟩ : ByteArray), .int .i64 2, .string (⟨#[45]⟩ : ByteArray), .int .i64 2, .string (⟨#[42]⟩ : ByteArray), .int .i64 2, .string (⟨#[47]⟩ : ByteArray), .int .i64 2, .string (⟨#[61, 61]⟩ : ByteArray), .int .i64 2, .string (⟨#[60]⟩ : ByteArray), .int .i64 2, .string (⟨#[97, 110, 100]⟩ : ByteArray), .int .i64 2, .string (⟨#[111, 114]⟩ : ByteArray), .int .i64 1, .string (⟨#[110, 111, 116]⟩ : ByteArray), .int .i64 2, .string (⟨#[44]⟩ : ByteArray), .int .i64 1, .string (⟨#[114, 101]⟩ : ByteArray), .int .i64 1, .string (⟨#[105, 109]⟩ : ByteArray), .int .i64 1, .string (⟨#[116, 117, 114, 110]⟩ : ByteArray), .int .i64 2, .string (⟨#[102, 97, 114]⟩ : ByteArray)]
theorem formCells_kids (k : Nat) (h : k < 20) : formCells[k * 2]? = some (.int .i64 (formKids k)) :=
  match k, h with | 0, _ => rfl | 1, _ => rfl | 2, _ => rfl | 3, _ => rfl | 4, _ => rfl | 5, _ => rfl | 6, _ => rfl | 7, _ => rfl | 8, _ => rfl | 9, _ => rfl | 10, _ => rfl | 11, _ => rfl | 12, _ => rfl | 13, _ => rfl | 14, _ => rfl | 15, _ => rfl | 16, _ => rfl | 17, _ => rfl | 18, _ => rfl | 19, _ => rfl | n + 20, h => absurd h (by omega)
theorem formCells_text (k : Nat) (h : k < 20) : formCells[k * 2 + 1]? = some (.string (formText k)) :=
  match k, h with | 0, _ => rfl | 1, _ => rfl | 2, _ => rfl | 3, _ => rfl | 4, _ => rfl | 5, _ => rfl | 6, _ => rfl | 7, _ => rfl | 8, _ => rfl | 9, _ => rfl | 10, _ => rfl | 11, _ => rfl | 12, _ => rfl | 13, _ => rfl | 14, _ => rfl | 15, _ => rfl | 16, _ => rfl | 17, _ => rfl | 18, _ => rfl | 19, _ => rfl | n + 20, h => absurd h (by omega)

theorem forms_any (w : World) : Calls Tryd.prog 67 #[] w fun e w' => e = .returned (.slice (some ⟨w.heap.size, 0, none⟩) 20 20) ∧ w' = w.alloc (.cells formCells 117) := by
  go_enter Tryd.func67, Tryd.ntmps67
  go_wp2
  go_ret
  exact ⟨rfl, rfl⟩

/-- What chapter 10 asks of N and Name. -/
def leafOk (kind n : Int) (name : ByteArray) : Bool :=
  if kind = 0 then decide (-9223372036854775807 ≤ n) && decide (name.size = 0)
  else if kind = 1 then (decide (n = 0) || decide (n = 1)) && decide (name.size = 0)
  else if kind = 2 ∨ kind = 3 then lNameB name && decide (n = 0)
  else decide (n = 0) && decide (name.size = 0)
def shallowB : Nat → Expr → Bool
  | 0, _ => false
  | m + 1, .mk kind n name kids => decide (0 ≤ kind) && decide (kind < 20) && decide ((kids.length : Int) = formKids kind.toNat) && leafOk kind n name && kids.all (shallowB m)

theorem isEmpty_size {s : ByteArray} (h : (!s.toList.isEmpty) = false) : s.size = 0 := by
  rcases Nat.eq_zero_or_pos s.size with h0 | h0
  · exact h0
  · rw [toList_isEmpty (by omega)] at h; exact absurd h (by simp)
theorem nonEmpty_size {s : ByteArray} (h : (!s.toList.isEmpty) = true) : (s.size = 0) = False := by
  rw [eq_iff_iff]
  refine ⟨fun h0 => ?_, False.elim⟩
  obtain rfl : s = ByteArray.empty := by simpa using h0
  simp [ByteArray.toList_eq] at h
theorem i64_and1 (n : Int) : bits .and .i64 n 1 = n % 2 := by
  have h1 : (BitVec.ofInt 64 1).toNat = 2 ^ 1 - 1 := by decide
  have key : (BitVec.ofInt 64 n &&& BitVec.ofInt 64 1).toNat = (n % ((2 ^ 64 : Nat) : Int)).toNat % 2 ^ 1 := by
    rw [BitVec.toNat_and, BitVec.toNat_ofInt, h1, Nat.and_two_pow_sub_one_eq_mod]
  show IntKind.i64.wrap ((BitVec.ofInt 64 n &&& BitVec.ofInt 64 1).toNat : Nat) = n % 2
  rw [key, IntKind.wrap_i64]
  omega
theorem and_one_iff {n : Int} (h : -9223372036854775808 ≤ n ∧ n ≤ 9223372036854775807) : bits BinOp.and IntKind.i64 n 1 = n ↔ n = 0 ∨ n = 1 := by
  rw [i64_and1]; omega
theorem sh_true {m k : Nat} {n : Int} {name : ByteArray} {kids : List Expr} (hk : k < 20) (h3 : formKids k = (kids.length : Int)) (hl : leafOk k n name = true) (h : ∀ j (hj : j < kids.length), shallowB m kids[j] = true) :
    shallowB (m + 1) (.mk k n name kids) = true := by
  have : kids.all (shallowB m) = true := by
    rw [List.all_eq_true]; intro x hx; obtain ⟨j, hj, rfl⟩ := List.getElem_of_mem hx; exact h j hj
  simp [shallowB, h3, hl, this]; omega
theorem sh_leaf {m : Nat} {k n : Int} {name : ByteArray} {kids : List Expr} (hl : leafOk k n name = false) : shallowB (m + 1) (.mk k n name kids) = false := by
  simp [shallowB, hl]
theorem sh_kid {m j : Nat} {k n : Int} {name : ByteArray} {kids : List Expr} (hj : j < kids.length) (h : shallowB m kids[j] = false) : shallowB (m + 1) (.mk k n name kids) = false := by
  cases ha : kids.all (shallowB m) with
  | false => simp [shallowB, ha]
  | true => rw [List.all_eq_true] at ha; rw [ha _ (List.getElem_mem hj)] at h; exact absurd h (by simp)
theorem Expr.eta (x : Expr) : Expr.mk x.kind x.n x.name x.kids = x := by cases x; rfl

set_option maxRecDepth 100000 in
set_option maxHeartbeats 1000000 in
theorem shallow_any : ∀ (m : Nat) (hm : m ≤ 40) (kind n : Int) (name : ByteArray) (kids : List Expr) (A : Option Addr) (c : Nat) (S : Nat → Prop) (w : World)
    (hr : RdV S w (.l 4 (Expr.ds kids)) (.slice A kids.length c)) (hs : name.size ≤ maxLen) (hk : IntKind.i64.wrap kind = kind) (hn : IntKind.i64.wrap n = n) (ht : Spaces w),
    Calls Tryd.prog 37 #[.agg #[.int .i64 kind, .int .i64 n, .string name, .slice A kids.length c], .int .i64 m] w fun e w' => e = .returned (.bool (shallowB m (.mk kind n name kids))) ∧ Below w.heap.size w w' := by
  intro m
  induction m with
  | zero =>
    intro hm kind n name kids A c S w hr hs hk hn ht
    go_enter Tryd.func37, Tryd.ntmps37
    go_wp2_with (go_at_call 67; refine (forms_any _).mono ?_; rintro e w' ⟨rfl, rfl⟩)
    go_quiet (fail)
    go_wp2
    go_ret
    exact ⟨by simp [shallowB], by with_reducible repeat (first | exact Below.refl _ _ | apply below_drewN' | apply below_alloc')⟩
  | succ m ih =>
    intro hm kind n name kids A c S w hr hs hk hn ht
    have hkb := i64_bd hk
    have hlen := hr.len_le
    obtain ⟨M, hM⟩ : ∃ M : Int, M = ((m + 1 : Nat) : Int) := ⟨_, rfl⟩
    rw [← hM]
    have hM1 : 1 ≤ M := by omega
    have hM2 : M ≤ 40 := by omega
    have hM0 : (M == 0) = false := by rw [beq_eq_false_iff_ne]; omega
    have HM := Lib.hid hM
    clear hM
    have hnb := i64_bd hn
    by_cases h1 : kind < 0
    · have hd1 : decide (kind < 0) = true := by simpa using h1
      go_enter Tryd.func37, Tryd.ntmps37
      go_wp2_with (go_at_call 67; refine (forms_any _).mono ?_; rintro e w' ⟨rfl, rfl⟩)
      go_quiet (fail)
      go_wp2
      go_ret
      exact ⟨ret_bool (by simp [shallowB]; omega), by with_reducible repeat (first | exact Below.refl _ _ | apply below_drewN' | apply below_alloc')⟩
    have hd1 : decide (kind < 0) = false := by simpa using h1
    by_cases h2 : 20 ≤ kind
    · have hd2 : decide (20 ≤ kind) = true := by simpa using h2
      go_enter Tryd.func37, Tryd.ntmps37
      go_wp2_with (go_at_call 67; refine (forms_any _).mono ?_; rintro e w' ⟨rfl, rfl⟩)
      go_quiet (fail)
      go_wp2
      go_ret
      exact ⟨ret_bool (by simp [shallowB]; omega), by with_reducible repeat (first | exact Below.refl _ _ | apply below_drewN' | apply below_alloc')⟩
    have hd2 : decide (20 ≤ kind) = false := by simpa using h2
    obtain ⟨k, rfl⟩ := Int.eq_ofNat_of_zero_le (show 0 ≤ kind by omega)
    have hki : (k : Int) < 20 := by omega
    have hk20 : k < 20 := by omega
    have hfk := formCells_kids k hk20
    by_cases h3 : formKids k = (kids.length : Int)
    · have ih' : ∀ (kind n : Int) (name : ByteArray) (kids : List Expr) (A : Option Addr) (c : Nat) (S : Nat → Prop) (w : World), RdV S w (.l 4 (Expr.ds kids)) (.slice A kids.length c) → name.size ≤ maxLen → IntKind.i64.wrap kind = kind → IntKind.i64.wrap n = n → Spaces w →
          Calls Tryd.prog 37 #[.agg #[.int .i64 kind, .int .i64 n, .string name, .slice A kids.length c], .int .i64 (M - 1)] w fun e w' => e = .returned (.bool (shallowB m (.mk kind n name kids))) ∧ Below w.heap.size w w' := by
        have hm' := HM.out
        rw [show M - 1 = (m : Int) by omega]
        exact ih (by omega)
      clear ih
      by_cases k0 : k = 0
      · subst k0
        obtain rfl : kids = [] := List.eq_nil_of_length_eq_zero (by have : formKids 0 = 0 := rfl; omega)
        go_enter Tryd.func37, Tryd.ntmps37
        go_wp2_with (go_at_call 67; refine (forms_any _).mono ?_; rintro e w' ⟨rfl, rfl⟩)
        go_quiet (fail)
        go_wp2
        · go_ret
          refine ⟨ret_bool (sh_leaf ?_).symm, by with_reducible repeat (first | exact Below.refl _ _ | apply below_drewN' | apply below_alloc')⟩
          have a1 := ‹(!name.toList.isEmpty) = true›
          first | (simp [leafOk]; omega) | (simp [leafOk, nonEmpty_size a1]; done) | (simp [leafOk, nonEmpty_size a1, k0, k1]; omega) | (simp only [leafOk]; rw [if_neg (by omega), if_neg (by omega), if_neg (by omega)]; simp [nonEmpty_size ‹(!name.toList.isEmpty) = true›]; done) | (simp only [leafOk]; rw [if_neg (by omega), if_neg (by omega), if_neg (by omega)]; simp; omega)
        · have hl : leafOk ((0 : Nat) : Int) n name = true := by
            have a1 : max n (-9223372036854775807) = n := by assumption
            have a2 : (!name.toList.isEmpty) = false := by assumption
            simp [leafOk, isEmpty_size a2]; omega
          go_loopw [76] (fun i wr => i = .int .i64 0 ∧ Below w.heap.size w wr) (fun _ _ => 0)
          case atStart => exact ⟨rfl, by with_reducible repeat (first | exact Below.refl _ _ | exact hB1 | refine below_set' ?_ (Nat.le_add_right_of_le (Nat.le_add_right _ _)) | apply below_drewN' | apply below_alloc')⟩
          case round =>
            obtain ⟨rfl, hB⟩ := hrel
            go_wp2
            go_ret
            exact ⟨ret_bool (sh_true hk20 rfl hl (fun j hj => absurd hj (by simp))).symm, hB⟩
        · go_ret
          refine ⟨ret_bool (sh_leaf ?_).symm, by with_reducible repeat (first | exact Below.refl _ _ | apply below_drewN' | apply below_alloc')⟩
          have a1 := ‹¬ max n (-9223372036854775807) = n›
          first | (simp [leafOk]; omega) | (simp [leafOk, nonEmpty_size a1]; done) | (simp [leafOk, nonEmpty_size a1, k0, k1]; omega) | (simp only [leafOk]; rw [if_neg (by omega), if_neg (by omega), if_neg (by omega)]; simp [nonEmpty_size ‹(!name.toList.isEmpty) = true›]; done) | (simp only [leafOk]; rw [if_neg (by omega), if_neg (by omega), if_neg (by omega)]; simp; omega)
      by_cases k1 : k = 1
      · subst k1
        obtain rfl : kids = [] := List.eq_nil_of_length_eq_zero (by have : formKids 1 = 0 := rfl; omega)
        go_enter Tryd.func37, Tryd.ntmps37
        go_wp2_with (go_at_call 67; refine (forms_any _).mono ?_; rintro e w' ⟨rfl, rfl⟩)
        go_quiet (fail)
        go_wp2
        · go_ret
          refine ⟨ret_bool (sh_leaf ?_).symm, by with_reducible repeat (first | exact Below.refl _ _ | apply below_drewN' | apply below_alloc')⟩
          have a1 := ‹(!name.toList.isEmpty) = true›
          first | (simp [leafOk]; omega) | (simp [leafOk, nonEmpty_size a1]; done) | (simp [leafOk, nonEmpty_size a1, k0, k1]; omega) | (simp only [leafOk]; rw [if_neg (by omega), if_neg (by omega), if_neg (by omega)]; simp [nonEmpty_size ‹(!name.toList.isEmpty) = true›]; done) | (simp only [leafOk]; rw [if_neg (by omega), if_neg (by omega), if_neg (by omega)]; simp; omega)
        · have hl : leafOk ((1 : Nat) : Int) n name = true := by
            have a1 : bits BinOp.and IntKind.i64 n 1 = n := by assumption
            have a2 : (!name.toList.isEmpty) = false := by assumption
            have a3 := (and_one_iff hnb).1 a1
            simp [leafOk, isEmpty_size a2, a3]
          go_loopw [76] (fun i wr => i = .int .i64 0 ∧ Below w.heap.size w wr) (fun _ _ => 0)
          case atStart => exact ⟨rfl, by with_reducible repeat (first | exact Below.refl _ _ | exact hB1 | refine below_set' ?_ (Nat.le_add_right_of_le (Nat.le_add_right _ _)) | apply below_drewN' | apply below_alloc')⟩
          case round =>
            obtain ⟨rfl, hB⟩ := hrel
            go_wp2
            go_ret
            exact ⟨ret_bool (sh_true hk20 rfl hl (fun j hj => absurd hj (by simp))).symm, hB⟩
        · go_ret
          refine ⟨ret_bool (sh_leaf ?_).symm, by with_reducible repeat (first | exact Below.refl _ _ | apply below_drewN' | apply below_alloc')⟩
          have a1 := mt (and_one_iff hnb).2 ‹¬ bits BinOp.and IntKind.i64 n 1 = n›
          first | (simp [leafOk]; omega) | (simp [leafOk, nonEmpty_size a1]; done) | (simp [leafOk, nonEmpty_size a1, k0, k1]; omega) | (simp only [leafOk]; rw [if_neg (by omega), if_neg (by omega), if_neg (by omega)]; simp [nonEmpty_size ‹(!name.toList.isEmpty) = true›]; done) | (simp only [leafOk]; rw [if_neg (by omega), if_neg (by omega), if_neg (by omega)]; simp; omega)
      by_cases k2 : k = 2
      · subst k2
        obtain rfl : kids = [] := List.eq_nil_of_length_eq_zero (by have : formKids 2 = 0 := rfl; omega)
        go_enter Tryd.func37, Tryd.ntmps37
        go_wp2_with (go_at_call 67; refine (forms_any _).mono ?_; rintro e w' ⟨rfl, rfl⟩)
        go_quiet (fail)
        cases hln : lNameB name
        · go_wp2_with (go_at_call 70; refine (lName_any _ _ hs (ht.kept (by with_reducible repeat (first | exact Below.refl _ _ | apply below_drewN' | apply below_alloc')))).mono ?_; rw [hln]; rintro e w' ⟨rfl, hb⟩)
          go_ret
          exact ⟨ret_bool (sh_leaf (by simp [leafOk, hln])).symm, Below.trans' (by with_reducible repeat (first | exact Below.refl _ _ | apply below_drewN' | apply below_alloc')) hb⟩
        · have hB0 := fun (W W' : World) => @Below.trans' w W W'
          go_wp2_with (go_at_call 70; refine (lName_any _ _ hs (ht.kept (by with_reducible repeat (first | exact Below.refl _ _ | apply below_drewN' | apply below_alloc')))).mono ?_; rw [hln]; rintro e w' ⟨rfl, hb⟩; obtain ⟨hc, hf⟩ := bcell hb; have hB1 : Below w.heap.size w w' := Below.trans' (by with_reducible repeat (first | exact Below.refl _ _ | apply below_drewN' | apply below_alloc')) hb)
          · have hl : leafOk ((2 : Nat) : Int) n name = true := by
              have a1 : 0 = n := by assumption
              simp [leafOk, hln, ← a1]
            go_loopw [76] (fun i wr => i = .int .i64 0 ∧ Below w.heap.size w wr) (fun _ _ => 0)
            case atStart => exact ⟨rfl, by with_reducible repeat (first | exact Below.refl _ _ | exact hB1 | refine below_set' ?_ (Nat.le_add_right_of_le (Nat.le_add_right _ _)) | apply below_drewN' | apply below_alloc')⟩
            case round =>
              obtain ⟨rfl, hB⟩ := hrel
              go_wp2
              go_ret
              exact ⟨ret_bool (sh_true hk20 rfl hl (fun j hj => absurd hj (by simp))).symm, hB⟩
          · go_ret
            refine ⟨ret_bool (sh_leaf ?_).symm, below_set' hB1 (Nat.le_add_right_of_le (Nat.le_add_right _ _))⟩
            have a1 : ¬ 0 = n := by assumption
            simp [leafOk]; omega
      by_cases k3 : k = 3
      · subst k3
        obtain rfl : kids = [] := List.eq_nil_of_length_eq_zero (by have : formKids 3 = 0 := rfl; omega)
        go_enter Tryd.func37, Tryd.ntmps37
        go_wp2_with (go_at_call 67; refine (forms_any _).mono ?_; rintro e w' ⟨rfl, rfl⟩)
        go_quiet (fail)
        cases hln : lNameB name
        · go_wp2_with (go_at_call 70; refine (lName_any _ _ hs (ht.kept (by with_reducible repeat (first | exact Below.refl _ _ | apply below_drewN' | apply below_alloc')))).mono ?_; rw [hln]; rintro e w' ⟨rfl, hb⟩)
          go_ret
          exact ⟨ret_bool (sh_leaf (by simp [leafOk, hln])).symm, Below.trans' (by with_reducible repeat (first | exact Below.refl _ _ | apply below_drewN' | apply below_alloc')) hb⟩
        · have hB0 := fun (W W' : World) => @Below.trans' w W W'
          go_wp2_with (go_at_call 70; refine (lName_any _ _ hs (ht.kept (by with_reducible repeat (first | exact Below.refl _ _ | apply below_drewN' | apply below_alloc')))).mono ?_; rw [hln]; rintro e w' ⟨rfl, hb⟩; obtain ⟨hc, hf⟩ := bcell hb; have hB1 : Below w.heap.size w w' := Below.trans' (by with_reducible repeat (first | exact Below.refl _ _ | apply below_drewN' | apply below_alloc')) hb)
          · have hl : leafOk ((3 : Nat) : Int) n name = true := by
              have a1 : 0 = n := by assumption
              simp [leafOk, hln, ← a1]
            go_loopw [76] (fun i wr => i = .int .i64 0 ∧ Below w.heap.size w wr) (fun _ _ => 0)
            case atStart => exact ⟨rfl, by with_reducible repeat (first | exact Below.refl _ _ | exact hB1 | refine below_set' ?_ (Nat.le_add_right_of_le (Nat.le_add_right _ _)) | apply below_drewN' | apply below_alloc')⟩
            case round =>
              obtain ⟨rfl, hB⟩ := hrel
              go_wp2
              go_ret
              exact ⟨ret_bool (sh_true hk20 rfl hl (fun j hj => absurd hj (by simp))).symm, hB⟩
          · go_ret
            refine ⟨ret_bool (sh_leaf ?_).symm, below_set' hB1 (Nat.le_add_right_of_le (Nat.le_add_right _ _))⟩
            have a1 : ¬ 0 = n := by assumption
            simp [leafOk]; omega
      have g0 : ((k : Int) == 0) = false := by rw [beq_eq_false_iff_ne]; omega
      have g1 : ((k : Int) == 1) = false := by rw [beq_eq_false_iff_ne]; omega
      have g2 : ((k : Int) == 2) = false := by rw [beq_eq_false_iff_ne]; omega
      have g3 : ((k : Int) == 3) = false := by rw [beq_eq_false_iff_ne]; omega
      cases hem : name.toList.isEmpty
      · go_enter Tryd.func37, Tryd.ntmps37
        go_wp2_with (go_at_call 67; refine (forms_any _).mono ?_; rintro e w' ⟨rfl, rfl⟩)
        go_quiet (fail)
        go_wp2
        all_goals
          go_ret
          refine ⟨ret_bool (sh_leaf ?_).symm, by with_reducible repeat (first | exact Below.refl _ _ | apply below_drewN' | apply below_alloc')⟩
          have a1 := nonEmpty_size (s := name) (by rw [hem]; rfl)
          simp only [leafOk]; rw [if_neg (by omega), if_neg (by omega)]
          by_cases h23 : (k : Int) = 2 ∨ (k : Int) = 3
          · omega
          · rw [if_neg h23]; simp only [a1, decide_false, Bool.and_false]
      · go_enter Tryd.func37, Tryd.ntmps37
        go_wp2_with (go_at_call 67; refine (forms_any _).mono ?_; rintro e w' ⟨rfl, rfl⟩)
        go_quiet (fail)
        go_wp2
        · have hl : leafOk (k : Int) n name = true := by
            have a1 : 0 = n := by assumption
            have a2 := isEmpty_size (s := name) (by rw [hem]; rfl)
            simp only [leafOk]; rw [if_neg (by omega), if_neg (by omega), if_neg (by omega)]; simp [← a1, a2]
          go_loopw [76] (fun i wr => (∃ k' : Nat, k' ≤ kids.length ∧ i = .int .i64 k' ∧ ∀ j (hj : j < kids.length), j < k' → shallowB m kids[j] = true) ∧ Below w.heap.size w wr) (fun i _ => kids.length - (intOf i).toNat)
          case atStart => exact ⟨⟨0, Nat.zero_le _, rfl, fun j _ hj => absurd hj (Nat.not_lt_zero j)⟩, by with_reducible repeat (first | exact Below.refl _ _ | exact hB1 | refine below_set' ?_ (Nat.le_add_right_of_le (Nat.le_add_right _ _)) | apply below_drewN' | apply below_alloc')⟩
          case round =>
            obtain ⟨⟨k', hk', rfl, hall⟩, hB⟩ := hrel
            by_cases hlt : k' < kids.length
            · obtain ⟨b, o, A', c', rfl, _, hb, _, d0, d1, d2, d3, hr', hs', hk'', hn'⟩ := expr_at (hr.blw hB) hlt
              have hI := fun (S : Nat → Prop) (W : World) => ih' kids[k'].kind kids[k'].n kids[k'].name kids[k'].kids A' c' S W
              cases hx : shallowB m kids[k']
              all_goals
                go_wp2_with (go_at_call 37; refine (hI _ _ (hr'.blw (below_alloc' (Below.refl _ _) _)) hs' hk'' hn' (ht.kept (below_alloc' hB _))).mono ?_; rw [Expr.eta, hx]; rintro e w' ⟨rfl, hb'⟩)
              · go_ret
                exact ⟨ret_bool (sh_kid hlt hx).symm, (below_alloc' hB _).trans' hb'⟩
              · go_roundw
                case rel =>
                  have hrel' : ∀ j (hj : j < kids.length), j < k' + 1 → shallowB m kids[j] = true := fun j hj hj' => if h : j = k' then by subst h; exact hx else hall j hj (by omega)
                  have hB2 := (below_alloc' hB _).trans' hb'
                  exact ⟨⟨k' + 1, by omega, by go_num, hrel'⟩, hB2⟩
                case measure => simp only [intOf]; omega
            · go_wp2
              go_ret
              exact ⟨ret_bool (sh_true hk20 h3 hl (fun j hj => hall j hj (by omega))).symm, hB⟩
        · go_ret
          refine ⟨ret_bool (sh_leaf ?_).symm, by with_reducible repeat (first | exact Below.refl _ _ | apply below_drewN' | apply below_alloc')⟩
          have a1 : ¬ 0 = n := by assumption
          simp only [leafOk]; rw [if_neg (by omega), if_neg (by omega), if_neg (by omega)]; simp; omega
    · have h3' : ¬ (kids.length : Int) = formKids k := fun h => h3 h.symm
      go_enter Tryd.func37, Tryd.ntmps37
      go_wp2_with (go_at_call 67; refine (forms_any _).mono ?_; rintro e w' ⟨rfl, rfl⟩)
      go_quiet (fail)
      go_wp2
      go_ret
      exact ⟨ret_bool (by simp [shallowB, h3']), by with_reducible repeat (first | exact Below.refl _ _ | apply below_drewN' | apply below_alloc')⟩

def rightB (x : Expr) : Bool := shallowB 40 x
theorem eRight_any (x : Expr) (A : Option Addr) (c : Nat) (S : Nat → Prop) (w : World) (hr : RdL S w x.d [.int .i64 x.kind, .int .i64 x.n, .string x.name, .slice A x.kids.length c]) (ht : Spaces w) :
    Calls Tryd.prog 21 #[.agg #[.int .i64 x.kind, .int .i64 x.n, .string x.name, .slice A x.kids.length c]] w fun e w' => e = .returned (.bool (rightB x)) ∧ Below w.heap.size w w' := by
  rw [Expr.d_eq] at hr
  have r0 := (hr.2 0 _ _ rfl rfl).int_inv
  have r1 := (hr.2 1 _ _ rfl rfl).int_inv
  have r2 := (hr.2 2 _ _ rfl rfl).str_inv
  have r3 := hr.2 3 _ _ rfl rfl
  have hS := fun W h => shallow_any 40 (by omega) x.kind x.n x.name x.kids A c S W h r2.2 r0.2 r1.2
  go_enter Tryd.func21, Tryd.ntmps21
  go_wp2_with (go_at_call 37; refine (hS _ (r3.blw (below_alloc' (Below.refl _ _) _)) (ht.kept (below_alloc' (Below.refl _ _) _))).mono ?_; rw [Expr.eta]; rintro e w' ⟨rfl, hb⟩)
  go_ret
  exact ⟨rfl, (below_alloc' (Below.refl _ _) _).trans' hb⟩
end Go.Proofs.YtfdpkmpnfalggaaDoor
