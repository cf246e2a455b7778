/- The names: value.letter, value.Goes, value.Name, lex.word, lex.Name, each by a contract. -/
import Derived.Test.YtfdpkmpnfalggaaDoorProg
import Derived.Test.YtfdpkmpnfalggaaDoorWd
import Derived.Test.YtfdpkmpnfalggaaDoorShelf
import Derived.BigQuiet
import Derived.Deep.QuietTactic
import Derived.Outline
import Derived.WalkLawsBesides
import Derived.Deep.LoopGhost
import Derived.Lib.ConvBytes
set_option linter.unusedVariables false
namespace Go.Proofs.YtfdpkmpnfalggaaDoor
open Go.RowKit

def letterB (c : Int) : Bool := (decide (97 ≤ c) && decide (c ≤ 122)) || (decide (65 ≤ c) && decide (c ≤ 90))
def goesB (c : Int) : Bool := letterB c || (decide (48 ≤ c) && decide (c ≤ 57)) || decide (c = 95)
def byteAt (s : ByteArray) (i : Nat) : Int := ((s.data.toList.getD i 0).toNat : Int)
def vNameB (s : ByteArray) : Bool := decide (0 < s.size) && decide (s.size ≤ 24) && letterB (byteAt s 0) && s.data.toList.all fun c => goesB c.toNat

theorem vletter_any (c : Int) (w : World) : Calls Tryd.prog 153 #[.int .u8 c] w fun e w' => e = .returned (.bool (letterB c)) ∧ w = w' := by
  unfold letterB
  by_cases h1 : 97 ≤ c <;> by_cases h2 : c ≤ 122 <;> by_cases h3 : 65 ≤ c <;> by_cases h4 : c ≤ 90 <;> first | omega | (go_enter Tryd.func153, Tryd.ntmps153; go_wp2; go_ret; exact ⟨by simp [h1, h2, h3, h4], rfl⟩)

theorem ret_bool {a b : Bool} (h : a = b) : Ending.returned (.bool a) = .returned (.bool b) := by rw [h]

theorem vGoes_any (c : Int) (w : World) : Calls Tryd.prog 154 #[.int .u8 c] w fun e w' => e = .returned (.bool (goesB c)) ∧ w = w' := by
  unfold goesB
  cases hl : letterB c <;> by_cases h1 : 48 ≤ c <;> by_cases h2 : c ≤ 57 <;> first | omega | (
    go_enter Tryd.func154, Tryd.ntmps154
    go_wp2_with (go_at_call 153; refine (vletter_any _ _).mono ?_; rintro e w' ⟨rfl, rfl⟩)
    go_ret; exact ⟨ret_bool (by rw [Bool.eq_iff_iff]; simp; try omega), rfl⟩)

theorem all_byteAt (s : ByteArray) (f : Int → Bool) : (s.data.toList.all fun c => f c.toNat) = true ↔ ∀ j, j < s.size → f (byteAt s j) = true := by
  rw [List.all_eq_true]
  constructor
  · intro h j hj
    have hj' : j < s.data.toList.length := by simpa using hj
    have := h (s.data.toList[j]) (List.getElem_mem hj')
    unfold byteAt
    rwa [List.getD_eq_getElem?_getD, List.getElem?_eq_getElem hj']
  · intro h x hx
    obtain ⟨j, hj, rfl⟩ := List.getElem_of_mem hx
    have := h j (by simpa using hj)
    unfold byteAt at this
    rwa [List.getD_eq_getElem?_getD, List.getElem?_eq_getElem hj] at this

theorem byteAt_eq (s : ByteArray) (i : Nat) (h : i < s.size) : byteAt s i = ((s[i]'h).toNat : Int) := by
  unfold byteAt
  have h' : i < s.data.toList.length := by simpa using h
  rw [List.getD_eq_getElem?_getD, List.getElem?_eq_getElem h']; rfl
theorem toList_isEmpty {s : ByteArray} (h : ¬ s.size = 0) : s.toList.isEmpty = false := by
  cases hs : s.toList with
  | nil =>
    rw [ByteArray.toList_eq] at hs
    exact absurd (by have := congrArg List.length hs; simpa using this) h
  | cons a l => rfl

theorem bytesWorld_below (w : World) (e : TypeId) (s : ByteArray) : Below w.heap.size w (Lib.bytesWorld w e s) :=
  ⟨by simp [Lib.bytesWorld, World.freeze, World.alloc, World.drew, -World.alloc_eq, -World.drew_eq], by simp [Lib.bytesWorld, World.freeze, World.alloc, World.drew, -World.alloc_eq, -World.drew_eq],
    by simp [Lib.bytesWorld, World.freeze, World.alloc, World.drew, -World.alloc_eq, -World.drew_eq], by rw [Lib.bytesWorld_size]; omega, fun j hj => Lib.bytesWorld_at_old w e s j hj⟩

theorem vName_no {s : ByteArray} (k : Nat) (hk : k < s.size) (h : goesB (byteAt s k) = false) : vNameB s = false := by
  unfold vNameB
  cases hx : (s.data.toList.all fun c => goesB c.toNat) with
  | false => simp
  | true => have := (all_byteAt s goesB).1 hx k hk; rw [h] at this; exact absurd this (by simp)
theorem vName_yes {s : ByteArray} (h0 : 0 < s.size) (h1 : s.size ≤ 24) (h2 : letterB (byteAt s 0) = true) (h : ∀ j, j < s.size → goesB (byteAt s j) = true) : vNameB s = true := by
  unfold vNameB
  rw [(all_byteAt s goesB).2 h, h2]; simp [h0, h1]

set_option maxRecDepth 100000 in
theorem vName_any (s : ByteArray) (w : World) (hs : s.size ≤ maxLen) : Calls Tryd.prog 111 #[.string s] w fun e w' => e = .returned (.bool (vNameB s)) ∧ Below w.heap.size w w' := by
  unfold maxLen at hs
  by_cases h0 : s.size = 0
  · obtain rfl : s = ByteArray.empty := by simpa using h0
    go_enter Tryd.func111, Tryd.ntmps111
    go_wp2
    go_ret; exact ⟨rfl, Below.refl _ _⟩
  have hne : s.toList.isEmpty = false := toList_isEmpty h0
  by_cases h24 : 24 < s.size
  · go_enter Tryd.func111, Tryd.ntmps111
    go_wp2
    go_ret; exact ⟨ret_bool (by simp [vNameB]; omega), Below.refl _ _⟩
  have h1 : 0 < s.size := by omega
  have hd : decide (24 < (s.size : Int)) = false := by simp; omega
  have hb0 := byteAt_eq s 0 h1
  cases hl : letterB ((s[0]'h1).toNat : Int)
  · go_enter Tryd.func111, Tryd.ntmps111
    go_wp2_with (go_at_call 153; refine (vletter_any _ _).mono ?_; rintro e w' ⟨rfl, rfl⟩)
    go_ret; exact ⟨ret_bool (by simp [vNameB, hl, hb0]), Below.refl _ _⟩
  have hcv : ∀ W : World, (convert 9 40 (.string s)).run Tryd.prog W = .ok (.slice (some ⟨W.heap.size, 0, none⟩) s.size (grownCap W s.size 0 5)) (Lib.bytesWorld W 5 s) :=
    fun W => Lib.run_convert_string_bytes W 9 40 5 s Tryd.underlying9 Tryd.underlying40 Tryd.underlying5
  have hB := bytesWorld_below w 5 s
  have hC : ∀ j, j < s.size → (Lib.bytesWorld w 5 s).cell? ⟨w.heap.size, j, none⟩ = some (.int .u8 (byteAt s j)) := fun j hj => Lib.bytesWorld_cell w _ s j hj
  go_enter Tryd.func111, Tryd.ntmps111
  go_wp2_with (go_at_call 153; refine (vletter_any _ _).mono ?_; rintro e w' ⟨rfl, rfl⟩)
  generalize Lib.bytesWorld w 5 s = w1 at hB hC
  go_loop [21] (fun i => ∃ k : Nat, k ≤ s.size ∧ i = .int .i64 k ∧ ∀ j, j < k → goesB (byteAt s j) = true) (fun i => s.size - (intOf i).toNat)
  case atStart => exact ⟨0, Nat.zero_le _, rfl, fun j hj => by omega⟩
  case round =>
    obtain ⟨k, hk, rfl, hall⟩ := hrel
    by_cases hlt : k < s.size
    · have hc := hC k hlt
      clear hC
      cases hg : goesB (byteAt s k)
      · go_wp2_with (go_at_call 154; refine (vGoes_any _ _).mono ?_; rintro e w' ⟨rfl, rfl⟩)
        go_ret
        exact ⟨ret_bool (vName_no k hlt hg).symm, hB⟩
      · go_wp2_with (go_at_call 154; refine (vGoes_any _ _).mono ?_; rintro e w' ⟨rfl, rfl⟩)
        go_round
        case rel => exact ⟨k + 1, by omega, by go_num, fun j hj => if h : j = k then by rw [h]; exact hg else hall j (by omega)⟩
        case measure => simp [intOf]; omega
    · go_wp2
      go_ret
      exact ⟨ret_bool (vName_yes h1 (by omega) (by rw [hb0]; exact hl) (fun j hj => hall j (by omega))).symm, hB⟩

/-! ### The words -/
def wordsTxt : ByteArray := (⟨#[107, 101, 121, 32, 116, 114, 101, 101, 32, 100, 111, 109, 97, 105, 110, 32, 111, 119, 110, 32, 115, 104, 97, 114, 101, 100, 32, 105, 110, 116, 32, 98, 111, 111, 108, 32, 114, 101, 102, 32, 115, 121, 109, 32, 112, 111, 105, 110, 116, 32, 115, 101, 113, 32, 115, 101, 108, 32, 109, 115, 101, 113, 32, 109, 115, 101, 108, 32, 112, 97, 114, 32, 110, 111, 116, 32, 114, 101, 112, 101, 97, 116, 32, 105, 102, 32, 115, 101, 116, 32, 100, 111, 32, 117, 115, 101, 32, 112, 105, 99, 107, 32, 112, 108, 97, 110, 32, 111, 107, 32, 102, 97, 105, 108, 32, 119, 97, 105, 116, 32, 118, 97, 114, 32, 97, 99, 116, 32, 99, 111, 115, 116, 32, 110, 101, 101, 100, 32, 109, 97, 107, 101, 32, 103, 111, 97, 108, 32, 116, 114, 117, 101, 32, 102, 97, 108, 115, 101, 32, 115, 101, 108, 102, 32, 116, 105, 109, 101, 32, 97, 110, 100, 32, 111, 114, 32, 114, 101, 32, 105, 109, 32, 116, 117, 114, 110, 32, 102, 97, 114]⟩ : ByteArray)
def wordsL : List ByteArray := [(⟨#[107, 101, 121]⟩ : ByteArray), (⟨#[116, 114, 101, 101]⟩ : ByteArray), (⟨#[100, 111, 109, 97, 105, 110]⟩ : ByteArray), (⟨#[111, 119, 110]⟩ : ByteArray), (⟨#[115, 104, 97, 114, 101, 100]⟩ : ByteArray), (⟨#[105, 110, 116]⟩ : ByteArray), (⟨#[98, 111, 111, 108]⟩ : ByteArray), (⟨#[114, 101, 102]⟩ : ByteArray), (⟨#[115, 121, 109]⟩ : ByteArray), (⟨#[112, 111, 105, 110, 116]⟩ : ByteArray), (⟨#[115, 101, 113]⟩ : ByteArray), (⟨#[115, 101, 108]⟩ : ByteArray), (⟨#[109, 115, 101, 113]⟩ : ByteArray), (⟨#[109, 115, 101, 108]⟩ : ByteArray), (⟨#[112, 97, 114]⟩ : ByteArray), (⟨#[110, 111, 116]⟩ : ByteArray), (⟨#[114, 101, 112, 101, 97, 116]⟩ : ByteArray), (⟨#[105, 102]⟩ : ByteArray), (⟨#[115, 101, 116]⟩ : ByteArray), (⟨#[100, 111]⟩ : ByteArray), (⟨#[117, 115, 101]⟩ : ByteArray), (⟨#[112, 105, 99, 107]⟩ : ByteArray), (⟨#[112, 108, 97, 110]⟩ : ByteArray), (⟨#[111, 107]⟩ : ByteArray), (⟨#[102, 97, 105, 108]⟩ : ByteArray), (⟨#[119, 97, 105, 116]⟩ : ByteArray), (⟨#[118, 97, 114]⟩ : ByteArray), (⟨#[97, 99, 116]⟩ : ByteArray), (⟨#[99, 111, 115, 116]⟩ : ByteArray), (⟨#[110, 101, 101, 100]⟩ : ByteArray), (⟨#[109, 97, 107, 101]⟩ : ByteArray), (⟨#[103, 111, 97, 108]⟩ : ByteArray), (⟨#[116, 114, 117, 101]⟩ : ByteArray), (⟨#[102, 97, 108, 115, 101]⟩ : ByteArray), (⟨#[115, 101, 108, 102]⟩ : ByteArray), (⟨#[116, 105, 109, 101]⟩ : ByteArray), (⟨#[97, 110, 100]⟩ : ByteArray), (⟨#[111, 114]⟩ : ByteArray), (⟨#[114, 101]⟩ : ByteArray), (⟨#[105, 109]⟩ : ByteArray), (⟨#[116, 117, 114, 110]⟩ : ByteArray), (⟨#[102, 97, 114]⟩ : ByteArray)]
def isWordB (s : ByteArray) : Bool := Lib.containsS wordsL s
def lNameB (s : ByteArray) : Bool := vNameB s && !isWordB s

/-- strings.asciiSpace reads as Go's text lays it. -/
def Spaces (w : World) : Prop := Lib.TabIs Tryd.prog w "strings.asciiSpace" .u8 Lib.asciiSpaceTab
theorem var_kept {P : Program} {w w' : World} {n : String} {cs : Array Value} (h : Below w.heap.size w w') (hv : w.var? P n = some cs) : w'.var? P n = some cs := by
  unfold World.var? at hv ⊢
  cases hg : P.globalNamed n with
  | none => rw [hg] at hv; simp at hv
  | some g =>
    rw [hg] at hv
    simp only [Option.bind_some] at hv ⊢
    by_cases hl : g < w.heap.size
    · rw [h.block g hl]; exact hv
    · rw [Array.getElem?_eq_none (by omega)] at hv; simp at hv
theorem Spaces.kept {w w' : World} (h : Spaces w) (hb : Below w.heap.size w w') : Spaces w' := var_kept hb h

theorem words_fields : (Lib.fields wordsTxt.data.toList).map (fun l => Value.string ⟨l.toArray⟩) = wordsL.map Value.string := by kernel_rfl
theorem words_len : (Lib.fields wordsTxt.data.toList).length = 42 := by kernel_rfl
theorem words_ascii : ∀ (j : Nat) b, wordsTxt.data.toList[j]? = some b → b.toNat < 128 := by
  intro j b h
  have hm := List.mem_of_getElem? h
  have : ∀ b ∈ wordsTxt.data.toList, b.toNat < 128 := by decide +kernel
  exact this b hm

theorem strs_new (w : World) (l : List ByteArray) (t : TypeId) (j : Nat) (hj : j < l.length) : (w.alloc (.cells (l.map Value.string).toArray t)).cell? ⟨w.heap.size, 0 + j, none⟩ = some (.string (l.getD j ByteArray.empty)) := by
  simp [World.cell?, World.alloc, -World.alloc_eq, hj]

theorem lword_any (s : ByteArray) (w : World) (ht : Spaces w) : Calls Tryd.prog 112 #[.string s] w fun e w' => e = .returned (.bool (isWordB s)) ∧ Below w.heap.size w w' := by
  have hc : ∀ j, j < wordsL.length → (w.alloc (.cells (wordsL.map Value.string).toArray 9)).cell? ⟨w.heap.size, 0 + j, none⟩ = some (.string (wordsL.getD j ByteArray.empty)) := fun j hj => strs_new w _ _ j hj
  have hb : Below w.heap.size w (w.alloc (.cells (wordsL.map Value.string).toArray 9)) := (Below.refl _ _).alloc (Nat.le_refl _) _
  go_enter Tryd.func112, Tryd.ntmps112
  go_wp2_with (go_at_call 155; refine (Tryd.strings_Fields wordsTxt w (by decide +kernel) words_ascii ht).mono ?_; rw [words_fields, words_len]; rintro e w' ⟨rfl, rfl⟩)
  generalize (w.alloc (.cells (wordsL.map Value.string).toArray 9)) = w1 at hc hb
  go_wp2_with (go_at_call 138; refine (Tryd.slices_Contains_string w.heap.size 0 42 42 wordsL s w1 (by decide) (by decide) hc).mono ?_; rintro e w' ⟨rfl, rfl⟩)
  go_ret
  exact ⟨rfl, hb⟩

theorem lName_any (s : ByteArray) (w : World) (hs : s.size ≤ maxLen) (ht : Spaces w) : Calls Tryd.prog 70 #[.string s] w fun e w' => e = .returned (.bool (lNameB s)) ∧ Below w.heap.size w w' := by
  unfold lNameB
  cases hn : vNameB s
  · go_enter Tryd.func70, Tryd.ntmps70
    go_wp2_with (go_at_call 111; refine (vName_any _ _ hs).mono ?_; rw [hn]; rintro e w' ⟨rfl, hb⟩)
    go_ret
    exact ⟨rfl, hb⟩
  · go_enter Tryd.func70, Tryd.ntmps70
    go_wp2_with (go_at_call 111; refine (vName_any _ _ hs).mono ?_; rw [hn]; rintro e w1 ⟨rfl, hb⟩)
    go_wp2_with (go_at_call 112; refine (lword_any _ _ (ht.kept hb)).mono ?_; rintro e w2 ⟨rfl, hb2⟩)
    go_ret
    exact ⟨rfl, hb.trans' hb2⟩
end Go.Proofs.YtfdpkmpnfalggaaDoor
