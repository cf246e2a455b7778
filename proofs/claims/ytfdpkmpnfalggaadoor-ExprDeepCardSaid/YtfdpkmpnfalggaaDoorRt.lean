/- The reference's digit, letter, signs, begins, skip by contracts. -/
import Derived.Test.YtfdpkmpnfalggaaDoorTk
import Derived.Lib.SlBytesRow
import Derived.StillTailTactics
set_option linter.unusedVariables false
set_option linter.unusedSimpArgs false
namespace Go.Proofs.YtfdpkmpnfalggaaDoor
open Go.RowKit

theorem bytes_beq' (a b : ByteArray) : (a.toList == b.toList) = decide (a = b) := by
  rw [Bool.eq_iff_iff]
  simp only [beq_iff_eq, decide_eq_true_eq, ByteArray.toList_eq]
  exact ⟨fun h => by cases a; cases b; simp only [ByteArray.mk.injEq]; exact Array.toList_inj.1 h, fun h => by rw [h]⟩
set_option maxRecDepth 100000 in
set_option maxHeartbeats 1000000 in
theorem rword_is (s : ByteArray) (w : World) : Calls Tryd.prog 60 #[.string s] w fun e w' => e = .returned (.bool (isWordB s)) ∧ Below w.heap.size w w' := by
  have hc : ∀ j, j < wordsL.length → (w.alloc (.cells (wordsL.map Value.string).toArray 9)).cell? ⟨w.heap.size, j, none⟩ = some (.string (wordsL.getD j ByteArray.empty)) := fun j hj => by
    have := strs_new w wordsL 9 j hj
    rwa [Nat.zero_add] at this
  have hb : Below w.heap.size w (w.alloc (.cells (wordsL.map Value.string).toArray 9)) := (Below.refl _ _).alloc (Nat.le_refl _) _
  have hn : wordsL.length = 42 := rfl
  go_enter Tryd.func60, Tryd.ntmps60
  go_wp2
  change Code.wp _ _ _ _ (w.alloc (.cells (wordsL.map Value.string).toArray 9))
  generalize (w.alloc (.cells (wordsL.map Value.string).toArray 9)) = w1 at hc hb
  go_loop [4] (fun i => ∃ k : Nat, k ≤ 42 ∧ i = .int .i64 k ∧ ∀ j, j < k → wordsL.getD j ByteArray.empty ≠ s) (fun i => 42 - (intOf i).toNat)
  case atStart => exact ⟨0, Nat.zero_le _, rfl, fun j hj => absurd hj (Nat.not_lt_zero j)⟩
  case round =>
    obtain ⟨k, hk, rfl, hall⟩ := hrel
    by_cases hlt : k < 42
    · have c0 := hc k (by omega)
      have hb0 := World.block_lt_of_cell? w1 _ c0
      clear hc
      by_cases hx : wordsL.getD k ByteArray.empty = s
      · have hx' : ((wordsL.getD k ByteArray.empty).toList == s.toList) = true := by rw [bytes_beq']; simpa using hx
        have HX : isWordB s = true := (Lib.containsS_iff _ _).2 (by rw [← hx, List.getD_eq_getElem?_getD, List.getElem?_eq_getElem (by omega)]; exact List.getElem_mem _)
        clear hx
        generalize wordsL.getD k ByteArray.empty = q at c0 hx'
        go_wp2
        go_ret
        exact ⟨ret_bool rfl, hb⟩
      · have hx' : ((wordsL.getD k ByteArray.empty).toList == s.toList) = false := by rw [bytes_beq']; simpa using hx
        have HX := Lib.hid hx
        clear hx
        generalize hq : wordsL.getD k ByteArray.empty = q at c0 hx' HX
        go_wp2
        go_round
        case rel => exact ⟨k + 1, by omega, by go_num, fun j hj => if h : j = k then by subst h; rw [hq]; exact HX.out else hall j (by omega)⟩
        case measure => simp only [intOf]; omega
    · go_wp2
      go_ret
      refine ⟨ret_bool ?_, hb⟩
      cases hx : isWordB s with
      | false => rfl
      | true =>
        obtain ⟨j, hj, rfl⟩ := List.getElem_of_mem ((Lib.containsS_iff _ _).1 hx)
        exact absurd (by rw [List.getD_eq_getElem?_getD, List.getElem?_eq_getElem hj]; rfl) (hall j (by omega))

def digitB (c : Int) : Bool := decide (48 ≤ c) && decide (c ≤ 57)
theorem rdigit_any (c : Int) (w : World) : Calls Tryd.prog 59 #[.int .u8 c] w fun e w' => e = .returned (.bool (digitB c)) ∧ w = w' := by
  unfold digitB
  by_cases h1 : 48 ≤ c <;> by_cases h2 : c ≤ 57 <;> first | omega | (go_enter Tryd.func59, Tryd.ntmps59; go_wp2; go_ret; exact ⟨by simp [h1, h2], rfl⟩)
theorem rletter_any (c : Int) (w : World) : Calls Tryd.prog 58 #[.int .u8 c] w fun e w' => e = .returned (.bool (goesB c)) ∧ w = w' := by
  have hd := rdigit_any c w
  have hg : goesB c = (letterB c || digitB c || decide (c = 95)) := by simp [goesB, digitB]
  rw [hg]
  have h5 : (c == 95) = decide (c = 95) := by rw [Bool.eq_iff_iff]; simp
  generalize decide (c = 95) = b5 at h5 ⊢
  generalize digitB c = bd at hd ⊢
  unfold letterB
  by_cases h1 : 97 ≤ c <;> by_cases h2 : c ≤ 122 <;> by_cases h3 : 65 ≤ c <;> by_cases h4 : c ≤ 90 <;> first | omega | (cases bd <;> cases b5 <;> (
    go_enter Tryd.func58, Tryd.ntmps58
    go_wp2_with (go_at_call 59; refine hd.mono ?_; rintro e w' ⟨rfl, rfl⟩)
    go_ret; exact ⟨ret_bool (by simp [h1, h2, h3, h4]), rfl⟩))

theorem rsigns_any (w : World) : Calls Tryd.prog 61 #[] w fun e w' => e = .returned (.slice (some ⟨w.heap.size, 0, none⟩) 18 18) ∧ w' = w.alloc (.cells (signTexts.map Value.string).toArray 9) := by
  go_enter Tryd.func61, Tryd.ntmps61
  go_wp2
  go_ret
  exact ⟨rfl, rfl⟩

/-- The bytes of a text from a place on. -/
def fromB (s : ByteArray) (i : Nat) : Bs := s.data.toList.drop i
theorem fromB_cons (s : ByteArray) (i : Nat) (h : i < s.size) : fromB s i = s[i] :: fromB s (i + 1) := by
  unfold fromB
  rw [List.drop_eq_getElem_cons (by simpa using h)]; rfl
theorem fromB_nil (s : ByteArray) (i : Nat) (h : s.size ≤ i) : fromB s i = [] := by
  unfold fromB
  exact List.drop_eq_nil_of_le (by simpa using h)
theorem fromB_length (s : ByteArray) (i : Nat) : (fromB s i).length = s.size - i := by simp [fromB]
theorem prefixB_no (s x : ByteArray) (i : Nat) (h : s.size - i < x.size) : prefixB x (fromB s i) = false := by
  unfold prefixB
  cases hp : x.data.toList.isPrefixOf (fromB s i) with
  | false => rfl
  | true =>
    have := (List.isPrefixOf_iff_prefix.1 hp).length_le
    rw [fromB_length] at this
    simp at this
    omega
theorem prefixB_yes (s x : ByteArray) (i : Nat) (h : i + x.size ≤ s.size) : prefixB x (fromB s i) = decide (s.extract i (i + x.size) = x) := by
  rw [Bool.eq_iff_iff, decide_eq_true_eq]
  unfold prefixB
  rw [List.isPrefixOf_iff_prefix, List.prefix_iff_eq_take]
  have e1 : (s.extract i (i + x.size)).data.toList = (fromB s i).take x.size := by
    rw [Lib.extract_data, show i + x.size - i = x.size by omega]; rfl
  have e2 : x.data.toList.length = x.size := by simp
  rw [e2, ← e1]
  constructor
  · intro h; exact (ByteArray.ext (Array.toList_inj.1 h)).symm
  · intro h; rw [h]

theorem rbegins_any (s x : ByteArray) (b o cap i : Nat) (w : World) (hc : Lib.Bytes w b o s) (hi : i ≤ s.size) (hx : 0 < x.size) (hcap : s.size ≤ cap) (hs : s.size ≤ 1000000) (hxs : x.size ≤ 1000000) :
    Calls Tryd.prog 57 #[.slice (some ⟨b, o, none⟩) s.size cap, .int .i64 i, .string x] w fun e w' => e = .returned (.bool (prefixB x (fromB s i))) ∧ w = w' := by
  by_cases h : i + x.size ≤ s.size
  · rw [prefixB_yes s x i h]
    have hsl := Lib.run_slice_window (P := Tryd.prog) w 40 5 Tryd.underlying40 (fun _ => by kernel_rfl) b o s.size cap i (i + x.size) (by omega) (by omega)
    have hcv := Lib.run_convert_window (P := Tryd.prog) w 40 5 9 Tryd.underlying40 Tryd.underlying5 Tryd.underlying9 b o s hc i x.size (cap - i) h
    rw [show i + x.size - i = x.size by omega] at hsl
    have hq := bytes_beq' (s.extract i (i + x.size)) x
    generalize s.extract i (i + x.size) = y at hcv hq ⊢
    have hd : decide ((x.size : Int) ≤ (s.size : Int) - (i : Int)) = true := decide_eq_true (by omega)
    rw [show ((i + x.size : Nat) : Int) = (i : Int) + (x.size : Int) by omega] at hsl
    cases hy : decide (y = x)
    all_goals
      rw [hy] at hq
      go_enter Tryd.func57, Tryd.ntmps57
      go_wp2
      go_ret
      exact ⟨ret_bool (by simp), rfl⟩
  · rw [prefixB_no s x i (by omega)]
    have hd : decide ((x.size : Int) ≤ (s.size : Int) - (i : Int)) = false := decide_eq_false (by omega)
    go_enter Tryd.func57, Tryd.ntmps57
    go_wp2
    go_ret
    exact ⟨ret_bool (by simp), rfl⟩

theorem slashes (c : UInt8) (r : Bs) : prefixB (⟨#[47, 47]⟩ : ByteArray) (c :: r) = (c == 47 && r.head? == some 47) := by
  cases r with
  | nil => simp [prefixB, List.isPrefixOf]
  | cons d r =>
    have e1 : ((47 : UInt8) == c) = (c == 47) := by rw [Bool.eq_iff_iff, beq_iff_eq, beq_iff_eq]; exact ⟨Eq.symm, Eq.symm⟩
    have e2 : ((47 : UInt8) == d) = (d == 47) := by rw [Bool.eq_iff_iff, beq_iff_eq, beq_iff_eq]; exact ⟨Eq.symm, Eq.symm⟩
    simp only [prefixB, List.isPrefixOf, e1, e2, List.head?_cons, Bool.and_true]
    rfl
theorem skip_line {s : ByteArray} {k : Nat} (h : k < s.size) (hb : blankB s[k] = false) (hp : prefixB (⟨#[47, 47]⟩ : ByteArray) (fromB s k) = true) : skipL false (fromB s k) = skipL true (fromB s (k + 1)) + 1 ∧ s[k] ≠ 10 := by
  rw [fromB_cons s k h, slashes] at hp
  rw [fromB_cons s k h]
  refine ⟨by rw [skipL, if_neg (by rw [hb]; decide), if_pos hp], fun h10 => ?_⟩
  rw [h10] at hb
  exact absurd hb (by decide)
theorem skip_none {s : ByteArray} {k : Nat} (h : k < s.size) (hb : blankB s[k] = false) (hp : prefixB (⟨#[47, 47]⟩ : ByteArray) (fromB s k) = false) : skipL false (fromB s k) = 0 := by
  rw [fromB_cons s k h, slashes] at hp
  rw [fromB_cons s k h, skipL, if_neg (by rw [hb]; decide), if_neg (by rw [hp]; decide)]
theorem skip_blank {s : ByteArray} {k : Nat} (h : k < s.size) (hb : blankB s[k] = true) : skipL false (fromB s k) = skipL false (fromB s (k + 1)) + 1 := by
  rw [fromB_cons s k h, skipL, if_pos hb]
theorem skip_in {s : ByteArray} {k : Nat} (h : k < s.size) (h10 : s[k] ≠ 10) : skipL true (fromB s k) = skipL true (fromB s (k + 1)) + 1 := by
  rw [fromB_cons s k h, skipL, if_neg (by simpa using h10)]
theorem skip_out {s : ByteArray} {k : Nat} (h : k < s.size) (h10 : s[k] = 10) : skipL true (fromB s k) = skipL false (fromB s k) := by
  rw [fromB_cons s k h, skipL, skipL, h10, if_pos (by decide), if_pos (by decide)]
theorem skip_end (q : Bool) (s : ByteArray) (k : Nat) (h : s.size ≤ k) : skipL q (fromB s k) = 0 := by
  rw [fromB_nil s k h]; cases q <;> rfl
theorem u8_eq {c : UInt8} {n : Nat} (hn : n < 256) : ((c.toNat : Int) == (n : Int)) = (c == UInt8.ofNat n) := by
  rw [Bool.eq_iff_iff, beq_iff_eq, beq_iff_eq]
  constructor
  · intro h; apply UInt8.toNat_inj.1; simp; omega
  · intro h; rw [h]; simp; omega

set_option maxRecDepth 100000 in
set_option maxHeartbeats 1000000 in
theorem rskip_any (s : ByteArray) (b o cap i : Nat) (w : World) (hc : Lib.Bytes w b o s) (hi : i ≤ s.size) (hcap : s.size ≤ cap) (hs : s.size ≤ 1000000) :
    Calls Tryd.prog 29 #[.slice (some ⟨b, o, none⟩) s.size cap, .int .i64 i] w fun e w' => e = .returned (.int .i64 (i + skipL false (fromB s i) : Nat)) ∧ w = w' := by
  have hB := fun k hk => rbegins_any s (⟨#[47, 47]⟩ : ByteArray) b o cap k w hc hk (by decide) hcap hs (by decide)
  obtain ⟨T, hT⟩ : ∃ T, T = i + skipL false (fromB s i) := ⟨_, rfl⟩
  rw [← hT]
  have HT := Lib.hid hT
  have HC := Lib.hid hc
  clear hT hc
  go_enter Tryd.func29, Tryd.ntmps29
  go_wp2
  go_loop [1] (fun t => ∃ k : Nat, k ≤ s.size ∧ t = .int .i64 k ∧ Hid (k + skipL false (fromB s k) = T)) (fun t => s.size - (intOf t).toNat)
  case atStart => exact ⟨i, hi, rfl, HT.out.symm⟩
  case round =>
    obtain ⟨k, hk, rfl, hR⟩ := hrel
    by_cases hlt : k < s.size
    · have c0 := HC.out k hlt
      have hBk := hB k hk
      have e32 : ((s[k].toNat : Int) == 32) = (s[k] == 32) := u8_eq (c := s[k]) (n := 32) (by decide)
      have e9 : ((s[k].toNat : Int) == 9) = (s[k] == 9) := u8_eq (c := s[k]) (n := 9) (by decide)
      have e10 : ((s[k].toNat : Int) == 10) = (s[k] == 10) := u8_eq (c := s[k]) (n := 10) (by decide)
      have e13 : ((s[k].toNat : Int) == 13) = (s[k] == 13) := u8_eq (c := s[k]) (n := 13) (by decide)
      have hnx : skipL false (fromB s k) = skipL false (fromB s (k + 1)) + 1 → ∃ k' : Nat, k' ≤ s.size ∧ (Value.int .i64 ((k : Int) + 1) : Value) = .int .i64 k' ∧ Hid (k' + skipL false (fromB s k') = T) := fun e => ⟨k + 1, by omega, by go_num, by have := hR.out; show _ = _; omega⟩
      cases hbl : blankB s[k]
      · have hn : (s[k] == 32) = false ∧ (s[k] == 9) = false ∧ (s[k] == 10) = false ∧ (s[k] == 13) = false := by
          simp only [blankB, Bool.or_eq_false_iff] at hbl
          exact ⟨hbl.1.1.1, hbl.1.1.2, hbl.1.2, hbl.2⟩
        rw [hn.1] at e32
        rw [hn.2.1] at e9
        rw [hn.2.2.1] at e10
        rw [hn.2.2.2] at e13
        cases hpx : prefixB (⟨#[47, 47]⟩ : ByteArray) (fromB s k)
        · rw [hpx] at hBk
          have HR := Lib.hid (skip_none hlt hbl hpx)
          clear hpx hbl hn hnx
          go_wp2_with (go_at_call 57; refine hBk.mono ?_; rintro e w' ⟨rfl, rfl⟩)
          go_ret
          have he := hR.out
          rw [HR.out] at he
          exact ⟨by rw [← he]; rfl, rfl⟩
        · rw [hpx] at hBk
          obtain ⟨hl1, hl2⟩ := skip_line hlt hbl hpx
          have HR := Lib.hid hl1
          have H10 := Lib.hid hl2
          clear hpx hbl hn hnx hl1 hl2
          go_wp2_with (go_at_call 57; refine hBk.mono ?_; rintro e w' ⟨rfl, rfl⟩)
          go_loop [1] (fun t => ∃ m : Nat, k ≤ m ∧ m ≤ s.size ∧ t = .int .i64 m ∧ Hid (m + skipL true (fromB s m) = T)) (fun t => s.size - (intOf t).toNat)
          case atStart => exact ⟨k, Nat.le_refl _, hk, rfl, by have h1 := hR.out; have h2 := HR.out; have h3 := skip_in hlt H10.out; show _ = _; omega⟩
          case round =>
            obtain ⟨m, hm1, hm2, rfl, hM⟩ := hrel
            by_cases hml : m < s.size
            · have c1 := HC.out m hml
              have f10 : ((s[m].toNat : Int) != 10) = (s[m] != 10) := by
                have := u8_eq (c := s[m]) (n := 10) (by decide)
                show (!((s[m].toNat : Int) == 10)) = !(s[m] == 10)
                rw [show ((10 : Int)) = ((10 : Nat) : Int) from rfl, this]; rfl
              cases hb10 : (s[m] != 10)
              · rw [hb10] at f10
                have h10 : s[m] = 10 := by simpa using hb10
                have HO := Lib.hid (skip_out hml h10)
                have hmk : k < m := by
                  rcases Nat.lt_or_ge k m with h | h
                  · exact h
                  · obtain rfl : m = k := by omega
                    exact absurd h10 H10.out
                clear hb10 h10
                go_wp2
                go_round
                case rel => exact ⟨m, hm2, rfl, by have h1 := hM.out; have h2 := HO.out; show _ = _; omega⟩
                case measure => simp only [intOf]; omega
              · rw [hb10] at f10
                have h10 : s[m] ≠ 10 := by simpa using hb10
                have HO := Lib.hid (skip_in hml h10)
                clear hb10 h10
                go_wp2
                go_round
                case rel => exact ⟨m + 1, by omega, by omega, by go_num, by have h1 := hM.out; have h2 := HO.out; show _ = _; omega⟩
                case measure => simp only [intOf]; omega
            · have he := hM.out
              rw [skip_end true s m (by omega)] at he
              have HE := Lib.hid he
              clear he
              go_wp2
              go_round
              case rel => exact ⟨m, hm2, rfl, by have h1 := HE.out; have h2 := skip_end false s m (by omega); show _ = _; omega⟩
              case measure => simp only [intOf]; omega
      · have hs1 := hnx (skip_blank hlt hbl)
        have hor : s[k] = 32 ∨ s[k] = 9 ∨ s[k] = 10 ∨ s[k] = 13 := by
          simp only [blankB, Bool.or_eq_true, beq_iff_eq] at hbl
          rcases hbl with ((h | h) | h) | h
          · exact .inl h
          · exact .inr (.inl h)
          · exact .inr (.inr (.inl h))
          · exact .inr (.inr (.inr h))
        have HS := Lib.hid hs1
        clear hs1 hnx hbl e32 e9 e10 e13
        rcases hor with h | h | h | h
        all_goals
          rw [h] at c0
          clear h
          go_wp2
          go_round
          case rel => exact HS.out
          case measure => simp only [intOf]; omega
    · go_wp2
      go_ret
      have he := hR.out
      rw [skip_end false s k (by omega)] at he
      exact ⟨by rw [← he]; rfl, rfl⟩
end Go.Proofs.YtfdpkmpnfalggaaDoor
