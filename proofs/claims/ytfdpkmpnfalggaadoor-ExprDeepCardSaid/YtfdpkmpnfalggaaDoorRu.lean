/- The reference's token by contract. -/
import Derived.Test.YtfdpkmpnfalggaaDoorRt
import Derived.Test.YtfdpkmpnfalggaaDoorRd
import Derived.Deep.CutBlock
import Derived.Deep.DeepCutAuto
set_option linter.unusedVariables false
set_option linter.unusedSimpArgs false
namespace Go.Proofs.YtfdpkmpnfalggaaDoor
open Go.RowKit

theorem runL_cons (c : UInt8) (r : Bs) : runL (c :: r) = if goesC c then runL r + 1 else 0 := by
  unfold runL
  rw [List.takeWhile_cons]
  split <;> simp
theorem runL_le (r : Bs) : runL r ≤ r.length := by unfold runL; exact (List.takeWhile_prefix _).length_le
theorem run_go {s : ByteArray} {k : Nat} (h : k < s.size) (hg : goesB (s[k].toNat : Int) = true) : runL (fromB s k) = runL (fromB s (k + 1)) + 1 := by
  rw [fromB_cons s k h, runL_cons, if_pos (show goesC s[k] = true from hg)]
theorem run_stop {s : ByteArray} {k : Nat} (h : k < s.size) (hg : goesB (s[k].toNat : Int) = false) : runL (fromB s k) = 0 := by
  rw [fromB_cons s k h, runL_cons, if_neg (by show ¬ goesB _ = true; rw [hg]; decide)]
theorem digitC_eq (c : UInt8) : digitB (c.toNat : Int) = digitC c := by unfold digitB digitC; rw [Bool.eq_iff_iff]; simp; omega

theorem num_step {s : ByteArray} {k RUN : Nat} (n : Nat) (h : k < s.size) (hR : k < RUN) : numL n ((fromB s k).take (RUN - k)) = if digitC s[k] && decide (n ≤ (9223372036854775807 - (s[k].toNat - 48)) / 10) then numL (10 * n + (s[k].toNat - 48)) ((fromB s (k + 1)).take (RUN - (k + 1))) else none := by
  rw [fromB_cons s k h, show RUN - k = (RUN - (k + 1)) + 1 by omega, List.take_succ_cons, numL]
/-- What token answers: the token and the place behind it, or an error. -/
def RtQ (w : World) (i : Nat) (r : Option Raw) (e : Ending) (w' : World) : Prop :=
  Below w.heap.size w w' ∧ match r with
  | some x => e = .returned (.tuple #[(x.tok i).v, .int .i64 (i + x.len : Nat), .int .i64 0])
  | none => ∃ (k n a : Int) (t : ByteArray), e = .returned (.tuple #[.agg #[.int .i64 k, .int .i64 n, .int .i64 a, .string t], .int .i64 i, .int .i64 2])

theorem oneL_digit {s : ByteArray} {i : Nat} (h : i < s.size) (hd : digitC s[i] = true) :
    oneL (fromB s i) = if s[i] == 48 && decide (1 < runL (fromB s i)) then none else (numL 0 ((fromB s i).take (runL (fromB s i)))).map fun n => ⟨3, n, ByteArray.empty, runL (fromB s i)⟩ := by
  have e := fromB_cons s i h
  generalize hr : fromB s i = r at e ⊢
  subst e
  rw [oneL, if_pos hd]

theorem oneL_other {s : ByteArray} {i : Nat} (h : i < s.size) (hd : digitC s[i] = false) :
    oneL (fromB s i) = if letterB (s[i].toNat : Int) then (if isWordB (wordL (fromB s i)) then some ⟨2, 0, wordL (fromB s i), runL (fromB s i)⟩ else if runL (fromB s i) ≤ 24 then some ⟨1, 0, wordL (fromB s i), runL (fromB s i)⟩ else none) else signL (fromB s i) := by
  have e := fromB_cons s i h
  generalize hr : fromB s i = r at e ⊢
  subst e
  rw [oneL, if_neg (by rw [hd]; decide)]
theorem sign_sizes (q : Nat) (h : q < 18) : 0 < (signTexts.getD q ByteArray.empty).size ∧ (signTexts.getD q ByteArray.empty).size ≤ 2 := by
  have : ∀ q, q < 18 → 0 < (signTexts.getD q ByteArray.empty).size ∧ (signTexts.getD q ByteArray.empty).size ≤ 2 := by decide +kernel
  exact this q h
theorem tok_cells {w : World} {b : Nat} {v0 v1 v2 v3 : Value} {t : TypeId} (h : w.heap[b]? = some (.cells #[v0, v1, v2, v3] t (0, 0))) :
    (w.cell? ⟨b, 0, none⟩ = some v0 ∧ w.cell? ⟨b, 1, none⟩ = some v1 ∧ w.cell? ⟨b, 2, none⟩ = some v2 ∧ w.cell? ⟨b, 3, none⟩ = some v3) ∧ ∀ j, w.frozen? ⟨b, j, none⟩ = false :=
  ⟨⟨by simp [World.cell?, h], by simp [World.cell?, h], by simp [World.cell?, h], by simp [World.cell?, h]⟩, fun j => by simp [World.frozen?, h]⟩
theorem sign_hit {r : Bs} (q : Nat) (hq : q < 18) (h : prefixB (signTexts.getD q ByteArray.empty) r = true) (hn : ∀ j, j < q → prefixB (signTexts.getD j ByteArray.empty) r = false) :
    signTexts.find? (fun s => prefixB s r) = some (signTexts.getD q ByteArray.empty) := by
  have hl : signTexts.length = 18 := rfl
  have hg : ∀ j (hj : j < signTexts.length), signTexts.getD j ByteArray.empty = signTexts[j] := fun j hj => by rw [List.getD_eq_getElem?_getD, List.getElem?_eq_getElem hj]; rfl
  rw [List.find?_eq_some_iff_getElem]
  refine ⟨h, q, by omega, (hg q (by omega)).symm, fun j hj => ?_⟩
  rw [← hg j (by omega), hn j hj]; rfl
theorem sign_miss {r : Bs} (hn : ∀ j, j < 18 → prefixB (signTexts.getD j ByteArray.empty) r = false) : signTexts.find? (fun s => prefixB s r) = none := by
  have hl : signTexts.length = 18 := rfl
  rw [List.find?_eq_none]
  intro x hx
  obtain ⟨j, hj, rfl⟩ := List.getElem_of_mem hx
  have := hn j (by omega)
  rw [List.getD_eq_getElem?_getD, List.getElem?_eq_getElem hj] at this
  simp only [Option.getD_some] at this
  rw [this]; decide
set_option maxRecDepth 100000 in
set_option maxHeartbeats 4000000 in
theorem rtoken_any (s : ByteArray) (b o cap i : Nat) (w : World) (hc : Lib.Bytes w b o s) (hi : i < s.size) (hcap : s.size ≤ cap) (hs : s.size ≤ 1000000) :
    Calls Tryd.prog 30 #[.slice (some ⟨b, o, none⟩) s.size cap, .int .i64 i] w (RtQ w i (oneL (fromB s i))) := by
  obtain ⟨RUN, hRUN⟩ : ∃ RUN, RUN = i + runL (fromB s i) := ⟨_, rfl⟩
  have hci := hc i hi
  have hbl := World.block_lt_of_cell? w _ hci
  have hRl : RUN ≤ s.size := by have := runL_le (fromB s i); rw [fromB_length] at this; omega
  have HR := Lib.hid hRUN
  have HC := Lib.hid hc
  clear hRUN hc
  obtain ⟨R, hR⟩ : ∃ R, R = oneL (fromB s i) := ⟨_, rfl⟩
  rw [← hR]
  have HO := Lib.hid hR
  clear hR
  obtain ⟨c0, hc0⟩ : ∃ c0, c0 = s[i] := ⟨_, rfl⟩
  rw [← hc0] at hci
  have H0 := Lib.hid hc0
  clear hc0
  have hdg := fun W => rdigit_any (c0.toNat : Int) W
  have hlt := fun W => rletter_any (c0.toNat : Int) W
  go_enter Tryd.func30, Tryd.ntmps30
  go_upto_block 0 with (fail)
  go_cut [8] (fun t wx => t = .int .i64 RUN ∧ wx = w.alloc (.cells #[.int .i64 0, .int .i64 0, .int .i64 0, .string ⟨#[]⟩] 63))
  case first =>
    go_wp2_with fail
    go_loop [8] (fun t => ∃ k : Nat, i ≤ k ∧ k ≤ s.size ∧ t = .int .i64 k ∧ Hid (k + runL (fromB s k) = RUN)) (fun t => s.size - (intOf t).toNat)
    case atStart => exact ⟨i, Nat.le_refl _, by omega, rfl, HR.out.symm⟩
    case round =>
      obtain ⟨k, hk1, hk2, rfl, hK⟩ := hrel
      by_cases hkl : k < s.size
      · have ck := HC.out k hkl
        have hbk := World.block_lt_of_cell? w _ ck
        have hlk := fun W => rletter_any (s[k].toNat : Int) W
        cases hg : goesB (s[k].toNat : Int)
        · have HS := Lib.hid (run_stop hkl hg)
          rw [hg] at hlk
          clear hg
          go_wp2_with (go_at_call 58; refine (hlk _).mono ?_; rintro e w' ⟨rfl, rfl⟩)
          go_meet
          case rel => exact ⟨by have h1 := hK.out; rw [HS.out] at h1; rw [← h1]; rfl, rfl⟩
        · have HS := Lib.hid (run_go hkl hg)
          rw [hg] at hlk
          clear hg
          go_wp2_with (go_at_call 58; refine (hlk _).mono ?_; rintro e w' ⟨rfl, rfl⟩)
          go_round
          case rel => exact ⟨k + 1, by omega, by omega, by go_num, by have h1 := hK.out; have h2 := HS.out; show _ = _; omega⟩
          case measure => simp only [intOf]; omega
      · go_wp2
        go_meet
        case rel => exact ⟨by have h1 := hK.out; rw [fromB_nil s k (by omega)] at h1; rw [← h1]; rfl, rfl⟩
  case rest =>
    obtain ⟨rfl, rfl⟩ := hcut
    have hdc := digitC_eq c0
    cases hd : digitC c0
    · rw [hd] at hdc
      rw [hdc] at hdg
      have hgo : goesB (c0.toNat : Int) = (letterB (c0.toNat : Int) || (c0 == 95)) := by
        have h95 : decide ((c0.toNat : Int) = 95) = (c0 == 95) := by rw [show (c0 == 95) = ((c0.toNat : Int) == ((95 : Nat) : Int)) from (u8_eq (c := c0) (n := 95) (by decide)).symm, Bool.eq_iff_iff]; simp
        have hdc' : (decide (48 ≤ (c0.toNat : Int)) && decide ((c0.toNat : Int) ≤ 57)) = false := hdc
        unfold goesB
        rw [hdc', h95, Bool.or_false]
      have e95 : ((c0.toNat : Int) != 95) = (c0 != 95) := by
        show (!((c0.toNat : Int) == ((95 : Nat) : Int))) = !(c0 == 95)
        rw [u8_eq (by decide)]; rfl
      have HD := Lib.hid hd
      have hR2 := Lib.hid (oneL_other hi (by rw [← H0.out]; exact hd))
      clear hd
      cases hl : letterB (c0.toNat : Int)
      · have hRs : R = signL (fromB s i) := by
          have h := hR2.out
          rw [← H0.out, hl, if_neg (by decide)] at h
          rw [HO.out, h]
        have HRs := Lib.hid hRs
        clear hRs
        rw [hl, Bool.false_or] at hgo
        have HL := Lib.hid hl
        clear hl
        rw [hgo] at hlt
        cases h95 : (c0 == 95)
        all_goals
          rw [h95] at hlt
          have e95' : ((c0.toNat : Int) != 95) = !(c0 == 95) := e95
          rw [h95] at e95'
          have H95 := Lib.hid h95
          clear h95 e95
          go_wp2_with (first
            | (go_at_call 59; refine (hdg _).mono ?_; rintro e w' ⟨rfl, rfl⟩)
            | (go_at_call 58; refine (hlt _).mono ?_; rintro e w' ⟨rfl, rfl⟩)
            | (go_at_call 61; refine (rsigns_any _).mono ?_; rintro e w' ⟨rfl, rfl⟩))
          have hBW : Below w.heap.size w (((w.alloc (.cells #[.int .i64 0, .int .i64 0, .int .i64 0, .string ⟨#[]⟩] 63)).alloc (.cells #[.int .i64 0, .int .i64 0, .int .i64 i, .string ⟨#[]⟩] 63)).alloc (.cells (signTexts.map Value.string).toArray 9)) := below_alloc' (below_alloc' (below_alloc' (Below.refl _ _) _) _) _
          have hBg : ∀ x : ByteArray, 0 < x.size → x.size ≤ 1000000 → _ := fun x h1 h2 => rbegins_any s x b o cap i _ (fun q hq => (hBW.cell (p := ⟨b, o + q, none⟩) hbl).trans (HC.out q hq)) (by omega) h1 hcap hs h2
          have hSg : ∀ q, q < 18 → (((w.alloc (.cells #[.int .i64 0, .int .i64 0, .int .i64 0, .string ⟨#[]⟩] 63)).alloc (.cells #[.int .i64 0, .int .i64 0, .int .i64 i, .string ⟨#[]⟩] 63)).alloc (.cells (signTexts.map Value.string).toArray 9)).cell? ⟨w.heap.size + 1 + 1, q, none⟩ = some (.string (signTexts.getD q ByteArray.empty)) := fun q hq => by
            have := strs_new ((w.alloc (.cells #[.int .i64 0, .int .i64 0, .int .i64 0, .string ⟨#[]⟩] 63)).alloc (.cells #[.int .i64 0, .int .i64 0, .int .i64 i, .string ⟨#[]⟩] 63)) signTexts 9 q hq
            rw [Nat.zero_add] at this
            simpa using this
          have HSG := Lib.hid hSg
          have HBW := Lib.hid hBW
          clear hSg hBW
          generalize hcs : (signTexts.map Value.string).toArray = cs at HSG HBW hBg ⊢
          have HCS := Lib.hid hcs
          clear hcs
          go_loop [13] (fun t => ∃ q : Nat, q ≤ 18 ∧ t = .int .i64 q ∧ ∀ j, j < q → prefixB (signTexts.getD j ByteArray.empty) (fromB s i) = false) (fun t => 18 - (intOf t).toNat)
          case atStart => exact ⟨0, Nat.zero_le _, rfl, fun j hj => absurd hj (Nat.not_lt_zero j)⟩
          case round =>
            obtain ⟨q, hq, rfl, hall⟩ := hrel
            by_cases hq18 : q < 18
            · obtain ⟨x, hx⟩ : ∃ x, x = signTexts.getD q ByteArray.empty := ⟨_, rfl⟩
              have hsg := HSG.out q hq18
              rw [← hx] at hsg
              obtain ⟨z1, z2⟩ := sign_sizes q hq18
              rw [← hx] at z1 z2
              have hBx := hBg x z1 (by omega)
              have HX := Lib.hid hx
              have HAL := Lib.hid hall
              clear hx hall hBg
              cases hp : prefixB x (fromB s i)
              · rw [hp] at hBx
                have HP := Lib.hid hp
                clear hp
                go_wp2_with (go_at_call 57; refine hBx.mono ?_; rintro e w' ⟨rfl, rfl⟩)
                go_round
                case rel => exact ⟨q + 1, by omega, by go_num, fun j hj => if e : j = q then by subst e; rw [← HX.out]; exact HP.out else HAL.out j (by omega)⟩
                case measure => simp only [intOf]; omega
              · rw [hp] at hBx
                have HP := Lib.hid hp
                clear hp
                go_wp2_with (go_at_call 57; refine hBx.mono ?_; rintro e w' ⟨rfl, rfl⟩)
                have y1 : (((w.alloc (.cells #[.int .i64 0, .int .i64 0, .int .i64 0, .string ⟨#[]⟩] 63)).alloc (.cells #[.int .i64 0, .int .i64 0, .int .i64 i, .string ⟨#[]⟩] 63)).alloc (.cells cs 9)).heap[w.heap.size]? = some (.cells #[.int .i64 0, .int .i64 0, .int .i64 0, .string ⟨#[]⟩] 63 (0, 0)) := by
                  rw [Below.heap_alloc _ _ _ (by simp; omega), Below.heap_alloc _ _ _ (by simp)]; exact heap_alloc_new _ _
                have y2 : (((w.alloc (.cells #[.int .i64 0, .int .i64 0, .int .i64 0, .string ⟨#[]⟩] 63)).alloc (.cells #[.int .i64 0, .int .i64 0, .int .i64 i, .string ⟨#[]⟩] 63)).alloc (.cells cs 9)).heap[w.heap.size + 1]? = some (.cells #[.int .i64 0, .int .i64 0, .int .i64 i, .string ⟨#[]⟩] 63 (0, 0)) := by
                  rw [Below.heap_alloc _ _ _ (by simp)]
                  have := heap_alloc_new (w.alloc (.cells #[.int .i64 0, .int .i64 0, .int .i64 0, .string ⟨#[]⟩] 63)) (.cells #[.int .i64 0, .int .i64 0, .int .i64 i, .string ⟨#[]⟩] 63)
                  simpa using this
                have hBW := HBW.out
                clear hBx
                generalize (((w.alloc (.cells #[.int .i64 0, .int .i64 0, .int .i64 0, .string ⟨#[]⟩] 63)).alloc (.cells #[.int .i64 0, .int .i64 0, .int .i64 i, .string ⟨#[]⟩] 63)).alloc (.cells cs 9)) = wz at hsg y1 y2 hBW ⊢
                obtain ⟨⟨a0, a1, a2, a3⟩, af⟩ := tok_cells y1
                obtain ⟨⟨t0, t1, t2, t3⟩, tf⟩ := tok_cells y2
                have HB := Lib.hid hBW
                clear hBW y1 y2
                have hwi : IntKind.i64.wrap ((i : Int) + (x.size : Int)) = (i : Int) + (x.size : Int) := IntWalk.i64_in _ (by omega)
                go_region
                go_wp2
                go_region
                go_wp2
                have hRv : R = some ⟨4, 0, x, x.size⟩ := by
                  rw [HRs.out, signL, sign_hit q hq18 (by rw [← HX.out]; exact HP.out) HAL.out, ← HX.out]; rfl
                rw [hRv]
                exact bodyPost_ret (v := .tuple #[.agg #[.int .i64 4, .int .i64 0, .int .i64 i, .string x], .int .i64 ((i : Int) + (x.size : Int)), .int .i64 0]) (by simp [results, Tryd.results30, go_sem, a0, a1, a2, a3, af]) rfl
                  ⟨below_drew' (below_drew' (below_set' (below_set' (below_set' (below_set' (below_set' (below_set' HB.out (Nat.le_succ _)) (Nat.le_succ _)) (Nat.le_refl _)) (Nat.le_refl _)) (Nat.le_refl _)) (Nat.le_refl _))), rfl⟩
            · obtain rfl : q = 18 := by omega
              have HRn : Hid (R = none) := by
                show _ = _
                rw [HRs.out, signL, sign_miss hall]; rfl
              clear hBg hall
              go_wp2
              rw [HRn.out]
              exact bodyPost_ret (v := .tuple #[.agg #[.int .i64 0, .int .i64 0, .int .i64 i, .string ⟨#[]⟩], .int .i64 i, .int .i64 2]) (by simp [results, Tryd.results30, go_sem]) rfl ⟨by with_reducible repeat (first | exact Below.refl _ _ | apply below_alloc'), 0, 0, i, ⟨#[]⟩, rfl⟩
      · have hgt : goesB (c0.toNat : Int) = true := by rw [hgo, hl]; rfl
        rw [hgt] at hlt
        have hn95 : (c0 != 95) = true := by
          cases h : (c0 != 95) with
          | true => rfl
          | false =>
            have : c0 = 95 := by simpa using h
            rw [this] at hl
            exact absurd hl (by decide)
        rw [hn95] at e95
        have hRr : i < RUN := by have h1 := HR.out; have h2 := run_go hi (by rw [← H0.out]; exact hgt); omega
        have hRv : R = if isWordB (wordL (fromB s i)) then some ⟨2, 0, wordL (fromB s i), RUN - i⟩ else if RUN - i ≤ 24 then some ⟨1, 0, wordL (fromB s i), RUN - i⟩ else none := by
          have h := hR2.out
          rw [← H0.out, hl, if_pos rfl, show runL (fromB s i) = RUN - i by have := HR.out; omega] at h
          rw [HO.out, h]
        have hy : wordL (fromB s i) = s.extract i RUN := by
          apply ByteArray.ext
          apply Array.toList_inj.1
          rw [Lib.extract_data, wordL, show runL (fromB s i) = RUN - i by have := HR.out; omega]; rfl
        have hBW : Below w.heap.size w ((w.alloc (.cells #[.int .i64 0, .int .i64 0, .int .i64 0, .string ⟨#[]⟩] 63)).alloc (.cells #[.int .i64 0, .int .i64 0, .int .i64 i, .string ⟨#[]⟩] 63)) := below_alloc' (below_alloc' (Below.refl _ _) _) _
        have hsl := fun W => Lib.run_slice_window (P := Tryd.prog) W 40 5 Tryd.underlying40 (fun _ => by kernel_rfl) b o s.size cap i RUN hRr (by omega)
        have hcv := Lib.run_convert_window (P := Tryd.prog) ((w.alloc (.cells #[.int .i64 0, .int .i64 0, .int .i64 0, .string ⟨#[]⟩] 63)).alloc (.cells #[.int .i64 0, .int .i64 0, .int .i64 i, .string ⟨#[]⟩] 63)) 40 5 9 Tryd.underlying40 Tryd.underlying5 Tryd.underlying9 b o s (fun q hq => (hBW.cell (p := ⟨b, o + q, none⟩) hbl).trans (HC.out q hq)) i (RUN - i) (cap - i) (by omega)
        rw [show i + (RUN - i) = RUN by omega] at hcv
        have hys : (s.extract i RUN).size = RUN - i := by rw [ByteArray.size_extract]; omega
        rw [hy] at hRv
        generalize s.extract i RUN = y at hcv hys hRv
        have HRv := Lib.hid hRv
        have hd24 : decide ((24 : Int) < (y.size : Int)) = decide (24 < RUN - i) := by rw [hys, Bool.eq_iff_iff, decide_eq_true_eq, decide_eq_true_eq]; omega
        have HYS := Lib.hid hys
        clear hRv hys hy hl hgo hgt hn95
        have hwd := fun W => rword_is y W
        cases hiw : isWordB y
        · cases h24 : decide (24 < RUN - i)
          · rw [hiw] at hwd
            rw [h24] at hd24
            have H24 := Lib.hid h24
            have HW := Lib.hid hiw
            clear h24 hiw
            go_wp2_with (first
              | (go_at_call 59; refine (hdg _).mono ?_; rintro e w' ⟨rfl, rfl⟩)
              | (go_at_call 58; refine (hlt _).mono ?_; rintro e w' ⟨rfl, rfl⟩)
              | (go_at_call 60; refine (hwd _).mono ?_; rintro e w3 ⟨rfl, hb⟩; obtain ⟨q1, q2⟩ := bcell hb; have hsz : w.heap.size + 1 < w3.heap.size := (by have := hb.size; simp at this; omega); have k0 : w3.cell? ⟨w.heap.size, 0, none⟩ = some (.int .i64 0) := (by rw [q1 _ _ (by simp; omega)]; simp [go_sem]); have k1 : w3.cell? ⟨w.heap.size, 1, none⟩ = some (.int .i64 0) := (by rw [q1 _ _ (by simp; omega)]; simp [go_sem]); have k2 : w3.cell? ⟨w.heap.size, 2, none⟩ = some (.int .i64 0) := (by rw [q1 _ _ (by simp; omega)]; simp [go_sem]); have k3 : w3.cell? ⟨w.heap.size, 3, none⟩ = some (.string ⟨#[]⟩) := (by rw [q1 _ _ (by simp; omega)]; simp [go_sem])))
            have hRf : R = some ⟨1, 0, y, RUN - i⟩ := by
              have h := HRv.out
              rw [HW.out, if_neg (by decide), if_pos (by simpa using H24.out)] at h
              exact h
            rw [hRf]
            exact bodyPost_ret (v := .tuple #[.agg #[.int .i64 1, .int .i64 0, .int .i64 i, .string y], .int .i64 RUN, .int .i64 0]) (by simp [results, Tryd.results30, go_sem, k0, k1, k2, k3, hsz]) rfl
              ⟨by have hb1 := (below_alloc' (below_alloc' (Below.refl w.heap.size w) _) _).trans' hb; with_reducible repeat (first | exact hb1 | refine below_set' ?_ (Nat.le_refl _) | refine below_set' ?_ (Nat.le_succ _)), by show _ = Ending.returned (.tuple #[_, .int .i64 ((i + (RUN - i) : Nat) : Int), _]); rw [show i + (RUN - i) = RUN by omega]; rfl⟩
          · rw [hiw] at hwd
            rw [h24] at hd24
            have H24 := Lib.hid h24
            have HW := Lib.hid hiw
            clear h24 hiw
            go_wp2_with (first
              | (go_at_call 59; refine (hdg _).mono ?_; rintro e w' ⟨rfl, rfl⟩)
              | (go_at_call 58; refine (hlt _).mono ?_; rintro e w' ⟨rfl, rfl⟩)
              | (go_at_call 60; refine (hwd _).mono ?_; rintro e w3 ⟨rfl, hb⟩; obtain ⟨q1, q2⟩ := bcell hb; have hsz : w.heap.size + 1 < w3.heap.size := (by have := hb.size; simp at this; omega); have k0 : w3.cell? ⟨w.heap.size, 0, none⟩ = some (.int .i64 0) := (by rw [q1 _ _ (by simp; omega)]; simp [go_sem]); have k1 : w3.cell? ⟨w.heap.size, 1, none⟩ = some (.int .i64 0) := (by rw [q1 _ _ (by simp; omega)]; simp [go_sem]); have k2 : w3.cell? ⟨w.heap.size, 2, none⟩ = some (.int .i64 0) := (by rw [q1 _ _ (by simp; omega)]; simp [go_sem]); have k3 : w3.cell? ⟨w.heap.size, 3, none⟩ = some (.string ⟨#[]⟩) := (by rw [q1 _ _ (by simp; omega)]; simp [go_sem])))
            have hRf : R = none := by
              have h := HRv.out
              rw [HW.out, if_neg (by decide), if_neg (by have := of_decide_eq_true H24.out; omega)] at h
              exact h
            rw [hRf]
            exact bodyPost_ret (v := .tuple #[.agg #[.int .i64 1, .int .i64 0, .int .i64 i, .string y], .int .i64 i, .int .i64 2]) (by simp [results, Tryd.results30, go_sem, k0, k1, k2, k3, hsz]) rfl
              ⟨by have hb1 := (below_alloc' (below_alloc' (Below.refl w.heap.size w) _) _).trans' hb; with_reducible repeat (first | exact hb1 | refine below_set' ?_ (Nat.le_refl _) | refine below_set' ?_ (Nat.le_succ _)), 1, 0, i, y, rfl⟩
        · rw [hiw] at hwd
          have HW := Lib.hid hiw
          clear hiw
          go_wp2_with (first
            | (go_at_call 59; refine (hdg _).mono ?_; rintro e w' ⟨rfl, rfl⟩)
            | (go_at_call 58; refine (hlt _).mono ?_; rintro e w' ⟨rfl, rfl⟩)
            | (go_at_call 60; refine (hwd _).mono ?_; rintro e w3 ⟨rfl, hb⟩; obtain ⟨q1, q2⟩ := bcell hb; have hsz : w.heap.size + 1 < w3.heap.size := (by have := hb.size; simp at this; omega); have k0 : w3.cell? ⟨w.heap.size, 0, none⟩ = some (.int .i64 0) := (by rw [q1 _ _ (by simp; omega)]; simp [go_sem]); have k1 : w3.cell? ⟨w.heap.size, 1, none⟩ = some (.int .i64 0) := (by rw [q1 _ _ (by simp; omega)]; simp [go_sem]); have k2 : w3.cell? ⟨w.heap.size, 2, none⟩ = some (.int .i64 0) := (by rw [q1 _ _ (by simp; omega)]; simp [go_sem]); have k3 : w3.cell? ⟨w.heap.size, 3, none⟩ = some (.string ⟨#[]⟩) := (by rw [q1 _ _ (by simp; omega)]; simp [go_sem])))
          have hRf : R = some ⟨2, 0, y, RUN - i⟩ := by
            have h := HRv.out
            rw [HW.out, if_pos rfl] at h
            exact h
          rw [hRf]
          exact bodyPost_ret (v := .tuple #[.agg #[.int .i64 2, .int .i64 0, .int .i64 i, .string y], .int .i64 RUN, .int .i64 0]) (by simp [results, Tryd.results30, go_sem, k0, k1, k2, k3, hsz]) rfl
            ⟨by have hb1 := (below_alloc' (below_alloc' (Below.refl w.heap.size w) _) _).trans' hb; with_reducible repeat (first | exact hb1 | refine below_set' ?_ (Nat.le_refl _) | refine below_set' ?_ (Nat.le_succ _)), by show _ = Ending.returned (.tuple #[_, .int .i64 ((i + (RUN - i) : Nat) : Int), _]); rw [show i + (RUN - i) = RUN by omega]; rfl⟩
    · rw [hd] at hdc
      rw [hdc] at hdg
      obtain ⟨NUM, hNUM⟩ : ∃ NUM, NUM = numL 0 ((fromB s i).take (RUN - i)) := ⟨_, rfl⟩
      have HN := Lib.hid hNUM
      clear hNUM
      go_wp2_with (go_at_call 59; refine (hdg _).mono ?_; rintro e w' ⟨rfl, rfl⟩)
      go_loop [10, 11] (fun a t => ∃ (k n : Nat), i ≤ k ∧ k ≤ RUN ∧ n ≤ 9223372036854775807 ∧ t = .int .i64 k ∧ a = .int .i64 n ∧ Hid (numL n ((fromB s k).take (RUN - k)) = NUM)) (fun _ t => RUN - (intOf t).toNat)
      case atStart => exact ⟨i, 0, Nat.le_refl _, by have := HR.out; omega, by decide, rfl, rfl, HN.out.symm⟩
      case round =>
        obtain ⟨k, n, hk1, hk2, hn, rfl, rfl, hK⟩ := hrel
        by_cases hkl : k < RUN
        · have hks : k < s.size := by omega
          have ck := HC.out k hks
          have hbk := World.block_lt_of_cell? w _ ck
          have hst := Lib.hid (num_step n hks hkl)
          have hdk := fun W => rdigit_any (s[k].toNat : Int) W
          rw [digitC_eq] at hdk
          cases hdg2 : digitC s[k]
          · rw [hdg2] at hdk
            have hRn : R = none := by
              have h1 := hK.out
              rw [hst.out, hdg2, Bool.false_and, if_neg (by decide)] at h1
              rw [HO.out, oneL_digit hi (by rw [← H0.out]; exact hd), show runL (fromB s i) = RUN - i by have := HR.out; omega, ← HN.out, ← h1]
              split <;> rfl
            have HRn := Lib.hid hRn
            clear hRn hdg2
            go_wp2_with (go_at_call 59; refine (hdk _).mono ?_; rintro e w' ⟨rfl, rfl⟩)
            rw [HRn.out]
            exact bodyPost_ret (v := .tuple #[.agg #[.int .i64 0, .int .i64 0, .int .i64 i, .string ⟨#[]⟩], .int .i64 i, .int .i64 2]) (by simp [results, Tryd.results30, go_sem]) rfl ⟨by with_reducible repeat (first | exact Below.refl _ _ | apply below_alloc'), 0, 0, i, ⟨#[]⟩, rfl⟩
          · rw [hdg2] at hdk
            have h48 : 48 ≤ s[k].toNat ∧ s[k].toNat ≤ 57 := by simpa [digitC] using hdg2
            obtain ⟨h48, h57⟩ := h48
            by_cases hov : n ≤ (9223372036854775807 - (s[k].toNat - 48)) / 10
            · have hnx : numL (10 * n + (s[k].toNat - 48)) ((fromB s (k + 1)).take (RUN - (k + 1))) = NUM := by
                have h1 := hK.out
                rw [hst.out, hdg2, Bool.true_and, if_pos (decide_eq_true hov)] at h1
                exact h1
              have HX := Lib.hid hnx
              have hq : (n : Int) ≤ (9223372036854775807 - ((s[k].toNat : Int) - 48)) / 10 := by omega
              clear hnx hdg2
              have HV := Lib.hid hov
              clear hov
              go_wp2_with (go_at_call 59; refine (hdk _).mono ?_; rintro e w' ⟨rfl, rfl⟩)
              go_round
              case rel => exact ⟨k + 1, 10 * n + (s[k].toNat - 48), by omega, by omega, by have := HV.out; omega, by go_num, by go_num, HX.out⟩
              case measure => simp only [intOf]; omega
            · have hRn : R = none := by
                have h1 := hK.out
                rw [hst.out, hdg2, Bool.true_and, if_neg (by simpa using hov)] at h1
                rw [HO.out, oneL_digit hi (by rw [← H0.out]; exact hd), show runL (fromB s i) = RUN - i by have := HR.out; omega, ← HN.out, ← h1]
                split <;> rfl
              have HRn := Lib.hid hRn
              have hq : (9223372036854775807 - ((s[k].toNat : Int) - 48)) / 10 < (n : Int) := by omega
              clear hRn hdg2 hov
              go_wp2_with (go_at_call 59; refine (hdk _).mono ?_; rintro e w' ⟨rfl, rfl⟩)
              rw [HRn.out]
              exact bodyPost_ret (v := .tuple #[.agg #[.int .i64 0, .int .i64 0, .int .i64 i, .string ⟨#[]⟩], .int .i64 i, .int .i64 2]) (by simp [results, Tryd.results30, go_sem]) rfl ⟨by with_reducible repeat (first | exact Below.refl _ _ | apply below_alloc'), 0, 0, i, ⟨#[]⟩, rfl⟩
        · obtain rfl : k = RUN := by omega
          have hnum : NUM = some n := by
            have h1 := hK.out
            rw [Nat.sub_self, List.take_zero, numL] at h1
            exact h1.symm
          have HM := Lib.hid hnum
          clear hnum
          have hRv : R = if c0 == 48 && decide (1 < k - i) then none else some ⟨3, n, ByteArray.empty, k - i⟩ := by
            rw [HO.out, oneL_digit hi (by rw [← H0.out]; exact hd), show runL (fromB s i) = k - i by have := HR.out; omega, ← HN.out, HM.out, ← H0.out]; rfl
          have HRv := Lib.hid hRv
          have e48 : ((c0.toNat : Int) == 48) = (c0 == 48) := u8_eq (c := c0) (n := 48) (by decide)
          have hki : i ≤ k := hk1
          clear hRv
          cases h48 : (c0 == 48)
          · rw [h48] at e48
            have HE := Lib.hid h48
            clear h48
            go_wp2
            have hR1 : R = some ⟨3, n, ByteArray.empty, k - i⟩ := by
              have h := HRv.out
              first
              | (rw [HE.out, Bool.false_and, if_neg (by decide)] at h; exact h)
              | (rw [HE.out, Bool.true_and, if_neg (by simpa using HD1.out)] at h; exact h)
            rw [hR1]
            exact bodyPost_ret (v := .tuple #[.agg #[.int .i64 3, .int .i64 n, .int .i64 i, .string ⟨#[]⟩], .int .i64 k, .int .i64 0]) (by simp [results, Tryd.results30, go_sem]) rfl ⟨by with_reducible repeat (first | exact Below.refl _ _ | apply below_alloc'), by show _ = Ending.returned (.tuple #[_, .int .i64 ((i + (k - i) : Nat) : Int), _]); rw [show i + (k - i) = k by omega]; rfl⟩
          · rw [h48] at e48
            have HE := Lib.hid h48
            clear h48
            by_cases h1 : 1 < k - i
            · have d1 : decide ((1 : Int) < (k : Int) - (i : Int)) = true := decide_eq_true (by omega)
              have HD1 := Lib.hid h1
              clear h1
              have HRn : Hid (R = none) := by have h := HRv.out; rw [HE.out, Bool.true_and, if_pos (decide_eq_true HD1.out)] at h; exact h
              go_wp2
              rw [HRn.out]
              exact bodyPost_ret (v := .tuple #[.agg #[.int .i64 0, .int .i64 0, .int .i64 i, .string ⟨#[]⟩], .int .i64 i, .int .i64 2]) (by simp [results, Tryd.results30, go_sem]) rfl ⟨by with_reducible repeat (first | exact Below.refl _ _ | apply below_alloc'), 0, 0, i, ⟨#[]⟩, rfl⟩
            · have d1 : decide ((1 : Int) < (k : Int) - (i : Int)) = false := decide_eq_false (by omega)
              have HD1 := Lib.hid h1
              clear h1
              go_wp2
              have hR1 : R = some ⟨3, n, ByteArray.empty, k - i⟩ := by
                have h := HRv.out
                first
                | (rw [HE.out, Bool.false_and, if_neg (by decide)] at h; exact h)
                | (rw [HE.out, Bool.true_and, if_neg (by simpa using HD1.out)] at h; exact h)
              rw [hR1]
              exact bodyPost_ret (v := .tuple #[.agg #[.int .i64 3, .int .i64 n, .int .i64 i, .string ⟨#[]⟩], .int .i64 k, .int .i64 0]) (by simp [results, Tryd.results30, go_sem]) rfl ⟨by with_reducible repeat (first | exact Below.refl _ _ | apply below_alloc'), by show _ = Ending.returned (.tuple #[_, .int .i64 ((i + (k - i) : Nat) : Int), _]); rw [show i + (k - i) = k by omega]; rfl⟩
end Go.Proofs.YtfdpkmpnfalggaaDoor
