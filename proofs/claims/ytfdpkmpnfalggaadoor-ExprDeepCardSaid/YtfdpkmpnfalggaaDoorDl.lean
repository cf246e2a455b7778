/- The law ExprDeep by contract: it answers true. -/
import Derived.Test.YtfdpkmpnfalggaaDoorDe
import Derived.Test.YtfdpkmpnfalggaaDoorDf
import Derived.Test.YtfdpkmpnfalggaaDoorAv
import Derived.Deep.CutBlock
import Derived.Deep.DeepCutAuto
set_option linter.unusedVariables false
set_option linter.unusedSimpArgs false
namespace Go.Proofs.YtfdpkmpnfalggaaDoor
open Go.RowKit

theorem deep_all (n q : Nat) (hn : n ≤ 120) (hq : q ≤ 3) : deepOk n q = true := by
  match q, hq with
  | 0, _ => exact deep_0 n hn
  | 1, _ => exact deep_1 n hn
  | 2, _ => exact deep_2 n hn
  | 3, _ => exact deep_3 n hn
theorem repB_size (x : ByteArray) (n : Nat) : (repB x n).size = n * x.size := by
  induction n with
  | zero => simp [repB]; rfl
  | succ n ih => rw [repB, ByteArray.size_append, ih, Nat.succ_mul]
theorem headP_size (q : Nat) : (headP q).size ≤ 5 := by
  unfold headP
  split
  · decide
  split
  · decide
  split
  · decide
  · decide
theorem tailQ_size (q : Nat) : (tailQ q).size ≤ 4 := by
  unfold tailQ
  split
  · decide
  split
  · decide
  split
  · decide
  · decide
theorem deep_ok {n q : Nat} (hn : n ≤ 120) (hq : q ≤ 3) : ∃ l, tokensL (deepText n q).data.toList = .ok l ∧ parE (exprP l 40 0) = wantE n := by
  have h := deep_all n q hn hq
  unfold deepOk at h
  cases ht : tokensL (deepText n q).data.toList with
  | err a => rw [ht] at h; cases h
  | ok l => rw [ht] at h; exact ⟨l, rfl, of_decide_eq_true h⟩
theorem add_run (a b : ByteArray) (ha : a.size ≤ 1000) (hb : b.size ≤ 1000) (w : World) : (Op.stringOp .add a b).run Tryd.prog w = .ok (.string (a ++ b)) w := run_string_add_sum w a b (by omega)

/-- The bytes of a text in their new row. -/
theorem bytes_new (w : World) (s : ByteArray) : Lib.Bytes (Lib.bytesWorld w 5 s) w.heap.size 0 s := fun i hi => by
  have := Lib.bytesWorld_cell w 5 s i hi
  rw [Nat.zero_add, this, List.getD_eq_getElem?_getD, List.getElem?_eq_getElem (by simpa using hi)]
  rfl

theorem app_nil (s : ByteArray) : s ++ (⟨#[]⟩ : ByteArray) = s := by
  apply ByteArray.ext
  simp
set_option maxRecDepth 100000 in
set_option maxHeartbeats 4000000 in
theorem deep_main (n q : Nat) (hn : n ≤ 120) (hq : q ≤ 3) (w : World) (ht : Spaces w) : Calls Tryd.prog 5 #[.int .i64 n, .int .i64 q] w fun e w' => e = .returned (.bool true) ∧ Below w.heap.size w w' := by
  have hA := alive10_any w ht
  have d1 : decide ((n : Int) < 0) = false := decide_eq_false (by omega)
  have d2 : decide ((120 : Int) < (n : Int)) = false := decide_eq_false (by omega)
  have d3 : decide ((q : Int) < 0) = false := decide_eq_false (by omega)
  have d4 : decide ((3 : Int) < (q : Int)) = false := decide_eq_false (by omega)
  go_enter Tryd.func5, Tryd.ntmps5
  go_wp2_with (first
    | (go_at_call 14; (with_reducible refine hA.mono ?_); rintro e w1 ⟨rfl, hb1⟩))
  go_loop [6, 7, 8] (fun a t i => ∃ k : Nat, k ≤ n ∧ i = .int .i64 k ∧ a = .string (repB (headP q) k) ∧ t = .string (repB (tailQ q) k)) (fun _ _ i => n - (intOf i).toNat)
  case atStart => exact ⟨0, Nat.zero_le _, rfl, rfl, rfl⟩
  case round =>
    obtain ⟨k, hk, rfl, rfl, rfl⟩ := hrel
    by_cases hkn : k < n
    · have hh : (repB (headP q) k).size ≤ 1000 := by rw [repB_size]; have := headP_size q; have := Nat.mul_le_mul (show k ≤ 120 by omega) this; omega
      have htl : (repB (tailQ q) k).size ≤ 1000 := by rw [repB_size]; have := tailQ_size q; have := Nat.mul_le_mul (show k ≤ 120 by omega) this; omega
      have hnx : ∀ a t : Value, a = .string (repB (headP q) (k + 1)) → t = .string (repB (tailQ q) (k + 1)) → ∃ k' : Nat, k' ≤ n ∧ (Value.int .i64 ((k : Int) + 1)) = .int .i64 k' ∧ a = .string (repB (headP q) k') ∧ t = .string (repB (tailQ q) k') := fun a t h1 h2 => ⟨k + 1, by omega, by go_num, h1, h2⟩
      have hsz : ∀ l : ByteArray, l.size ≤ 1000 → l.size ≤ 1000 := fun _ h => h
      match q, hq, hh, htl, hnx with
      | 0, _, hh, htl, hnx =>
        have a1 := fun W => add_run (repB (headP 0) k) (⟨#[40]⟩ : ByteArray) hh (by decide) W
        have a2 := fun W => add_run (repB (tailQ 0) k) (⟨#[41]⟩ : ByteArray) htl (by decide) W
        have HN := Lib.hid (hnx _ _ (show Value.string (repB (headP 0) k ++ (⟨#[40]⟩ : ByteArray)) = _ from rfl) (show Value.string (repB (tailQ 0) k ++ (⟨#[41]⟩ : ByteArray)) = _ from rfl))
        clear hnx
        go_wp2_with fail
        go_round
        case rel => exact HN.out
        case measure => simp only [intOf]; omega
      | 1, _, hh, htl, hnx =>
        have a1 := fun W => add_run (repB (headP 1) k) (⟨#[110, 111, 116, 32]⟩ : ByteArray) hh (by decide) W
        have HN := Lib.hid (hnx _ (.string (repB (tailQ 1) k)) (show Value.string (repB (headP 1) k ++ (⟨#[110, 111, 116, 32]⟩ : ByteArray)) = _ from rfl) (by show Value.string (repB (tailQ 1) k) = .string (repB (tailQ 1) k ++ ⟨#[]⟩); rw [app_nil]))
        clear hnx
        go_wp2_with fail
        go_round
        case rel => exact HN.out
        case measure => simp only [intOf]; omega
      | 2, _, hh, htl, hnx =>
        have a2 := fun W => add_run (repB (tailQ 2) k) (⟨#[32, 43, 32, 49]⟩ : ByteArray) htl (by decide) W
        have HN := Lib.hid (hnx (.string (repB (headP 2) k)) _ (by show Value.string (repB (headP 2) k) = .string (repB (headP 2) k ++ ⟨#[]⟩); rw [app_nil]) (show Value.string (repB (tailQ 2) k ++ (⟨#[32, 43, 32, 49]⟩ : ByteArray)) = _ from rfl))
        clear hnx
        go_wp2_with fail
        go_round
        case rel => exact HN.out
        case measure => simp only [intOf]; omega
      | 3, _, hh, htl, hnx =>
        have a1 := fun W => add_run (repB (headP 3) k) (⟨#[40, 49, 32, 42, 32]⟩ : ByteArray) hh (by decide) W
        have a2 := fun W => add_run (repB (tailQ 3) k) (⟨#[41]⟩ : ByteArray) htl (by decide) W
        have HN := Lib.hid (hnx _ _ (show Value.string (repB (headP 3) k ++ (⟨#[40, 49, 32, 42, 32]⟩ : ByteArray)) = _ from rfl) (show Value.string (repB (tailQ 3) k ++ (⟨#[41]⟩ : ByteArray)) = _ from rfl))
        clear hnx
        go_wp2_with fail
        go_round
        case rel => exact HN.out
        case measure => simp only [intOf]; omega
    · obtain rfl : k = n := by omega
      obtain ⟨l, hl, hpe⟩ := deep_ok hn hq
      have hh : (repB (headP q) k).size ≤ 1000 := by rw [repB_size]; have := headP_size q; have := Nat.mul_le_mul hn this; omega
      have htl : (repB (tailQ q) k).size ≤ 1000 := by rw [repB_size]; have := tailQ_size q; have := Nat.mul_le_mul hn this; omega
      have hh2 : (repB (headP q) k ++ (⟨#[97]⟩ : ByteArray)).size ≤ 1000 := by rw [ByteArray.size_append, repB_size]; have := headP_size q; have := Nat.mul_le_mul hn this; have : ((⟨#[97]⟩ : ByteArray)).size = 1 := rfl; omega
      have a1 := fun W => add_run (repB (headP q) k) (⟨#[97]⟩ : ByteArray) hh (by decide) W
      have a2 := fun W => add_run (repB (headP q) k ++ (⟨#[97]⟩ : ByteArray)) (repB (tailQ q) k) hh2 htl W
      have hsz : (deepText k q).size ≤ 65536 := by
        show (repB (headP q) k ++ (⟨#[97]⟩ : ByteArray) ++ repB (tailQ q) k).size ≤ _
        rw [ByteArray.size_append]; omega
      rw [show repB (headP q) k ++ (⟨#[97]⟩ : ByteArray) ++ repB (tailQ q) k = deepText k q from rfl] at a2
      have HH := Lib.hid hh
      clear hh hh2 htl
      generalize repB (headP q) k = H at a1 a2 ⊢
      generalize repB (tailQ q) k = T at a2 ⊢
      generalize H ++ (⟨#[97]⟩ : ByteArray) = HA at a1 a2
      generalize deepText k q = s at hl hsz a2
      have hcv := Lib.run_convert_string_bytes (P := Tryd.prog) w1 9 40 5 s Tryd.underlying9 Tryd.underlying40 Tryd.underlying5
      have hBw := bytesWorld_below w1 5 s
      have hTk := rTokens_any s w1.heap.size 0 (grownCap w1 s.size 0 5) (Lib.bytesWorld w1 5 s) (bytes_new w1 s) (by rw [Lib.bytesWorld_size]; omega) (grownCap_ge _ _ _ _) hsz
      rw [hl] at hTk
      generalize grownCap w1 s.size 0 5 = cp at hcv hTk
      generalize Lib.bytesWorld w1 5 s = w2 at hcv hTk hBw
      have HBw := Lib.hid hBw
      have HPE := Lib.hid hpe
      have HL := Lib.hid hl
      clear hpe hl hBw
      by_cases h39 : 39 < k
      · have hwe : wantE k = 4 := by simp [wantE, h39]
        have dk : decide ((39 : Int) < (k : Int)) = true := decide_eq_true (by omega)
        have HWE := Lib.hid hwe
        clear hwe
        go_wp2_with (first
          | (go_at_call 15; (with_reducible refine hTk.mono ?_); intro e w3 hq; obtain ⟨hb3, hlw, hl0, A, c3, rfl, hrd⟩ := hq; have hP := eParse_any l (fun i t ht => (hlw t (List.mem_of_getElem? ht)).2.2.2.2) hl0 A c3 _ w3 hrd)
          | (go_at_call 16; (with_reducible refine hP.mono ?_); intro e w4 hq; obtain ⟨hb4, A4, c4, rfl, hE4⟩ := hq; rw [HPE.out, HWE.out])
          | (go_at_call 19; refine (num10_any _ _).mono ?_; rintro e w5 ⟨rfl, rfl⟩))
        go_ret
        exact ⟨rfl, below_alloc' (((hb1.trans' HBw.out).trans' hb3).trans' hb4) _⟩
      · have hwe : wantE k = 0 := by simp [wantE, h39]
        have dk : decide ((39 : Int) < (k : Int)) = false := decide_eq_false (by omega)
        have HWE := Lib.hid hwe
        clear hwe
        go_wp2_with (first
          | (go_at_call 15; (with_reducible refine hTk.mono ?_); intro e w3 hq; obtain ⟨hb3, hlw, hl0, A, c3, rfl, hrd⟩ := hq; have hP := eParse_any l (fun i t ht => (hlw t (List.mem_of_getElem? ht)).2.2.2.2) hl0 A c3 _ w3 hrd)
          | (go_at_call 16; (with_reducible refine hP.mono ?_); intro e w4 hq; obtain ⟨hb4, A4, c4, rfl, hE4⟩ := hq; rw [HPE.out, HWE.out])
          | (go_at_call 19; refine (num10_any _ _).mono ?_; rintro e w5 ⟨rfl, rfl⟩))
        go_ret
        exact ⟨rfl, below_alloc' (((hb1.trans' HBw.out).trans' hb3).trans' hb4) _⟩

theorem deep_out (n q : Int) (h : n < 0 ∨ 120 < n ∨ q < 0 ∨ 3 < q) (w : World) (ht : Spaces w) : Calls Tryd.prog 5 #[.int .i64 n, .int .i64 q] w fun e w' => e = .returned (.bool true) ∧ Below w.heap.size w w' := by
  have hA := alive10_any w ht
  by_cases h1 : n < 0
  · have d1 : decide (n < 0) = true := decide_eq_true h1
    go_enter Tryd.func5, Tryd.ntmps5
    go_wp2_with (go_at_call 14; (with_reducible refine hA.mono ?_); rintro e w1 ⟨rfl, hb1⟩)
    go_ret
    exact ⟨rfl, hb1⟩
  have d1 : decide (n < 0) = false := decide_eq_false h1
  by_cases h2 : 120 < n
  · have d2 : decide (120 < n) = true := decide_eq_true h2
    go_enter Tryd.func5, Tryd.ntmps5
    go_wp2_with (go_at_call 14; (with_reducible refine hA.mono ?_); rintro e w1 ⟨rfl, hb1⟩)
    go_ret
    exact ⟨rfl, hb1⟩
  have d2 : decide (120 < n) = false := decide_eq_false h2
  by_cases h3 : q < 0
  · have d3 : decide (q < 0) = true := decide_eq_true h3
    go_enter Tryd.func5, Tryd.ntmps5
    go_wp2_with (go_at_call 14; (with_reducible refine hA.mono ?_); rintro e w1 ⟨rfl, hb1⟩)
    go_ret
    exact ⟨rfl, hb1⟩
  have d3 : decide (q < 0) = false := decide_eq_false h3
  have h4 : 3 < q := by omega
  have d4 : decide (3 < q) = true := decide_eq_true h4
  go_enter Tryd.func5, Tryd.ntmps5
  go_wp2_with (go_at_call 14; (with_reducible refine hA.mono ?_); rintro e w1 ⟨rfl, hb1⟩)
  go_ret
  exact ⟨rfl, hb1⟩
/-- The law, for every two numbers. -/
theorem deep_any (n q : Int) (w : World) (ht : Spaces w) : Calls Tryd.prog 5 #[.int .i64 n, .int .i64 q] w fun e w' => e = .returned (.bool true) ∧ Below w.heap.size w w' := by
  by_cases h : n < 0 ∨ 120 < n ∨ q < 0 ∨ 3 < q
  · exact deep_out n q h w ht
  · obtain ⟨a, rfl⟩ := Int.eq_ofNat_of_zero_le (show 0 ≤ n by omega)
    obtain ⟨b, rfl⟩ := Int.eq_ofNat_of_zero_le (show 0 ≤ q by omega)
    exact deep_main a b (by omega) (by omega) w ht
end Go.Proofs.YtfdpkmpnfalggaaDoor
