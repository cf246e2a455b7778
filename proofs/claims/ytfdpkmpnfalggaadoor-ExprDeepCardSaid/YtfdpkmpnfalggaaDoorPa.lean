/- expr.Parse by contract: from place 0 on it answers what the plain parser answers. -/
import Derived.Test.YtfdpkmpnfalggaaDoorSg
import Derived.Defers
import Derived.Recover
set_option linter.unusedVariables false
set_option linter.unusedSimpArgs false
namespace Go.Proofs.YtfdpkmpnfalggaaDoor
open Go.RowKit

theorem drew_heap (w : World) : w.drew.heap = w.heap := rfl
/-- What Expr answers. -/
def ExQ (P : Rp) (w : World) (r : PR Expr) (e : Ending) (w' : World) : Prop :=
  match r with
  | .err x j => e = .panicked [{ v := stopV x j, recovered := false }] ∧ Kb P.rb w w'
  | .ok y j => ∃ A c, e = .returned (.agg #[.int .i64 y.kind, .int .i64 y.n, .string y.name, .slice A y.kids.length c]) ∧ RdE (fun b => w.heap.size ≤ b) w' y A c ∧ Stp P w w' j

set_option maxRecDepth 100000 in
theorem eExpr_any (P : Rp) (w : World) (i : Nat) (h : Rin P w i) : Calls Tryd.prog 33 #[.pointer (some ⟨P.rb, 0, none⟩)] w (ExQ P w (exprP P.L 40 i)) := by
  have hL : ∀ (W : World), Rin P W i → Calls Tryd.prog 62 #[.pointer (some ⟨P.rb, 0, none⟩), .int .i64 0, .int .i64 0] W (SubQ P W (exprP P.L 40 i)) := fun W hW =>
    elevel_any P 40 (by omega) (esingle_any P 40 (by omega)) 5 0 rfl W i hW
  have hfd : ∀ (w : World) (a b : Int) (s : ByteArray) (A : Option Addr) (n c : Nat) (d : Int), (Instr.field 110 (.agg #[.int .i64 a, .int .i64 b, .string s, .slice A n c, .int .i64 d]) 0).run Tryd.prog w = .ok (.agg #[.int .i64 a, .int .i64 b, .string s, .slice A n c]) w := fun _ _ _ _ _ _ _ _ => by kernel_rfl
  have hrb := h.lt
  have hz4 : (w.alloc (.cells #[.int .i64 0, .int .i64 0, .string ⟨#[]⟩, .slice none 0 0] 24)).heap[w.heap.size]? = some (.cells #[.int .i64 0, .int .i64 0, .string ⟨#[]⟩, .slice none 0 0] 24 (0, 0)) := heap_alloc_new _ _
  have hs := Stp.of_below h (below_alloc' (Below.refl _ _) (.cells #[.int .i64 0, .int .i64 0, .string ⟨#[]⟩, .slice none 0 0] 24))
  generalize exprP P.L 40 i = r at hL ⊢
  cases r with
  | err x j =>
    go_enter Tryd.func33, Tryd.ntmps33
    go_wp2_with (go_at_call 62; (with_reducible refine (hL _ hs.rin).mono ?_); intro e w3 hq; obtain ⟨rfl, hk⟩ := hq)
    exact ⟨rfl, rfl, hs.kb.trans hk⟩
  | ok y j =>
    have HZ := Lib.hid hz4
    clear hz4
    go_enter Tryd.func33, Tryd.ntmps33
    go_wp2_with (go_at_call 62; (with_reducible refine (hL _ hs.rin).mono ?_); intro e w3 hq; obtain ⟨A3, c3, rfl, hE3, hk⟩ := hq; unfold rdVal; have h4 := (hk.kb.block _ (by simp) (by omega)).trans HZ.out; have p0 : w3.cell? ⟨w.heap.size, 0, none⟩ = some (.int .i64 0) := (by simp [World.cell?, h4]); have p1 : w3.cell? ⟨w.heap.size, 1, none⟩ = some (.int .i64 0) := (by simp [World.cell?, h4]); have p2 : w3.cell? ⟨w.heap.size, 2, none⟩ = some (.string ⟨#[]⟩) := (by simp [World.cell?, h4]); have p3 : w3.cell? ⟨w.heap.size, 3, none⟩ = some (.slice none 0 0) := (by simp [World.cell?, h4]); have pf : ∀ j, w3.frozen? ⟨w.heap.size, j, none⟩ = false := fun j => (by simp [World.frozen?, h4]); clear h4)
    have hs3 := hs.trans hk
    have hz : ∀ b, b ≠ w.heap.size → ((((w3.setCell ⟨w.heap.size, 0, none⟩ (.int .i64 y.kind)).setCell ⟨w.heap.size, 1, none⟩ (.int .i64 y.n)).setCell ⟨w.heap.size, 2, none⟩ (.string y.name)).setCell ⟨w.heap.size, 3, none⟩ (.slice A3 y.kids.length c3)).heap[b]? = w3.heap[b]? := fun b hb => by
      rw [Below.heap_setCell _ _ _ _ hb, Below.heap_setCell _ _ _ _ hb, Below.heap_setCell _ _ _ _ hb, Below.heap_setCell _ _ _ _ hb]
    have hF : ExQ P w (.ok y j) (.returned (.agg #[.int .i64 y.kind, .int .i64 y.n, .string y.name, .slice A3 y.kids.length c3])) ((((w3.setCell ⟨w.heap.size, 0, none⟩ (.int .i64 y.kind)).setCell ⟨w.heap.size, 1, none⟩ (.int .i64 y.n)).setCell ⟨w.heap.size, 2, none⟩ (.string y.name)).setCell ⟨w.heap.size, 3, none⟩ (.slice A3 y.kids.length c3)) :=
      ⟨A3, c3, rfl, (hE3.move fun b hb _ => hz b (by simp at hb; omega)).mono (fun b hb => by simp at hb; omega), Stp.fin h ((((hs3.kb.setNew (Nat.le_refl _)).setNew (Nat.le_refl _)).setNew (Nat.le_refl _)).setNew (Nat.le_refl _)) ((hz _ (by omega)).trans hs3.rin.blk) hs3.rin.le⟩
    clear hz
    exact bodyPost_ret (v := .agg #[.int .i64 y.kind, .int .i64 y.n, .string y.name, .slice A3 y.kids.length c3]) (by simp [results, Tryd.results33, go_sem, p0, p1, p2, p3, pf]) rfl hF

set_option maxRecDepth 100000 in
theorem Caught_any (x : Int) (j : Nat) (w : World) : Calls Tryd.prog 32 #[stopV x j] w fun e w' => e = .returned (.tuple #[.int .i64 j, .int .i64 x]) ∧ Below w.heap.size w w' := by
  unfold stopV
  have hta : ∀ w, (Instr.typeAssert (.iface 107 (.agg #[.int .i64 x, .int .i64 j])) 20 107 true).run Tryd.prog w = .ok (.tuple #[.agg #[.int .i64 x, .int .i64 j], .bool true]) w := fun _ => by kernel_rfl
  have hb := below_alloc' (Below.refl w.heap.size w) (.cells #[.int .i64 x, .int .i64 j] 107)
  go_enter Tryd.func32, Tryd.ntmps32
  go_wp2_with fail
  go_quiet (fail)
  go_wp2
  go_ret2
  exact ⟨rfl, below_drewN' hb _⟩

set_option maxRecDepth 100000 in
theorem eParse1_panic (B : Nat) (x : Int) (j : Nat) (v0 v1 v2 v3 v4 v5 : Value) (w : World) (h4 : w.heap[B]? = some (.cells #[v0, v1, v2, v3] 24 (0, 0))) (h5 : w.heap[B + 1]? = some (.cells #[v4] 3 (0, 0))) (h6 : w.heap[B + 2]? = some (.cells #[v5] 30 (0, 0))) :
    CallsD Tryd.prog 31 #[.pointer (some ⟨B, 0, none⟩), .pointer (some ⟨B + 1, 0, none⟩), .pointer (some ⟨B + 2, 0, none⟩)] (.panicking [{ v := stopV x j, recovered := false }]) w fun e u' w' =>
      e = .returned (.tuple #[]) ∧ u' = .panicking [{ v := stopV x j, recovered := true }] ∧ Below B w w' ∧ w'.heap[B]? = some (.cells #[.int .i64 0, .int .i64 0, .string ⟨#[]⟩, .slice none 0 0] 24 (0, 0)) ∧
      w'.heap[B + 1]? = some (.cells #[.int .i64 j] 3 (0, 0)) ∧ w'.heap[B + 2]? = some (.cells #[.int .i64 x] 30 (0, 0)) := by
  have hC := fun W => Caught_any x j W
  unfold stopV at hC ⊢
  refine callsD_of_wpS Tryd.func31 rfl fun c₀ cs hu => ?_
  apply wpS_seq
  apply wpS_region
  simp [wpOpsS, go_sem, recoverD, hu, Tryd.ntmps31, Exit.thenS]
  refine wpS_of_wp ?_
  have hB : Below B w w := Below.refl _ _
  have hl4 := lt_of_block h4
  have hl5 := lt_of_block h5
  have hl6 := lt_of_block h6
  have p0 : w.cell? ⟨B, 0, none⟩ = some v0 := by simp [World.cell?, h4]
  have p1 : w.cell? ⟨B, 1, none⟩ = some v1 := by simp [World.cell?, h4]
  have p2 : w.cell? ⟨B, 2, none⟩ = some v2 := by simp [World.cell?, h4]
  have p3 : w.cell? ⟨B, 3, none⟩ = some v3 := by simp [World.cell?, h4]
  have pf : ∀ j, w.frozen? ⟨B, j, none⟩ = false := fun j => by simp [World.frozen?, h4]
  change Code.wp _ _ _ ⟨#[.pointer (some ⟨B, 0, none⟩), .pointer (some ⟨B + 1, 0, none⟩), .pointer (some ⟨B + 2, 0, none⟩), .iface 107 (.agg #[.int .i64 x, .int .i64 j]), .iface 107 (.agg #[.int .i64 x, .int .i64 j]), undef, undef, undef, undef, undef, undef, undef, undef], []⟩ w
  have g4 : ((((w.setCell ⟨B, 0, none⟩ (.int .i64 0)).setCell ⟨B, 1, none⟩ (.int .i64 0)).setCell ⟨B, 2, none⟩ (.string ⟨#[]⟩)).setCell ⟨B, 3, none⟩ (.slice none 0 0)).heap[B]? = some (.cells #[.int .i64 0, .int .i64 0, .string ⟨#[]⟩, .slice none 0 0] 24 (0, 0)) := cells_set (cells_set (cells_set (cells_set h4 0 _) 1 _) 2 _) 3 _
  have gz : ∀ b, b ≠ B → ((((w.setCell ⟨B, 0, none⟩ (.int .i64 0)).setCell ⟨B, 1, none⟩ (.int .i64 0)).setCell ⟨B, 2, none⟩ (.string ⟨#[]⟩)).setCell ⟨B, 3, none⟩ (.slice none 0 0)).heap[b]? = w.heap[b]? := fun b hb => by
    rw [Below.heap_setCell _ _ _ _ hb, Below.heap_setCell _ _ _ _ hb, Below.heap_setCell _ _ _ _ hb, Below.heap_setCell _ _ _ _ hb]
  have g5 := (gz (B + 1) (by omega)).trans h5
  have g6 := (gz (B + 2) (by omega)).trans h6
  have gB : Below B w ((((w.setCell ⟨B, 0, none⟩ (.int .i64 0)).setCell ⟨B, 1, none⟩ (.int .i64 0)).setCell ⟨B, 2, none⟩ (.string ⟨#[]⟩)).setCell ⟨B, 3, none⟩ (.slice none 0 0)) := below_set' (below_set' (below_set' (below_set' hB (Nat.le_refl _)) (Nat.le_refl _)) (Nat.le_refl _)) (Nat.le_refl _)
  clear gz h4 h5 h6
  have hC1 := hC ((((w.setCell ⟨B, 0, none⟩ (.int .i64 0)).setCell ⟨B, 1, none⟩ (.int .i64 0)).setCell ⟨B, 2, none⟩ (.string ⟨#[]⟩)).setCell ⟨B, 3, none⟩ (.slice none 0 0))
  have G4 := Lib.hid g4
  have G5 := Lib.hid g5
  have G6 := Lib.hid g6
  clear g4 g5 g6 hC
  go_wp2_with (go_at_call 32; (with_reducible refine hC1.mono ?_); rintro e w2 ⟨rfl, hb⟩; have k4 := (hb.block _ (lt_of_block G4.out)).trans G4.out; have k5 := (hb.block _ (lt_of_block G5.out)).trans G5.out; have k6 := (hb.block _ (lt_of_block G6.out)).trans G6.out; have q5 : w2.cell? ⟨B + 1, 0, none⟩ = some v4 := (by simp [World.cell?, k5]); have q6 : w2.cell? ⟨B + 2, 0, none⟩ = some v5 := (by simp [World.cell?, k6]); have f5 : w2.frozen? ⟨B + 1, 0, none⟩ = false := (by simp [World.frozen?, k5]); have f6 : w2.frozen? ⟨B + 2, 0, none⟩ = false := (by simp [World.frozen?, k6]); have K4 := Lib.hid k4; have K5 := Lib.hid k5; have K6 := Lib.hid k6; clear k4 k5 k6)
  have hw2 : Below B w w2 := gB.trans (hb.mono (by have := gB.size; omega))
  refine ⟨rfl, _, rfl, _, results_none rfl _ _ _, rfl, rfl, below_set' (below_set' hw2 (Nat.le_succ _)) (by omega), ?_, ?_, ?_⟩
  · rw [Below.heap_setCell _ _ _ _ (by simp), Below.heap_setCell _ _ _ _ (by simp)]; exact K4.out
  · rw [Below.heap_setCell _ _ _ _ (by simp)]; exact cells_set K5.out 0 _
  · have k6 : (w2.setCell ⟨B + 1, 0, none⟩ (.int .i64 j)).heap[B + 2]? = some (.cells #[v5] 30 (0, 0)) := by rw [Below.heap_setCell _ _ _ _ (by simp)]; exact K6.out
    exact cells_set k6 0 _

set_option maxRecDepth 100000 in
theorem eParse1_idle (p4 p5 p6 : Value) (w : World) : CallsD Tryd.prog 31 #[p4, p5, p6] .returning w fun e u' w' => e = .returned (.tuple #[]) ∧ u' = .returning ∧ w' = w := by
  refine callsD_of_wpS Tryd.func31 rfl fun c₀ cs hu => ?_
  apply wpS_seq
  apply wpS_region
  simp [wpOpsS, go_sem, recoverD, hu, Tryd.ntmps31, Exit.thenS]
  refine wpS_of_wp ?_
  change Code.wp _ _ _ ⟨#[p4, p5, p6, .nilIface, .nilIface, undef, undef, undef, undef, undef, undef, undef, undef], []⟩ w
  go_wp2_with fail
  refine ⟨rfl, .returning, ?_, _, results_none rfl _ _ _, rfl, rfl, rfl⟩
  cases c₀
  simp_all

/-- Parse's three answers. -/
def parX : PR Expr → Expr | .ok x _ => x | .err _ _ => leafE 0 0 ByteArray.empty
def parJ : PR Expr → Nat | .ok _ j => j | .err _ j => j
def parE : PR Expr → Int | .ok _ _ => 0 | .err e _ => e
def ParQ (w : World) (r : PR Expr) (e : Ending) (w' : World) : Prop :=
  Below w.heap.size w w' ∧ ∃ A c, e = .returned (.tuple #[.agg #[.int .i64 (parX r).kind, .int .i64 (parX r).n, .string (parX r).name, .slice A (parX r).kids.length c], .int .i64 (parJ r : Nat), .int .i64 (parE r)]) ∧ RdE (fun b => w.heap.size ≤ b) w' (parX r) A c

set_option maxRecDepth 100000 in
set_option maxHeartbeats 4000000 in
theorem eParse_any (L : List Tok) (hok : TokOk L) (hl : 0 < L.length) (A : Option Addr) (c : Nat) (S : Nat → Prop) (w : World) (hr : RdV S w (.l 4 (Tok.ds L)) (.slice A L.length c)) :
    Calls Tryd.prog 16 #[.slice A L.length c, .int .i64 0] w (ParQ w (exprP L 40 0)) := by
  have hmf : ∀ (fn : Fn) (first cap : Array Value) (w : World), (Instr.makeFunc fn first cap).run Tryd.prog w = .ok (.func fn first cap) w := fun _ _ _ _ => rfl
  have hlen := hr.len_le
  have hd : decide ((L.length : Int) ≤ 0) = false := decide_eq_false (by omega)
  have hnil : (L = []) = False := by simp; intro h0; rw [h0] at hl; simp at hl
  obtain ⟨W, hW⟩ : ∃ W, W = (((w.alloc (.cells #[.int .i64 0, .int .i64 0, .string ⟨#[]⟩, .slice none 0 0] 24)).alloc (.cells #[.int .i64 0] 3)).alloc (.cells #[.int .i64 0] 30)).alloc (.cells #[.slice A L.length c, .int .i64 0] 69) := ⟨_, rfl⟩
  have hBW : Below w.heap.size w W := by rw [hW]; exact below_alloc' (below_alloc' (below_alloc' (below_alloc' (Below.refl _ _) _) _) _) _
  have hrin : Rin ⟨w.heap.size + 3, 69, A, c, L, hok⟩ W 0 := by
    refine ⟨?_, (hr.lt.blw hBW).mono fun b hb => by have := hb.2; show b ≠ w.heap.size + 3; omega, by omega⟩
    rw [hW]
    have := heap_alloc_new (((w.alloc (.cells #[.int .i64 0, .int .i64 0, .string ⟨#[]⟩, .slice none 0 0] 24)).alloc (.cells #[.int .i64 0] 3)).alloc (.cells #[.int .i64 0] 30)) (.cells #[.slice A L.length c, .int .i64 0] 69)
    rwa [show (((w.alloc (.cells #[.int .i64 0, .int .i64 0, .string ⟨#[]⟩, .slice none 0 0] 24)).alloc (.cells #[.int .i64 0] 3)).alloc (.cells #[.int .i64 0] 30)).heap.size = w.heap.size + 3 by simp] at this
  have hs0 : W.heap.size = w.heap.size + 4 := by rw [hW]; simp
  have h4 : W.heap[w.heap.size]? = some (.cells #[.int .i64 0, .int .i64 0, .string ⟨#[]⟩, .slice none 0 0] 24 (0, 0)) := by
    rw [hW, Below.heap_alloc _ _ _ (by simp; try omega), Below.heap_alloc _ _ _ (by simp; try omega), Below.heap_alloc _ _ _ (by simp)]; exact heap_alloc_new _ _
  have h5 : W.heap[w.heap.size + 1]? = some (.cells #[.int .i64 0] 3 (0, 0)) := by
    rw [hW, Below.heap_alloc _ _ _ (by simp; try omega), Below.heap_alloc _ _ _ (by simp)]
    have := heap_alloc_new (w.alloc (.cells #[.int .i64 0, .int .i64 0, .string ⟨#[]⟩, .slice none 0 0] 24)) (.cells #[.int .i64 0] 3)
    rwa [show (w.alloc (.cells #[.int .i64 0, .int .i64 0, .string ⟨#[]⟩, .slice none 0 0] 24)).heap.size = w.heap.size + 1 by simp] at this
  have h6 : W.heap[w.heap.size + 2]? = some (.cells #[.int .i64 0] 30 (0, 0)) := by
    rw [hW, Below.heap_alloc _ _ _ (by simp)]
    have := heap_alloc_new ((w.alloc (.cells #[.int .i64 0, .int .i64 0, .string ⟨#[]⟩, .slice none 0 0] 24)).alloc (.cells #[.int .i64 0] 3)) (.cells #[.int .i64 0] 30)
    rwa [show ((w.alloc (.cells #[.int .i64 0, .int .i64 0, .string ⟨#[]⟩, .slice none 0 0] 24)).alloc (.cells #[.int .i64 0] 3)).heap.size = w.heap.size + 2 by simp] at this
  rw [hW] at h4 h5 h6 hs0
  have H4 := Lib.hid h4
  have H5 := Lib.hid h5
  have H6 := Lib.hid h6
  have HS := Lib.hid hs0
  clear h4 h5 h6 hs0
  have HW := Lib.hid hW
  have hE := eExpr_any ⟨w.heap.size + 3, 69, A, c, L, hok⟩ W 0 hrin
  simp only at hE
  clear hl
  cases hx : exprP L 40 0 with
  | err x j =>
    rw [hx] at hE
    rw [hW] at hE
    clear hW
    go_enter_defers Tryd.func16, Tryd.ntmps16
    go_wp2_with (go_at_call 33; (with_reducible refine hE.mono ?_); intro e w3 hq; obtain ⟨rfl, hk⟩ := hq)
    have k4 := (hk.block w.heap.size (by rw [HS.out]; omega) (by simp)).trans H4.out
    have k5 := (hk.block (w.heap.size + 1) (by rw [HS.out]; omega) (by simp)).trans H5.out
    have k6 := (hk.block (w.heap.size + 2) (by rw [HS.out]; omega) (by simp)).trans H6.out
    rw [← HW.out] at hk
    refine leaves_cons (f := 31) (args := #[.pointer (some ⟨w.heap.size, 0, none⟩), .pointer (some ⟨w.heap.size + 1, 0, none⟩), .pointer (some ⟨w.heap.size + 2, 0, none⟩)]) (by simp) (by simp [go_sem]) ?_
    refine (eParse1_panic w.heap.size x j _ _ _ _ _ _ w3 k4 k5 k6).mono ?_
    rintro e u' w4 ⟨rfl, rfl, hB4, j4, j5, j6⟩
    have hF : ParQ w (.err x j) (.returned (.tuple #[.agg #[.int .i64 0, .int .i64 0, .string ⟨#[]⟩, .slice none 0 0], .int .i64 j, .int .i64 x])) w4 :=
      ⟨(Kb.below hBW hk (Nat.le_add_right _ _)).trans hB4, none, 0, rfl, leaf_rd (by decide) (by decide) (by decide)⟩
    have q0 : w4.cell? ⟨w.heap.size, 0, none⟩ = some (.int .i64 0) := by simp [World.cell?, j4]
    have q1 : w4.cell? ⟨w.heap.size, 1, none⟩ = some (.int .i64 0) := by simp [World.cell?, j4]
    have q2 : w4.cell? ⟨w.heap.size, 2, none⟩ = some (.string ⟨#[]⟩) := by simp [World.cell?, j4]
    have q3 : w4.cell? ⟨w.heap.size, 3, none⟩ = some (.slice none 0 0) := by simp [World.cell?, j4]
    have q5 : w4.cell? ⟨w.heap.size + 1, 0, none⟩ = some (.int .i64 j) := by simp [World.cell?, j5]
    have q6 : w4.cell? ⟨w.heap.size + 2, 0, none⟩ = some (.int .i64 x) := by simp [World.cell?, j6]
    generalize ParQ w (.err x j) = Q at hF ⊢
    simp [Leaves, settle, results, Tryd.results16, go_sem, q0, q1, q2, q3, q5, q6]
    exact hF
  | ok y j =>
    rw [hx] at hE
    rw [hW] at hE
    clear hW
    go_enter_defers Tryd.func16, Tryd.ntmps16
    go_wp2_with (go_at_call 33; (with_reducible refine hE.mono ?_); intro e w3 hq; obtain ⟨A3, c3, rfl, hE3, hk⟩ := hq; have k4 := (hk.kb.block w.heap.size (by rw [HS.out]; omega) (by simp)).trans H4.out; have k5 := (hk.kb.block (w.heap.size + 1) (by rw [HS.out]; omega) (by simp)).trans H5.out; have k6 := (hk.kb.block (w.heap.size + 2) (by rw [HS.out]; omega) (by simp)).trans H6.out; have p0 : w3.cell? ⟨w.heap.size, 0, none⟩ = some (.int .i64 0) := (by simp [World.cell?, k4]); have p1 : w3.cell? ⟨w.heap.size, 1, none⟩ = some (.int .i64 0) := (by simp [World.cell?, k4]); have p2 : w3.cell? ⟨w.heap.size, 2, none⟩ = some (.string ⟨#[]⟩) := (by simp [World.cell?, k4]); have p3 : w3.cell? ⟨w.heap.size, 3, none⟩ = some (.slice none 0 0) := (by simp [World.cell?, k4]); have pf : ∀ j, w3.frozen? ⟨w.heap.size, j, none⟩ = false := fun j => (by simp [World.frozen?, k4]); have K4 := Lib.hid k4; have K5 := Lib.hid k5; have K6 := Lib.hid k6; clear k4 k5 k6)
    have y4 := cells_set (cells_set (cells_set (cells_set K4.out 0 (.int .i64 y.kind)) 1 (.int .i64 y.n)) 2 (.string y.name)) 3 (.slice A3 y.kids.length c3)
    have gz : ∀ b, b ≠ w.heap.size → ((((w3.setCell ⟨w.heap.size, 0, none⟩ (.int .i64 y.kind)).setCell ⟨w.heap.size, 1, none⟩ (.int .i64 y.n)).setCell ⟨w.heap.size, 2, none⟩ (.string y.name)).setCell ⟨w.heap.size, 3, none⟩ (.slice A3 y.kids.length c3)).heap[b]? = w3.heap[b]? := fun b hb => by
      rw [Below.heap_setCell _ _ _ _ hb, Below.heap_setCell _ _ _ _ hb, Below.heap_setCell _ _ _ _ hb, Below.heap_setCell _ _ _ _ hb]
    have y5 := (gz (w.heap.size + 1) (by omega)).trans K5.out
    have y6 := (gz (w.heap.size + 2) (by omega)).trans K6.out
    have y7 := (gz (w.heap.size + 3) (by omega)).trans hk.rin.blk
    have hkk := hk.kb
    rw [← HW.out] at hkk
    have hb3 : Below w.heap.size w w3 := Kb.below hBW hkk (Nat.le_add_right _ _)
    have hb4 : Below w.heap.size w ((((w3.setCell ⟨w.heap.size, 0, none⟩ (.int .i64 y.kind)).setCell ⟨w.heap.size, 1, none⟩ (.int .i64 y.n)).setCell ⟨w.heap.size, 2, none⟩ (.string y.name)).setCell ⟨w.heap.size, 3, none⟩ (.slice A3 y.kids.length c3)) := below_set' (below_set' (below_set' (below_set' hb3 (Nat.le_refl _)) (Nat.le_refl _)) (Nat.le_refl _)) (Nat.le_refl _)
    have hE4 : RdE (fun b => w.heap.size + 4 ≤ b) ((((w3.setCell ⟨w.heap.size, 0, none⟩ (.int .i64 y.kind)).setCell ⟨w.heap.size, 1, none⟩ (.int .i64 y.n)).setCell ⟨w.heap.size, 2, none⟩ (.string y.name)).setCell ⟨w.heap.size, 3, none⟩ (.slice A3 y.kids.length c3)) y A3 c3 := by
      rw [HS.out] at hE3
      exact hE3.move fun b hb _ => gz b (by omega)
    clear gz p0 p1 p2 p3 pf hE3 hk
    generalize ((((w3.setCell ⟨w.heap.size, 0, none⟩ (.int .i64 y.kind)).setCell ⟨w.heap.size, 1, none⟩ (.int .i64 y.n)).setCell ⟨w.heap.size, 2, none⟩ (.string y.name)).setCell ⟨w.heap.size, 3, none⟩ (.slice A3 y.kids.length c3)) = w4 at y4 y5 y6 y7 hb4 hE4 ⊢
    have q0 : w4.cell? ⟨w.heap.size, 0, none⟩ = some (.int .i64 y.kind) := by simp [World.cell?, y4]
    have q1 : w4.cell? ⟨w.heap.size, 1, none⟩ = some (.int .i64 y.n) := by simp [World.cell?, y4]
    have q2 : w4.cell? ⟨w.heap.size, 2, none⟩ = some (.string y.name) := by simp [World.cell?, y4]
    have q3 : w4.cell? ⟨w.heap.size, 3, none⟩ = some (.slice A3 y.kids.length c3) := by simp [World.cell?, y4]
    have q5 : w4.cell? ⟨w.heap.size + 1, 0, none⟩ = some (.int .i64 0) := by simp [World.cell?, y5]
    have q6 : w4.cell? ⟨w.heap.size + 1 + 1, 0, none⟩ = some (.int .i64 0) := by simp [World.cell?, y6]
    have q7 : w4.cell? ⟨w.heap.size + 1 + 1 + 1, 1, none⟩ = some (.int .i64 j) := by simp [World.cell?, y7]
    have f4 : ∀ j, w4.frozen? ⟨w.heap.size, j, none⟩ = false := fun j => by simp [World.frozen?, y4]
    have f5 : w4.frozen? ⟨w.heap.size + 1, 0, none⟩ = false := by simp [World.frozen?, y5]
    have f6 : w4.frozen? ⟨w.heap.size + 1 + 1, 0, none⟩ = false := by simp [World.frozen?, y6]
    have Y4 := Lib.hid y4
    have Y5 := Lib.hid y5
    have Y6 := Lib.hid y6
    clear y4 y5 y6 y7
    go_region
    have z4 : ((((((w4.setCell ⟨w.heap.size, 0, none⟩ (.int .i64 y.kind)).setCell ⟨w.heap.size, 1, none⟩ (.int .i64 y.n)).setCell ⟨w.heap.size, 2, none⟩ (.string y.name)).setCell ⟨w.heap.size, 3, none⟩ (.slice A3 y.kids.length c3)).setCell ⟨w.heap.size + 1, 0, none⟩ (.int .i64 j)).setCell ⟨w.heap.size + 1 + 1, 0, none⟩ (.int .i64 0)).drew.heap[w.heap.size]? = some (.cells #[.int .i64 y.kind, .int .i64 y.n, .string y.name, .slice A3 y.kids.length c3] 24 (0, 0)) := by
      rw [drew_heap]
      rw [Below.heap_setCell _ _ _ _ (by simp; omega), Below.heap_setCell _ _ _ _ (by simp)]
      exact cells_set (cells_set (cells_set (cells_set Y4.out 0 _) 1 _) 2 _) 3 _
    have z5 : ((((((w4.setCell ⟨w.heap.size, 0, none⟩ (.int .i64 y.kind)).setCell ⟨w.heap.size, 1, none⟩ (.int .i64 y.n)).setCell ⟨w.heap.size, 2, none⟩ (.string y.name)).setCell ⟨w.heap.size, 3, none⟩ (.slice A3 y.kids.length c3)).setCell ⟨w.heap.size + 1, 0, none⟩ (.int .i64 j)).setCell ⟨w.heap.size + 1 + 1, 0, none⟩ (.int .i64 0)).drew.heap[w.heap.size + 1]? = some (.cells #[.int .i64 j] 3 (0, 0)) := by
      rw [drew_heap]
      rw [Below.heap_setCell _ _ _ _ (by simp)]
      refine cells_set (cs := #[.int .i64 0]) ?_ 0 _
      rw [Below.heap_setCell _ _ _ _ (by simp), Below.heap_setCell _ _ _ _ (by simp), Below.heap_setCell _ _ _ _ (by simp), Below.heap_setCell _ _ _ _ (by simp)]
      exact Y5.out
    have z6 : ((((((w4.setCell ⟨w.heap.size, 0, none⟩ (.int .i64 y.kind)).setCell ⟨w.heap.size, 1, none⟩ (.int .i64 y.n)).setCell ⟨w.heap.size, 2, none⟩ (.string y.name)).setCell ⟨w.heap.size, 3, none⟩ (.slice A3 y.kids.length c3)).setCell ⟨w.heap.size + 1, 0, none⟩ (.int .i64 j)).setCell ⟨w.heap.size + 1 + 1, 0, none⟩ (.int .i64 0)).drew.heap[w.heap.size + 1 + 1]? = some (.cells #[.int .i64 0] 30 (0, 0)) := by
      rw [drew_heap]
      refine cells_set (cs := #[.int .i64 0]) ?_ 0 _
      rw [Below.heap_setCell _ _ _ _ (by simp), Below.heap_setCell _ _ _ _ (by simp; omega), Below.heap_setCell _ _ _ _ (by simp; omega), Below.heap_setCell _ _ _ _ (by simp; omega), Below.heap_setCell _ _ _ _ (by simp; omega)]
      exact Y6.out
    have hF : ParQ w (.ok y j) (.returned (.tuple #[.agg #[.int .i64 y.kind, .int .i64 y.n, .string y.name, .slice A3 y.kids.length c3], .int .i64 j, .int .i64 0])) ((((((w4.setCell ⟨w.heap.size, 0, none⟩ (.int .i64 y.kind)).setCell ⟨w.heap.size, 1, none⟩ (.int .i64 y.n)).setCell ⟨w.heap.size, 2, none⟩ (.string y.name)).setCell ⟨w.heap.size, 3, none⟩ (.slice A3 y.kids.length c3)).setCell ⟨w.heap.size + 1, 0, none⟩ (.int .i64 j)).setCell ⟨w.heap.size + 1 + 1, 0, none⟩ (.int .i64 0)).drew := by
      refine ⟨below_drew' (below_set' (below_set' (below_set' (below_set' (below_set' (below_set' hb4 (Nat.le_refl _)) (Nat.le_refl _)) (Nat.le_refl _)) (Nat.le_refl _)) (Nat.le_succ _)) (by omega)), A3, c3, rfl, ?_⟩
      refine (hE4.move fun b hb _ => ?_).mono fun b hb => by have hb' : w.heap.size + 4 ≤ b := hb; omega
      have hb' : w.heap.size + 4 ≤ b := hb
      rw [drew_heap]
      rw [Below.heap_setCell _ _ _ _ (by simp; omega), Below.heap_setCell _ _ _ _ (by simp; omega), Below.heap_setCell _ _ _ _ (by simp; omega), Below.heap_setCell _ _ _ _ (by simp; omega), Below.heap_setCell _ _ _ _ (by simp; omega), Below.heap_setCell _ _ _ _ (by simp; omega)]
    clear q0 q1 q2 q3 q5 q6 q7 f4 f5 f6
    generalize ((((((w4.setCell ⟨w.heap.size, 0, none⟩ (.int .i64 y.kind)).setCell ⟨w.heap.size, 1, none⟩ (.int .i64 y.n)).setCell ⟨w.heap.size, 2, none⟩ (.string y.name)).setCell ⟨w.heap.size, 3, none⟩ (.slice A3 y.kids.length c3)).setCell ⟨w.heap.size + 1, 0, none⟩ (.int .i64 j)).setCell ⟨w.heap.size + 1 + 1, 0, none⟩ (.int .i64 0)).drew = w6 at z4 z5 z6 hF ⊢
    have Z4 := Lib.hid z4
    have Z5 := Lib.hid z5
    have Z6 := Lib.hid z6
    have HF := Lib.hid hF
    clear z4 z5 z6 hF
    go_wp2_with fail
    refine leaves_cons (f := 31) (args := #[.pointer (some ⟨w.heap.size, 0, none⟩), .pointer (some ⟨w.heap.size + 1, 0, none⟩), .pointer (some ⟨w.heap.size + 1 + 1, 0, none⟩)]) (by simp) (by simp [go_sem]) ?_
    refine (eParse1_idle _ _ _ _).mono ?_
    rintro e u' w7 ⟨rfl, rfl, rfl⟩
    have z4 := Z4.out
    have z5 := Z5.out
    have z6 := Z6.out
    have q0 : w7.cell? ⟨w.heap.size, 0, none⟩ = some (.int .i64 y.kind) := by simp [World.cell?, z4]
    have q1 : w7.cell? ⟨w.heap.size, 1, none⟩ = some (.int .i64 y.n) := by simp [World.cell?, z4]
    have q2 : w7.cell? ⟨w.heap.size, 2, none⟩ = some (.string y.name) := by simp [World.cell?, z4]
    have q3 : w7.cell? ⟨w.heap.size, 3, none⟩ = some (.slice A3 y.kids.length c3) := by simp [World.cell?, z4]
    have q5 : w7.cell? ⟨w.heap.size + 1, 0, none⟩ = some (.int .i64 j) := by simp [World.cell?, z5]
    have q6 : w7.cell? ⟨w.heap.size + 1 + 1, 0, none⟩ = some (.int .i64 0) := by simp [World.cell?, z6]
    have hF := HF.out
    clear HF Z4 Z5 Z6 z4 z5 z6
    generalize ParQ w (.ok y j) = Q at hF ⊢
    simp [Leaves, settle, results, Tryd.results16, go_sem, q0, q1, q2, q3, q5, q6]
    exact hF
end Go.Proofs.YtfdpkmpnfalggaaDoor
