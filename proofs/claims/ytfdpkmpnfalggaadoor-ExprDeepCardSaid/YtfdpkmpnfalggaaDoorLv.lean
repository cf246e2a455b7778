/- The reader's levels and level, by contracts: level reads what the plain parser reads. -/
import Derived.Test.YtfdpkmpnfalggaaDoorRs
import Derived.Deep.RegionHeld3
set_option linter.unusedVariables false
set_option linter.unusedSimpArgs false
namespace Go.Proofs.YtfdpkmpnfalggaaDoor
open Go.RowKit

def intsL (l : List Nat) : List Value := l.map fun k => .int .i64 (k : Nat)
/-- The blocks of levels. -/
def LvBlk (w : World) (B : Nat) : Prop := (∀ lv, lv < 5 → w.cell? ⟨B + 5, lv, none⟩ = some (.slice (some ⟨B + lv, 0, none⟩) (levelKinds lv).length (levelKinds lv).length)) ∧
  ∀ lv j, lv < 5 → ∀ (hj : j < (levelKinds lv).length), w.cell? ⟨B + lv, j, none⟩ = some (.int .i64 ((levelKinds lv)[j] : Nat))
def LvQ (w : World) (e : Ending) (w' : World) : Prop := e = .returned (.slice (some ⟨w.heap.size + 5, 0, none⟩) 5 5) ∧ Below w.heap.size w w' ∧ LvBlk w' w.heap.size ∧ w'.heap.size = w.heap.size + 6
theorem elevels_any (w : World) : Calls Tryd.prog 99 #[] w (LvQ w) := by
  go_enter Tryd.func99, Tryd.ntmps99
  go_wp2
  go_ret
  refine ⟨rfl, by with_reducible repeat (first | exact Below.refl _ _ | apply below_alloc'), ⟨fun lv h => ?_, fun lv j h hj => ?_⟩, by simp⟩
  · match lv, h with
    | 0, _ => simp [go_sem, levelKinds]
    | 1, _ => simp [go_sem, levelKinds]
    | 2, _ => simp [go_sem, levelKinds]
    | 3, _ => simp [go_sem, levelKinds]
    | 4, _ => simp [go_sem, levelKinds]
  · match lv, h with
    | 0, _ => match j, hj with | 0, _ => simp [go_sem, levelKinds]
    | 1, _ => match j, hj with | 0, _ => simp [go_sem, levelKinds]
    | 2, _ => match j, hj with
      | 0, _ => simp [go_sem, levelKinds]
      | 1, _ => simp [go_sem, levelKinds]
    | 3, _ => match j, hj with
      | 0, _ => simp [go_sem, levelKinds]
      | 1, _ => simp [go_sem, levelKinds]
    | 4, _ => match j, hj with
      | 0, _ => simp [go_sem, levelKinds]
      | 1, _ => simp [go_sem, levelKinds]

theorem levelKinds_le (lv : Nat) : (levelKinds lv).length ≤ 4 ∧ ∀ j (hj : j < (levelKinds lv).length), (levelKinds lv)[j] < 20 := by
  match lv with
  | 0 => exact ⟨by decide, by decide⟩
  | 1 => exact ⟨by decide, by decide⟩
  | 2 => exact ⟨by decide, by decide⟩
  | 3 => exact ⟨by decide, by decide⟩
  | 4 => exact ⟨by decide, by decide⟩
  | n + 5 => exact ⟨by simp [levelKinds], fun j hj => by simp [levelKinds] at hj⟩
theorem levP_lt {L : List Tok} {sg : Nat → PR Expr} {lv : Nat} (h : lv < 5) (i : Nat) :
    levP L sg (5 - lv) i = match levP L sg (5 - (lv + 1)) i with | .err e j => .err e j | .ok x j => loopL L (levP L sg (5 - (lv + 1))) lv (L.length + 1) x j := by
  have e1 : 5 - lv = (5 - (lv + 1)) + 1 := by omega
  have e2 : 4 - (5 - (lv + 1)) = lv := by omega
  rw [e1, levP, e2]
  cases levP L sg (5 - (lv + 1)) i <;> rfl

/-- A result's block, while nothing has been stored there. -/
def Zero5 (w : World) (b : Nat) : Prop := w.heap[b]? = some (.cells #[.int .i64 0, .int .i64 0, .string ⟨#[]⟩, .slice none 0 0, .int .i64 0] 110 (0, 0))
theorem Zero5.cells {w : World} {b : Nat} (h : Zero5 w b) : (w.cell? ⟨b, 0, none⟩ = some (.int .i64 0) ∧ w.cell? ⟨b, 1, none⟩ = some (.int .i64 0) ∧ w.cell? ⟨b, 2, none⟩ = some (.string ⟨#[]⟩) ∧ w.cell? ⟨b, 3, none⟩ = some (.slice none 0 0) ∧
    w.cell? ⟨b, 4, none⟩ = some (.int .i64 0)) ∧ ∀ j, w.frozen? ⟨b, j, none⟩ = false := by
  unfold Zero5 at h
  exact ⟨⟨by simp [World.cell?, h], by simp [World.cell?, h], by simp [World.cell?, h], by simp [World.cell?, h], by simp [World.cell?, h]⟩, fun j => by simp [World.frozen?, h]⟩
theorem read_cells {w : World} {b : Nat} {x : Expr} {A : Option Addr} {c : Nat} {t : TypeId} (h : w.heap[b]? = some (.cells #[.int .i64 x.kind, .int .i64 x.n, .string x.name, .slice A x.kids.length c, .int .i64 (x.depth : Nat)] t (0, 0))) :
    (w.cell? ⟨b, 0, none⟩ = some (.int .i64 x.kind) ∧ w.cell? ⟨b, 1, none⟩ = some (.int .i64 x.n) ∧ w.cell? ⟨b, 2, none⟩ = some (.string x.name) ∧ w.cell? ⟨b, 3, none⟩ = some (.slice A x.kids.length c) ∧
    w.cell? ⟨b, 4, none⟩ = some (.int .i64 (x.depth : Nat))) ∧ ∀ j, w.frozen? ⟨b, j, none⟩ = false :=
  ⟨⟨by simp [World.cell?, h], by simp [World.cell?, h], by simp [World.cell?, h], by simp [World.cell?, h], by simp [World.cell?, h]⟩, fun j => by simp [World.frozen?, h]⟩
theorem Zero5.new (w : World) : Zero5 (w.alloc (.cells #[.int .i64 0, .int .i64 0, .string ⟨#[]⟩, .slice none 0 0, .int .i64 0] 110)) w.heap.size := heap_alloc_new _ _
/-- The five stores of a read. -/
def set5 (w : World) (b : Nat) (x : Expr) (A : Option Addr) (c : Nat) : World :=
  ((((w.setCell ⟨b, 0, none⟩ (.int .i64 x.kind)).setCell ⟨b, 1, none⟩ (.int .i64 x.n)).setCell ⟨b, 2, none⟩ (.string x.name)).setCell ⟨b, 3, none⟩ (.slice A x.kids.length c)).setCell ⟨b, 4, none⟩ (.int .i64 (x.depth : Nat))
theorem set5_heap (w : World) (b : Nat) (x : Expr) (A : Option Addr) (c k : Nat) (h : k ≠ b) : (set5 w b x A c).heap[k]? = w.heap[k]? := by
  unfold set5
  rw [Below.heap_setCell _ _ _ _ h, Below.heap_setCell _ _ _ _ h, Below.heap_setCell _ _ _ _ h, Below.heap_setCell _ _ _ _ h, Below.heap_setCell _ _ _ _ h]
theorem set5_kb (rb : Nat) (w W : World) (b : Nat) (x : Expr) (A : Option Addr) (c : Nat) (h : Kb rb w W) (hb : w.heap.size ≤ b) : Kb rb w (set5 W b x A c) := ((((h.setNew hb).setNew hb).setNew hb).setNew hb).setNew hb
theorem set5_at {P : Rp} {W : World} {b j : Nat} {x : Expr} {A : Option Addr} {c : Nat} (h : At P W j) (hb : P.rb < b) : At P (set5 W b x A c) j := ((((h.set hb).set hb).set hb).set hb).set hb
theorem set5_read {w : World} {b : Nat} {x : Expr} {A : Option Addr} {c : Nat} (v0 v1 v2 v3 v4 : Value) (t : TypeId) (h : w.heap[b]? = some (.cells #[v0, v1, v2, v3, v4] t (0, 0))) :
    (set5 w b x A c).heap[b]? = some (.cells #[.int .i64 x.kind, .int .i64 x.n, .string x.name, .slice A x.kids.length c, .int .i64 (x.depth : Nat)] t (0, 0)) := by
  have := cells_set (cells_set (cells_set (cells_set (cells_set h 0 (.int .i64 x.kind)) 1 (.int .i64 x.n)) 2 (.string x.name)) 3 (.slice A x.kids.length c)) 4 (.int .i64 (x.depth : Nat))
  exact this

/-- What a reader of expressions answers. -/
def SubQ (P : Rp) (w : World) (r : PR Expr) (e : Ending) (w' : World) : Prop :=
  match r with
  | .err x j => e = .panicked [{ v := stopV x j, recovered := false }] ∧ Kb P.rb w w'
  | .ok y j => ∃ A c, e = .returned (rdVal y A c) ∧ RdE (fun b => w.heap.size ≤ b) w' y A c ∧ Stp P w w' j

theorem sub_fin {P : Rp} {w W : World} {i j : Nat} {y : Expr} {A : Option Addr} {c : Nat} (h : Rin P w i) (k : Stp P w W j) (hE : RdE (fun b => w.heap.size < b) W y A c) :
    SubQ P w (.ok y j) (.returned (rdVal y A c)) (set5 W w.heap.size y A c) :=
  ⟨A, c, rfl, (hE.move fun b hb _ => set5_heap W w.heap.size y A c b (by omega)).mono fun b hb => Nat.le_of_lt hb,
    Stp.fin h (set5_kb _ _ _ _ _ _ _ k.kb (Nat.le_refl _)) (set5_at k.rin.blk h.lt) k.rin.le⟩

/-- In the middle of level's loop: its two structs, the levels, the reader. -/
structure LvAt (P : Rp) (w wr : World) (lv B B8 : Nat) (x : Expr) (A : Option Addr) (c j : Nat) : Prop where
  stp : Stp P w wr j
  res : wr.heap[w.heap.size]? = some (.cells #[.int .i64 0, .int .i64 0, .string ⟨#[]⟩, .slice none 0 0, .int .i64 0] 110 (0, 0))
  x8 : wr.heap[B8]? = some (.cells #[.int .i64 x.kind, .int .i64 x.n, .string x.name, .slice A x.kids.length c, .int .i64 (x.depth : Nat)] 110 (0, 0))
  rdx : RdE (fun b => w.heap.size < b ∧ b ≠ B8) wr x A c
  row : wr.cell? ⟨B + 5, lv, none⟩ = some (.slice (some ⟨B + lv, 0, none⟩) (levelKinds lv).length (levelKinds lv).length)
  kin : ∀ j (hj : j < (levelKinds lv).length), wr.cell? ⟨B + lv, j, none⟩ = some (.int .i64 ((levelKinds lv)[j] : Nat))
  b1 : w.heap.size < B
  b2 : B + 5 < B8
theorem LvAt.lt {P : Rp} {w wr : World} {lv B B8 : Nat} {x : Expr} {A : Option Addr} {c j : Nat} (h : LvAt P w wr lv B B8 x A c j) : P.rb < wr.heap.size ∧ B8 < wr.heap.size := ⟨h.stp.rin.lt, lt_of_block h.x8⟩
/-- A step that keeps all but the reader. -/
theorem LvAt.step {P : Rp} {w wr wr' : World} {lv B B8 : Nat} {x : Expr} {A : Option Addr} {c j j' : Nat} (h : LvAt P w wr lv B B8 x A c j) (hlv : lv < 5) (hrb : P.rb < w.heap.size) (k : Stp P wr wr' j') : LvAt P w wr' lv B B8 x A c j' :=
  have h8 := lt_of_block h.x8
  have b1 := h.b1
  have b2 := h.b2
  ⟨h.stp.trans k, (k.kb.block _ (by omega) (by omega)).trans h.res, (k.kb.block _ h8 (by omega)).trans h.x8, h.rdx.kb k.kb fun b hb => by omega, (k.kb.cell (by omega) (by omega)).trans h.row,
    fun j hj => (k.kb.cell (by omega) (by omega)).trans (h.kin j hj), h.b1, h.b2⟩

theorem lv_start {P : Rp} {w w1 w2 : World} {i j lv : Nat} {x : Expr} {A : Option Addr} {c : Nat} (h : Rin P w i)
    (hb : Below (w.alloc (.cells #[.int .i64 0, .int .i64 0, .string ⟨#[]⟩, .slice none 0 0, .int .i64 0] 110)).heap.size (w.alloc (.cells #[.int .i64 0, .int .i64 0, .string ⟨#[]⟩, .slice none 0 0, .int .i64 0] 110)) w1)
    (hl : LvBlk w1 (w.alloc (.cells #[.int .i64 0, .int .i64 0, .string ⟨#[]⟩, .slice none 0 0, .int .i64 0] 110)).heap.size)
    (hz : w1.heap.size = (w.alloc (.cells #[.int .i64 0, .int .i64 0, .string ⟨#[]⟩, .slice none 0 0, .int .i64 0] 110)).heap.size + 6) (hk : Stp P w1 w2 j) (hE : RdE (fun b => w1.heap.size ≤ b) w2 x A c) (hlv : lv < 5) :
    LvAt P w (w2.alloc (.cells #[.int .i64 x.kind, .int .i64 x.n, .string x.name, .slice A x.kids.length c, .int .i64 (x.depth : Nat)] 110)) lv (w.heap.size + 1) w2.heap.size x A c j := by
  have hs : (w.alloc (.cells #[.int .i64 0, .int .i64 0, .string ⟨#[]⟩, .slice none 0 0, .int .i64 0] 110)).heap.size = w.heap.size + 1 := by simp
  rw [hs] at hl hz
  have hrb := h.lt
  have hw2 := hk.kb.size
  have hB2 := below_alloc' (Below.refl w2.heap.size w2) (.cells #[.int .i64 x.kind, .int .i64 x.n, .string x.name, .slice A x.kids.length c, .int .i64 (x.depth : Nat)] 110)
  refine ⟨((Stp.of_below h ((below_alloc' (Below.refl _ _) _).trans' hb)).trans hk).below hB2, ?_, heap_alloc_new _ _, ?_, ?_, fun q hq => ?_, by omega, by omega⟩
  · rw [hB2.block _ (by omega), hk.kb.block _ (by omega) (by omega), hb.block _ (by rw [hs]; omega)]; exact heap_alloc_new _ _
  · exact (hE.lt.blw hB2).mono fun b hb => ⟨by have := hb.1; omega, by have := hb.2; omega⟩
  · rw [hB2.cell (p := ⟨_, _, none⟩) (by simp; omega), hk.kb.cell (by omega) (by omega)]; exact hl.1 lv hlv
  · rw [hB2.cell (p := ⟨_, _, none⟩) (by simp; omega), hk.kb.cell (by omega) (by omega)]; exact hl.2 lv q hlv hq
theorem lv_sign {P : Rp} {w wr : World} {lv B B8 : Nat} {x : Expr} {A : Option Addr} {c j : Nat} (h : LvAt P w wr lv B B8 x A c j) (hlv : lv < 5) (hrb : P.rb < w.heap.size) :
    Calls Tryd.prog 101 #[.pointer (some ⟨P.rb, 0, none⟩), .slice (some ⟨B + lv, 0, none⟩) (levelKinds lv).length (levelKinds lv).length] wr fun e w' => e = .returned (.int .i64 (signV (firstSign P.L j (levelKinds lv)))) ∧
      LvAt P w w' lv B B8 x A c (signJ j (firstSign P.L j (levelKinds lv))) :=
  have h1 := h.b1
  have h2 := h.b2
  have h3 := h.lt
  (esign_any P wr j h.stp.rin (levelKinds lv) (levelKinds_le lv).2 (B + lv) 0 (levelKinds lv).length (by omega) (by omega) (levelKinds_le lv).1 (fun q hq => by simpa using h.kin q hq)).mono fun e w' ⟨he, hs⟩ => ⟨he, h.step hlv hrb hs⟩

theorem signJ_ge (i : Nat) (o : Option Nat) : i ≤ signJ i o := by cases o <;> simp [signJ]
/-- Something else is stored in the second struct. -/
theorem LvAt.store {P : Rp} {w wr : World} {lv B B8 : Nat} {x z : Expr} {A A' : Option Addr} {c c' j : Nat} (h : LvAt P w wr lv B B8 x A c j) (hlv : lv < 5) {i0 : Nat} (h0 : Rin P w i0) (hE : RdE (fun b => w.heap.size < b ∧ b ≠ B8) wr z A' c') :
    LvAt P w (set5 wr B8 z A' c') lv B B8 z A' c' j :=
  have b1 := h.b1
  have b2 := h.b2
  have hrb := h0.lt
  ⟨Stp.fin h0 (set5_kb _ _ _ _ _ _ _ h.stp.kb (by omega)) (set5_at h.stp.rin.blk (by omega)) h.stp.rin.le, (set5_heap _ _ _ _ _ _ (by omega)).trans h.res, set5_read _ _ _ _ _ _ h.x8, hE.move fun b hb _ => set5_heap _ _ _ _ _ _ hb.2,
    (World.cell?_of_block (w := wr) (a := ⟨B + 5, lv, none⟩) (set5_heap _ _ _ _ _ _ (by simp; omega))).trans h.row, fun q hq => (World.cell?_of_block (w := wr) (a := ⟨B + lv, q, none⟩) (set5_heap _ _ _ _ _ _ (by simp; omega))).trans (h.kin q hq), h.b1, h.b2⟩

theorem kids_two {S : Nat → Prop} {W : World} {y z : Expr} {A A' : Option Addr} {c c' : Nat} (h1 : RdE S W y A c) (h2 : RdE S W z A' c') :
    KidsAt S (W.alloc (.cells #[.int .i64 y.kind, .int .i64 y.n, .string y.name, .slice A y.kids.length c, .int .i64 (y.depth : Nat), .int .i64 z.kind, .int .i64 z.n, .string z.name, .slice A' z.kids.length c', .int .i64 (z.depth : Nat)] 110)) [(y, A, c), (z, A', c')] W.heap.size := by
  refine ⟨by simp, fun i hi => ?_, fun i hi => ?_⟩
  · match i, hi with
    | 0, _ => simp [go_sem]
    | 1, _ => simp [go_sem]
  · match i, hi with
    | 0, _ => exact h1.blw (below_alloc' (Below.refl _ _) _)
    | 1, _ => exact h2.blw (below_alloc' (Below.refl _ _) _)
theorem kids_one {S : Nat → Prop} {W : World} {y : Expr} {A : Option Addr} {c : Nat} (h1 : RdE S W y A c) :
    KidsAt S (W.alloc (.cells #[.int .i64 y.kind, .int .i64 y.n, .string y.name, .slice A y.kids.length c, .int .i64 (y.depth : Nat)] 110)) [(y, A, c)] W.heap.size := by
  refine ⟨by simp, fun i hi => ?_, fun i hi => ?_⟩
  · match i, hi with
    | 0, _ => simp [go_sem]
  · match i, hi with
    | 0, _ => exact h1.blw (below_alloc' (Below.refl _ _) _)

/-- Where the reader stands, for a measure. -/
def placeOf (P : Rp) (w : World) : Nat := match w.cell? ⟨P.rb, 1, none⟩ with | some (.int _ q) => q.toNat | _ => 0
theorem placeOf_at {P : Rp} {w : World} {i : Nat} (h : Rin P w i) : placeOf P w = i := by simp [placeOf, h.cA]
/-- At the head of level's loop. -/
def LvRel (P : Rp) (w : World) (sub : Nat → PR Expr) (lv B8 : Nat) (R : PR Expr) (t : Value) (wr : World) : Prop :=
  ∃ (x : Expr) (A : Option Addr) (c j f : Nat), t = .int .i64 (signV (firstSign P.L j (levelKinds lv))) ∧ LvAt P w wr lv (w.heap.size + 1) B8 x A c (signJ j (firstSign P.L j (levelKinds lv))) ∧
    loopL P.L sub lv f x j = R ∧ P.L.length + 1 ≤ f + j ∧ j ≤ P.L.length

set_option maxRecDepth 100000 in
set_option maxHeartbeats 2000000 in
theorem elevel_any (P : Rp) (d : Nat) (hd : d ≤ 40) (hS : ∀ (w : World) (i : Nat), Rin P w i → Calls Tryd.prog 100 #[.pointer (some ⟨P.rb, 0, none⟩), .int .i64 (40 - (d : Int))] w (SubQ P w (sglP P.L d i))) :
    ∀ (m lv : Nat), lv + m = 5 → ∀ (w : World) (i : Nat), Rin P w i → Calls Tryd.prog 62 #[.pointer (some ⟨P.rb, 0, none⟩), .int .i64 (lv : Nat), .int .i64 (40 - (d : Int))] w (SubQ P w (levP P.L (sglP P.L d) (5 - lv) i)) := by
  intro m
  induction m with
  | zero =>
    intro lv hlv w i h
    obtain rfl : lv = 5 := by omega
    have hV := fun W => elevels_any W
    have hI := fun W hW => hS W i hW
    have hrb := h.lt
    have e1 : levP P.L (sglP P.L d) (5 - 5) i = sglP P.L d i := rfl
    rw [e1]
    clear hS
    cases hr : sglP P.L d i with
    | err e j =>
      rw [hr] at hI
      go_enter Tryd.func62, Tryd.ntmps62
      go_wp2_with (first
        | (go_at_call 99; refine (hV _).mono ?_; intro e w1 hq; obtain ⟨rfl, hb, hl, hz⟩ := hq)
        | (go_at_call 100; refine (hI _ (h.below ((below_alloc' (Below.refl _ _) _).trans' hb))).mono ?_; intro e w2 hq; obtain ⟨rfl, hk⟩ := hq))
      exact ⟨rfl, rfl, (Kb.of_below ((below_alloc' (Below.refl _ _) _).trans' hb)).trans hk⟩
    | ok y j =>
      rw [hr] at hI
      go_enter Tryd.func62, Tryd.ntmps62
      go_wp2_with (first
        | (go_at_call 99; refine (hV _).mono ?_; intro e w1 hq; obtain ⟨rfl, hb, hl, hz⟩ := hq)
        | (go_at_call 100; refine (hI _ (h.below ((below_alloc' (Below.refl _ _) _).trans' hb))).mono ?_; intro e w2 hq; obtain ⟨A, c, rfl, hE, hk⟩ := hq; unfold rdVal; have hz1 : Zero5 w2 w.heap.size := (hk.kb.block _ (by have := hb.size; simp at this; omega) (by omega)).trans ((hb.block _ (by simp)).trans (Zero5.new w)); obtain ⟨⟨p0, p1, p2, p3, p4⟩, pf⟩ := hz1.cells))
      have hF : SubQ P w (.ok y j) _ _ := sub_fin h ((Stp.of_below h ((below_alloc' (Below.refl _ _) _).trans' hb)).trans hk) (hE.mono fun b hb' => by have := hb.size; simp at this; omega)
      exact bodyPost_ret (v := rdVal y A c) (by unfold rdVal; simp [results, Tryd.results62, go_sem, p0, p1, p2, p3, p4, pf]) rfl hF
  | succ m ih =>
    intro lv hlv w i h
    have hl5 : lv < 5 := by omega
    have hV := fun W => elevels_any W
    have hI : ∀ (w : World) (i : Nat), Rin P w i → Calls Tryd.prog 62 #[.pointer (some ⟨P.rb, 0, none⟩), .int .i64 ((lv : Int) + 1), .int .i64 (40 - (d : Int))] w (SubQ P w (levP P.L (sglP P.L d) (5 - (lv + 1)) i)) := by simpa using ih (lv + 1) (by omega)
    have hfit := levP_fits (L := P.L) (sg := sglP P.L d) (sglP_fits d) (5 - (lv + 1))
    have hrb := h.lt
    have hle := h.le
    have hlen := h.len
    obtain ⟨ hk4, hk20⟩ := levelKinds_le lv
    rw [levP_lt hl5]
    clear ih hS
    generalize levP P.L (sglP P.L d) (5 - (lv + 1)) = sub at hI hfit ⊢
    have hne : ((lv : Int) == 5) = false := by rw [beq_eq_false_iff_ne]; omega
    have hl0 : 0 ≤ (lv : Int) := by omega
    have hl1 : (lv : Int) < 5 := by omega
    have HL := Lib.hid hlv
    have HF := Lib.hid hfit
    clear hlv hfit
    have hI1 := fun W hW => hI W i hW
    have hf1 := HF.out i hle
    cases hr : sub i with
    | err e j =>
      rw [hr] at hI1
      go_enter Tryd.func62, Tryd.ntmps62
      go_wp2_with (first
        | (go_at_call 99; refine (hV _).mono ?_; intro e w1 hq; obtain ⟨rfl, hb, hl, hz⟩ := hq)
        | (go_at_call 62; refine (hI1 _ (h.below ((below_alloc' (Below.refl _ _) _).trans' hb))).mono ?_; intro e w2 hq; obtain ⟨rfl, hk⟩ := hq))
      exact ⟨rfl, rfl, (Kb.of_below ((below_alloc' (Below.refl _ _) _).trans' hb)).trans hk⟩
    | ok x j =>
      rw [hr] at hI1 hf1
      obtain ⟨hf1, hf2⟩ := hf1
      simp only
      obtain ⟨R, hR⟩ : ∃ R, R = loopL P.L sub lv (P.L.length + 1) x j := ⟨_, rfl⟩
      rw [← hR]
      have HRR := Lib.hid hR
      clear hR
      go_enter Tryd.func62, Tryd.ntmps62
      go_wp2_with (first
        | (go_at_call 99; refine (hV _).mono ?_; intro e w1 hq; obtain ⟨rfl, hb, hl, hz⟩ := hq)
        | (go_at_call 62; refine (hI1 _ (h.below ((below_alloc' (Below.refl _ _) _).trans' hb))).mono ?_; intro e w2 hq; obtain ⟨A, c, rfl, hE, hk⟩ := hq; unfold rdVal; have hM := lv_start (lv := lv) h hb hl hz hk hE hl5; have r0 := hM.row; have HZ := Lib.hid hz; clear hz)
        | (go_at_call 101; refine (lv_sign hM hl5 hrb).mono ?_; intro e w4 hq; obtain ⟨rfl, hM4⟩ := hq))
      have hrel0 : LvRel P w sub lv w2.heap.size R (.int .i64 (signV (firstSign P.L j (levelKinds lv)))) w4 := ⟨x, A, c, j, _, rfl, hM4, HRR.out.symm, by omega, hf2⟩
      clear hM r0 hE hk hb hl HZ hM4 hI1 hr hf1 hf2
      generalize w2.heap.size = B8 at hrel0 ⊢
      generalize signV (firstSign P.L j (levelKinds lv)) = sv at hrel0 ⊢
      have hV' := Lib.hid hV
      clear hV
      go_loopw [9] (fun t wr => LvRel P w sub lv B8 R t wr) (fun _ wr => P.L.length + 1 - placeOf P wr)
      case atStart => exact hrel0
      case round =>
        obtain ⟨y, A', c', j', f, rfl, hM, hR, hf, hj⟩ := hrel
        have hplace := placeOf_at hM.stp.rin
        obtain ⟨f', rfl⟩ : ∃ f', f = f' + 1 := ⟨f - 1, by omega⟩
        rw [loopL] at hR
        have hz1 : Zero5 wr w.heap.size := hM.res
        obtain ⟨⟨p0, p1, p2, p3, p4⟩, pf⟩ := hz1.cells
        obtain ⟨⟨q0, q1, q2, q3, q4⟩, qf⟩ := read_cells hM.x8
        cases hfs : firstSign P.L j' (levelKinds lv) with
        | none =>
          rw [hfs] at hR hM hplace
          simp only [signV, signJ] at hR hM hplace ⊢
          have HR := Lib.hid hR
          have HP := Lib.hid hplace
          clear hR hplace hfs
          go_wp2_with fail
          have hF := sub_fin h hM.stp (hM.rdx.mono fun b hb => hb.1)
          have HRo := HR.out
          rw [← HRo]
          exact bodyPost_ret (v := rdVal y A' c') (by unfold rdVal; simp [results, Tryd.results62, go_sem, p0, p1, p2, p3, p4, pf]) rfl hF
        | some k =>
          rw [hfs] at hR hM hplace
          simp only [signV, signJ] at hR hM hplace ⊢
          obtain ⟨hkm, hkt⟩ := firstSign_isT hfs
          have hk20' : k < 20 := by obtain ⟨q, hq, rfl⟩ := List.getElem_of_mem hkm; exact hk20 q hq
          have hjl := isT_lt hkt
          have hk0 : 0 ≤ (k : Int) := by omega
          have hI1 := fun W hW => hI W (j' + 1) hW
          have hf1 := HF.out (j' + 1) (by omega)
          cases hs : sub (j' + 1) with
          | err e j2 =>
            rw [hs] at hI1 hf1 hR
            simp only at hR
            have HR := Lib.hid hR
            have HP := Lib.hid hplace
            have HS := Lib.hid hs
            clear hR hplace hfs hs
            go_wp2_with fail
            have hwl : IntKind.i64.wrap ((lv : Int) + 1) = (lv : Int) + 1 := IntWalk.i64_in _ (by omega)
            refine wp_region_held_drew (S := fun _ => True) (by kernel_rfl) trivial (fun hHeld => ?_)
            refine wpAnyH_take (i := 0) (v := ?_) rfl (by kernel_rfl) (by kernel_rfl) (by kernel_rfl) (fun _ _ _ h => h) (Or.inl ⟨by rfl, ?_⟩) (by assumption) ?_
            rotate_left
            · intro w0 hS0
              go_simp
              try with_reducible rfl
            (try simp only [Act.put, List.setIfInBounds_toArray, List.set_cons_zero, List.set_cons_succ])
            refine wpAnyH_take (i := 1) (v := ?_) rfl (by kernel_rfl) (by kernel_rfl) (by kernel_rfl) (fun _ _ _ h => h) (Or.inl ⟨by rfl, ?_⟩) (by assumption) ?_
            rotate_left
            · intro w0 hS0
              go_simp
              try with_reducible rfl
            (try simp only [Act.put, List.setIfInBounds_toArray, List.set_cons_zero, List.set_cons_succ])
            refine wpAnyH_take (i := 3) (v := ?_) rfl (by kernel_rfl) (by kernel_rfl) (by kernel_rfl) (fun _ _ _ h => h) (Or.inl ⟨by rfl, ?_⟩) (by assumption) ?_
            rotate_left
            · intro w0 hS0
              go_simp
              try with_reducible rfl
            (try simp only [Act.put, List.setIfInBounds_toArray, List.set_cons_zero, List.set_cons_succ])
            refine wpAnyH_take (i := 4) (v := ?_) rfl (by kernel_rfl) (by kernel_rfl) (by kernel_rfl) (fun _ _ _ h => h) (Or.inl ⟨by rfl, ?_⟩) (by assumption) ?_
            rotate_left
            · intro w0 hS0
              go_simp
              try with_reducible rfl
            (try simp only [Act.put, List.setIfInBounds_toArray, List.set_cons_zero, List.set_cons_succ])
            refine wpAnyH_take (i := 5) (v := ?_) rfl (by kernel_rfl) (by kernel_rfl) (by kernel_rfl) (fun _ _ _ h => h) (Or.inl ⟨by rfl, ?_⟩) (by assumption) ?_
            rotate_left
            · intro w0 hS0
              go_simp
              try with_reducible rfl
            (try simp only [Act.put, List.setIfInBounds_toArray, List.set_cons_zero, List.set_cons_succ])
            refine wpAnyH_take (i := 6) (v := ?_) rfl (by kernel_rfl) (by kernel_rfl) (by kernel_rfl) (fun _ _ _ h => h) (Or.inl ⟨by rfl, ?_⟩) (by assumption) ?_
            rotate_left
            · intro w0 hS0
              go_simp
              try with_reducible rfl
            (try simp only [Act.put, List.setIfInBounds_toArray, List.set_cons_zero, List.set_cons_succ])
            refine wpAnyH_ready (rs := [2, 7]) (by kernel_rfl) (by simp) ?_
            refine AllReadyH.cons rfl (fun K hK => ?_) (AllReadyH.cons rfl (fun K hK => ?_) AllReadyH.nil)
            all_goals go_simp
            · refine hK.out _ _ trivial (fun hHeld => ?_)
              clear hK K
              (try simp only [Act.put, List.setIfInBounds_toArray, List.set_cons_zero, List.set_cons_succ])
              refine wpAnyH_ready (rs := [7]) (by kernel_rfl) (by simp) ?_
              refine AllReadyH.cons rfl (fun K hK => ?_) AllReadyH.nil
              go_simp
              go_at_call 62
              with_reducible refine (hI1 _ (hM.stp.rin.below (below_drew' (Below.refl _ _)))).mono ?_
              intro e w3 hq
              obtain ⟨rfl, hk⟩ := hq
              refine ⟨rfl, ?_⟩
              rw [← HR.out]
              exact ⟨rfl, (hM.stp.kb.blw (below_drew' (Below.refl _ _))).trans hk⟩
            · go_at_call 62
              with_reducible refine (hI1 _ (hM.stp.rin.below (below_drew' (Below.refl _ _)))).mono ?_
              intro e w3 hq
              obtain ⟨rfl, hk⟩ := hq
              refine ⟨rfl, ?_⟩
              rw [← HR.out]
              exact ⟨rfl, (hM.stp.kb.blw (below_drew' (Below.refl _ _))).trans hk⟩
          | ok z j2 =>
            rw [hs] at hI1 hf1 hR
            simp only at hR
            obtain ⟨hf1, hf2⟩ := hf1
            have HP := Lib.hid hplace
            have HS := Lib.hid hs
            clear hplace hfs hs
            have hMd : ∀ (S : Nat → Prop) (A3 : Option Addr) (c3 : Nat) (W : World) (b : Nat), Rin P W j2 → KidsAt S W [(y, A', c'), (z, A3, c3)] b → Calls Tryd.prog 102 #[.pointer (some ⟨P.rb, 0, none⟩), .int .i64 (k : Nat), .slice (some ⟨b, 0, none⟩) 2 2] W (MadeQ S W (mkE k [y, z] j2)) :=
              fun S A3 c3 W b h1 h2 => emade_any P W j2 h1 k hk20' [(y, A', c'), (z, A3, c3)] (by simp) b 2 S h2
            cases hm : mkE k [y, z] j2 with
            | err e j3 =>
              rw [hm] at hR hMd
              simp only at hR
              have HR := Lib.hid hR
              have HM := Lib.hid hm
              clear hR hm
              go_wp2_with fail
              have hwl : IntKind.i64.wrap ((lv : Int) + 1) = (lv : Int) + 1 := IntWalk.i64_in _ (by omega)
              refine wp_region_held_drew (S := fun _ => True) (by kernel_rfl) trivial (fun hHeld => ?_)
              refine wpAnyH_take (i := 0) (v := ?_) rfl (by kernel_rfl) (by kernel_rfl) (by kernel_rfl) (fun _ _ _ h => h) (Or.inl ⟨by rfl, ?_⟩) (by assumption) ?_
              rotate_left
              · intro w0 hS0
                go_simp
                try with_reducible rfl
              (try simp only [Act.put, List.setIfInBounds_toArray, List.set_cons_zero, List.set_cons_succ])
              refine wpAnyH_take (i := 1) (v := ?_) rfl (by kernel_rfl) (by kernel_rfl) (by kernel_rfl) (fun _ _ _ h => h) (Or.inl ⟨by rfl, ?_⟩) (by assumption) ?_
              rotate_left
              · intro w0 hS0
                go_simp
                try with_reducible rfl
              (try simp only [Act.put, List.setIfInBounds_toArray, List.set_cons_zero, List.set_cons_succ])
              refine wpAnyH_take (i := 3) (v := ?_) rfl (by kernel_rfl) (by kernel_rfl) (by kernel_rfl) (fun _ _ _ h => h) (Or.inl ⟨by rfl, ?_⟩) (by assumption) ?_
              rotate_left
              · intro w0 hS0
                go_simp
                try with_reducible rfl
              (try simp only [Act.put, List.setIfInBounds_toArray, List.set_cons_zero, List.set_cons_succ])
              refine wpAnyH_take (i := 4) (v := ?_) rfl (by kernel_rfl) (by kernel_rfl) (by kernel_rfl) (fun _ _ _ h => h) (Or.inl ⟨by rfl, ?_⟩) (by assumption) ?_
              rotate_left
              · intro w0 hS0
                go_simp
                try with_reducible rfl
              (try simp only [Act.put, List.setIfInBounds_toArray, List.set_cons_zero, List.set_cons_succ])
              refine wpAnyH_take (i := 5) (v := ?_) rfl (by kernel_rfl) (by kernel_rfl) (by kernel_rfl) (fun _ _ _ h => h) (Or.inl ⟨by rfl, ?_⟩) (by assumption) ?_
              rotate_left
              · intro w0 hS0
                go_simp
                try with_reducible rfl
              (try simp only [Act.put, List.setIfInBounds_toArray, List.set_cons_zero, List.set_cons_succ])
              refine wpAnyH_take (i := 6) (v := ?_) rfl (by kernel_rfl) (by kernel_rfl) (by kernel_rfl) (fun _ _ _ h => h) (Or.inl ⟨by rfl, ?_⟩) (by assumption) ?_
              rotate_left
              · intro w0 hS0
                go_simp
                try with_reducible rfl
              (try simp only [Act.put, List.setIfInBounds_toArray, List.set_cons_zero, List.set_cons_succ])
              refine wpAnyH_ready (rs := [2, 7]) (by kernel_rfl) (by simp) ?_
              refine AllReadyH.cons rfl (fun K hK => ?_) (AllReadyH.cons rfl (fun K hK => ?_) AllReadyH.nil)
              all_goals go_simp
              refine hK.out _ _ trivial (fun hHeld => ?_)
              clear hK K
              (try simp only [Act.put, List.setIfInBounds_toArray, List.set_cons_zero, List.set_cons_succ])
              refine wpAnyH_ready (rs := [7]) (by kernel_rfl) (by simp) ?_
              refine AllReadyH.cons rfl (fun K hK => ?_) AllReadyH.nil
              go_simp
              go_at_call 62
              with_reducible refine (hI1 _ (hM.stp.rin.below (below_drew' (Below.refl _ _)))).mono ?_
              intro e w3 hq
              obtain ⟨A3, c3, rfl, hE3, hk⟩ := hq
              unfold rdVal
              have hM3 := hM.step hl5 hrb (Stp.from (below_drew' (Below.refl _ _)) hk)
              obtain ⟨⟨s0, s1, s2, s3, s4⟩, sf⟩ := read_cells hM3.x8
              refine hK.out _ _ trivial (fun hHeld => ?_)
              clear hK K
              (try simp only [Act.put, List.setIfInBounds_toArray, List.set_cons_zero, List.set_cons_succ])
              rotate_left
              go_at_call 62
              with_reducible refine (hI1 _ (hM.stp.rin.below (below_drew' (Below.refl _ _)))).mono ?_
              intro e w3 hq
              obtain ⟨A3, c3, rfl, hE3, hk⟩ := hq
              unfold rdVal
              have hM3 := hM.step hl5 hrb (Stp.from (below_drew' (Below.refl _ _)) hk)
              obtain ⟨⟨s0, s1, s2, s3, s4⟩, sf⟩ := read_cells hM3.x8
              refine hK.out _ _ trivial (fun hHeld => ?_)
              clear hK K
              (try simp only [Act.put, List.setIfInBounds_toArray, List.set_cons_zero, List.set_cons_succ])
              refine wpAnyH_ready (rs := [2]) (by kernel_rfl) (by simp) ?_
              refine AllReadyH.cons rfl (fun K hK => ?_) AllReadyH.nil
              go_simp
              refine hK.out _ _ trivial (fun hHeld => ?_)
              clear hK K
              (try simp only [Act.put, List.setIfInBounds_toArray, List.set_cons_zero, List.set_cons_succ])
              all_goals
                refine wpAnyH_ready (rs := [8]) (by kernel_rfl) (by simp) ?_
                refine AllReadyH.cons rfl (fun K hK => ?_) AllReadyH.nil
                go_simp
                refine hK.out _ _ trivial (fun hHeld => ?_)
                clear hK K
                (try simp only [Act.put, List.setIfInBounds_toArray, List.set_cons_zero, List.set_cons_succ])
                refine wpAnyH_ready (rs := [9]) (by kernel_rfl) (by simp) ?_
                refine AllReadyH.cons rfl (fun K hK => ?_) AllReadyH.nil
                go_simp
                go_at_call 102
                with_reducible refine (hMd _ A3 c3 _ _ (hk.rin.below (below_alloc' (Below.refl _ _) _)) (kids_two (S := fun b => w.heap.size < b ∧ b ≠ B8) hM3.rdx (hE3.mono fun b hb => by have h8 := hM.lt.2; have h1 := hM.b1; have h2 := hM.b2; simp at hb; omega))).mono ?_
                intro e w5 hq
                obtain ⟨hb5, rfl⟩ := hq
                refine ⟨rfl, ?_⟩
                rw [← HR.out]
                exact ⟨rfl, hM3.stp.kb.blw ((below_alloc' (Below.refl _ _) _).trans' hb5)⟩
            | ok z3 j3 =>
              rw [hm] at hR hMd
              simp only at hR
              have hfm := mkE_fits (L := P.L) (i := j' + 1) (k := k) (j := j2) (kids := [y, z]) hf1 hf2
              rw [hm] at hfm
              obtain ⟨hfm1, hfm2⟩ := hfm
              have hj23 : j3 = j2 := by unfold mkE at hm; split at hm <;> cases hm; rfl
              subst hj23
              have HR := Lib.hid hR
              have HM := Lib.hid hm
              clear hR hm
              have hl2 : ((lv : Int) == 2) = decide (lv = 2) := by rw [Bool.eq_iff_iff]; simp; omega
              cases h2b : decide (lv = 2)
              all_goals
                rw [h2b] at hl2
                have H2 := Lib.hid h2b
                clear h2b
                go_wp2_with fail
                have hwl : IntKind.i64.wrap ((lv : Int) + 1) = (lv : Int) + 1 := IntWalk.i64_in _ (by omega)
                refine wp_region_held_drew (S := fun _ => True) (by kernel_rfl) trivial (fun hHeld => ?_)
                refine wpAnyH_take (i := 0) (v := ?_) rfl (by kernel_rfl) (by kernel_rfl) (by kernel_rfl) (fun _ _ _ h => h) (Or.inl ⟨by rfl, ?_⟩) (by assumption) ?_
                rotate_left
                · intro w0 hS0
                  go_simp
                  try with_reducible rfl
                (try simp only [Act.put, List.setIfInBounds_toArray, List.set_cons_zero, List.set_cons_succ])
                refine wpAnyH_take (i := 1) (v := ?_) rfl (by kernel_rfl) (by kernel_rfl) (by kernel_rfl) (fun _ _ _ h => h) (Or.inl ⟨by rfl, ?_⟩) (by assumption) ?_
                rotate_left
                · intro w0 hS0
                  go_simp
                  try with_reducible rfl
                (try simp only [Act.put, List.setIfInBounds_toArray, List.set_cons_zero, List.set_cons_succ])
                refine wpAnyH_take (i := 3) (v := ?_) rfl (by kernel_rfl) (by kernel_rfl) (by kernel_rfl) (fun _ _ _ h => h) (Or.inl ⟨by rfl, ?_⟩) (by assumption) ?_
                rotate_left
                · intro w0 hS0
                  go_simp
                  try with_reducible rfl
                (try simp only [Act.put, List.setIfInBounds_toArray, List.set_cons_zero, List.set_cons_succ])
                refine wpAnyH_take (i := 4) (v := ?_) rfl (by kernel_rfl) (by kernel_rfl) (by kernel_rfl) (fun _ _ _ h => h) (Or.inl ⟨by rfl, ?_⟩) (by assumption) ?_
                rotate_left
                · intro w0 hS0
                  go_simp
                  try with_reducible rfl
                (try simp only [Act.put, List.setIfInBounds_toArray, List.set_cons_zero, List.set_cons_succ])
                refine wpAnyH_take (i := 5) (v := ?_) rfl (by kernel_rfl) (by kernel_rfl) (by kernel_rfl) (fun _ _ _ h => h) (Or.inl ⟨by rfl, ?_⟩) (by assumption) ?_
                rotate_left
                · intro w0 hS0
                  go_simp
                  try with_reducible rfl
                (try simp only [Act.put, List.setIfInBounds_toArray, List.set_cons_zero, List.set_cons_succ])
                refine wpAnyH_take (i := 6) (v := ?_) rfl (by kernel_rfl) (by kernel_rfl) (by kernel_rfl) (fun _ _ _ h => h) (Or.inl ⟨by rfl, ?_⟩) (by assumption) ?_
                rotate_left
                · intro w0 hS0
                  go_simp
                  try with_reducible rfl
                (try simp only [Act.put, List.setIfInBounds_toArray, List.set_cons_zero, List.set_cons_succ])
                refine wpAnyH_ready (rs := [2, 7]) (by kernel_rfl) (by simp) ?_
                refine AllReadyH.cons rfl (fun K hK => ?_) (AllReadyH.cons rfl (fun K hK => ?_) AllReadyH.nil)
                all_goals go_simp
                refine hK.out _ _ trivial (fun hHeld => ?_)
                clear hK K
                (try simp only [Act.put, List.setIfInBounds_toArray, List.set_cons_zero, List.set_cons_succ])
                refine wpAnyH_ready (rs := [7]) (by kernel_rfl) (by simp) ?_
                refine AllReadyH.cons rfl (fun K hK => ?_) AllReadyH.nil
                go_simp
                go_at_call 62
                with_reducible refine (hI1 _ (hM.stp.rin.below (below_drew' (Below.refl _ _)))).mono ?_
                intro e w3 hq
                obtain ⟨A3, c3, rfl, hE3, hk⟩ := hq
                unfold rdVal
                have hM3 := hM.step hl5 hrb (Stp.from (below_drew' (Below.refl _ _)) hk)
                obtain ⟨⟨s0, s1, s2, s3, s4⟩, sf⟩ := read_cells hM3.x8
                refine hK.out _ _ trivial (fun hHeld => ?_)
                clear hK K
                (try simp only [Act.put, List.setIfInBounds_toArray, List.set_cons_zero, List.set_cons_succ])
                rotate_left
                go_at_call 62
                with_reducible refine (hI1 _ (hM.stp.rin.below (below_drew' (Below.refl _ _)))).mono ?_
                intro e w3 hq
                obtain ⟨A3, c3, rfl, hE3, hk⟩ := hq
                unfold rdVal
                have hM3 := hM.step hl5 hrb (Stp.from (below_drew' (Below.refl _ _)) hk)
                obtain ⟨⟨s0, s1, s2, s3, s4⟩, sf⟩ := read_cells hM3.x8
                refine hK.out _ _ trivial (fun hHeld => ?_)
                clear hK K
                (try simp only [Act.put, List.setIfInBounds_toArray, List.set_cons_zero, List.set_cons_succ])
                refine wpAnyH_ready (rs := [2]) (by kernel_rfl) (by simp) ?_
                refine AllReadyH.cons rfl (fun K hK => ?_) AllReadyH.nil
                go_simp
                refine hK.out _ _ trivial (fun hHeld => ?_)
                clear hK K
                (try simp only [Act.put, List.setIfInBounds_toArray, List.set_cons_zero, List.set_cons_succ])
              all_goals
                refine wpAnyH_ready (rs := [8]) (by kernel_rfl) (by simp) ?_
                refine AllReadyH.cons rfl (fun K hK => ?_) AllReadyH.nil
                go_simp
                refine hK.out _ _ trivial (fun hHeld => ?_)
                clear hK K
                (try simp only [Act.put, List.setIfInBounds_toArray, List.set_cons_zero, List.set_cons_succ])
                refine wpAnyH_ready (rs := [9]) (by kernel_rfl) (by simp) ?_
                refine AllReadyH.cons rfl (fun K hK => ?_) AllReadyH.nil
                go_simp
                go_at_call 102
                with_reducible refine (hMd _ A3 c3 _ _ (hk.rin.below (below_alloc' (Below.refl _ _) _)) (kids_two (S := fun b => w.heap.size < b ∧ b ≠ B8) hM3.rdx (hE3.mono fun b hb => by have h8 := hM.lt.2; have h1 := hM.b1; have h2 := hM.b2; simp at hb; omega))).mono ?_
                intro e w5 hq
                obtain ⟨hb5, A5, c5, rfl, hE5⟩ := hq
                unfold rdVal
                have hM5 := hM3.step hl5 hrb (Stp.of_below hM3.stp.rin ((below_alloc' (Below.refl _ _) _).trans' hb5))
                obtain ⟨⟨t0, t1, t2, t3, t4⟩, tf⟩ := read_cells hM5.x8
                refine hK.out _ _ trivial (fun hHeld => ?_)
                clear hK K
                (try simp only [Act.put, List.setIfInBounds_toArray, List.set_cons_zero, List.set_cons_succ])
                refine wpAnyH_ready (rs := [10]) (by kernel_rfl) (by simp) ?_
                refine AllReadyH.cons rfl (fun K hK => ?_) AllReadyH.nil
                go_simp
                refine hK.out _ _ trivial (fun hHeld => ?_)
                clear hK K
                (try simp only [Act.put, List.setIfInBounds_toArray, List.set_cons_zero, List.set_cons_succ])
                refine wpAnyH_done (by kernel_rfl) ?_ _
                have hs3 := lt_of_block hM3.x8
                have hM6 := hM5.store hl5 h (hE5.mono fun b hb => by have h1 := hM.b1; have h2 := hM.b2; simp at hb; rcases hb with hb | hb <;> omega)
                unfold set5 at hM6
                generalize ((((w5.setCell ⟨B8, 0, none⟩ (.int .i64 z3.kind)).setCell ⟨B8, 1, none⟩ (.int .i64 z3.n)).setCell ⟨B8, 2, none⟩ (.string z3.name)).setCell ⟨B8, 3, none⟩ (.slice A5 z3.kids.length c5)).setCell ⟨B8, 4, none⟩ (.int .i64 (z3.depth : Nat)) = w6 at hM6 ⊢
                have r6 := hM6.row
                have hz6 : Zero5 w6 w.heap.size := hM6.res
                clear hE3 hE5 hM3 hM5 t0 t1 t2 t3 t4 tf s0 s1 s2 s3 s4 sf q0 q1 q2 q3 q4 qf p0 p1 p2 p3 p4 pf hwl hb5 hk
                obtain ⟨⟨p0, p1, p2, p3, p4⟩, pf⟩ := hz6.cells
                obtain ⟨⟨q0, q1, q2, q3, q4⟩, qf⟩ := read_cells hM6.x8
                clear hMd hI1 hI
              all_goals first
                | (have hx : ((lv : Int) == 2) = true := hl2
                   go_wp2_with fail
                   have hF := sub_fin h hM6.stp (hM6.rdx.mono fun b hb => hb.1)
                   have HRo := HR.out
                   rw [if_pos (of_decide_eq_true H2.out)] at HRo
                   rw [← HRo]
                   exact bodyPost_ret (v := rdVal z3 A5 c5) (by unfold rdVal; simp [results, Tryd.results62, go_sem, p0, p1, p2, p3, p4, pf]) rfl hF)
                | (have hx : ((lv : Int) == 2) = false := hl2
                   go_wp2_with (go_at_call 101; refine (lv_sign hM6 hl5 hrb).mono ?_; intro e w7 hq; obtain ⟨rfl, hM7⟩ := hq)
                   have hRn : loopL P.L sub lv f' z3 j3 = R := by have hh := HR.out; rw [if_neg (of_decide_eq_false H2.out)] at hh; exact hh
                   have e1 := placeOf_at hM7.stp.rin
                   have e2 := HP.out
                   have e3 := signJ_ge j3 (firstSign P.L j3 (levelKinds lv))
                   have e4 := hM7.stp.rin.le
                   have hRel : LvRel P w sub lv B8 R (.int .i64 (signV (firstSign P.L j3 (levelKinds lv)))) w7 := ⟨z3, A5, c5, j3, f', rfl, hM7, hRn, by omega, hfm2⟩
                   clear hRn
                   have E1 := Lib.hid e1
                   have E2 := Lib.hid e2
                   clear e1 e2
                   go_roundw
                   case rel => exact hRel
                   case measure => rw [E1.out, E2.out]; omega)
end Go.Proofs.YtfdpkmpnfalggaaDoor
