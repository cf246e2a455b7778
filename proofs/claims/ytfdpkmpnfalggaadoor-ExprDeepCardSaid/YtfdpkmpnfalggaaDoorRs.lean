/- The reader's sign and made, and the levels, by contracts. -/
import Derived.Test.YtfdpkmpnfalggaaDoorRd
import Derived.OwnWalk
set_option linter.unusedVariables false
set_option linter.unusedSimpArgs false
namespace Go.Proofs.YtfdpkmpnfalggaaDoor
open Go.RowKit

def signV : Option Nat → Int | some k => (k : Int) | none => -1
def signJ (i : Nat) : Option Nat → Nat | some _ => i + 1 | none => i
theorem firstSign_hit {L : List Tok} {i : Nat} : ∀ {ks : List Nat} {k : Nat} (hk : k < ks.length), isT L i (formText ks[k]) = true → (∀ j (hj : j < ks.length), j < k → isT L i (formText ks[j]) = false) → firstSign L i ks = some ks[k]
  | a :: ks, 0, hk, h, hn => by simp only [List.getElem_cons_zero] at h ⊢; unfold firstSign; rw [if_pos h]
  | a :: ks, k + 1, hk, h, hn => by
    have h0 := hn 0 (by simp) (by omega)
    simp only [List.getElem_cons_zero] at h0
    unfold firstSign
    rw [if_neg (by rw [h0]; simp)]
    simp only [List.getElem_cons_succ] at h ⊢
    exact firstSign_hit (by simpa using hk) h fun j hj hjk => by have := hn (j + 1) (by simpa using hj) (by omega); simpa using this
theorem firstSign_miss {L : List Tok} {i : Nat} : ∀ {ks : List Nat}, (∀ j (hj : j < ks.length), isT L i (formText ks[j]) = false) → firstSign L i ks = none
  | [], _ => rfl
  | a :: ks, hn => by
    have h0 := hn 0 (by simp)
    simp only [List.getElem_cons_zero] at h0
    unfold firstSign
    rw [if_neg (by rw [h0]; simp)]
    exact firstSign_miss fun j hj => by have := hn (j + 1) (by simpa using hj); simpa using this

theorem esign_any (P : Rp) (w : World) (i : Nat) (h : Rin P w i) (ks : List Nat) (hks : ∀ j (hj : j < ks.length), ks[j] < 20) (b o c : Nat) (hb : b < w.heap.size) (hbn : b ≠ P.rb) (hl : ks.length ≤ 4)
    (hc : ∀ j (hj : j < ks.length), w.cell? ⟨b, o + j, none⟩ = some (.int .i64 (ks[j] : Nat))) :
    Calls Tryd.prog 101 #[.pointer (some ⟨P.rb, 0, none⟩), .slice (some ⟨b, o, none⟩) ks.length c] w fun e w' => e = .returned (.int .i64 (signV (firstSign P.L i ks))) ∧ Stp P w w' (signJ i (firstSign P.L i ks)) := by
  go_enter Tryd.func101, Tryd.ntmps101
  go_wp2
  go_loopw [9] (fun t wr => (∃ k : Nat, k ≤ ks.length ∧ t = .int .i64 k ∧ ∀ j (hj : j < ks.length), j < k → isT P.L i (formText ks[j]) = false) ∧ Stp P w wr i) (fun t _ => ks.length - (intOf t).toNat)
  case atStart => exact ⟨⟨0, Nat.zero_le _, rfl, fun j _ hj => absurd hj (Nat.not_lt_zero j)⟩, Stp.refl h⟩
  case round =>
    obtain ⟨⟨k, hk, rfl, hall⟩, hS⟩ := hrel
    by_cases hlt : k < ks.length
    · have c0 : wr.cell? ⟨b, o + k, none⟩ = some (.int .i64 (ks[k] : Nat)) := (hS.kb.cell hb hbn).trans (hc k hlt)
      have hq := hks k hlt
      have ft := formCells_text ks[k] hq
      have hF := fun W => forms_any W
      have hT := fun W hW => Took_any P W i hW (formText ks[k])
      have hB : ∀ o, Below wr.heap.size wr (wr.alloc o) := fun o => below_alloc' (Below.refl _ _) o
      have HA := Lib.hid hall
      have HC := Lib.hid hc
      have HK := Lib.hid hks
      have HS := Lib.hid hS
      have hr := hS.rin
      clear hall hc hks hS
      have hx : isT P.L i (formText ks[k]) = true ∨ isT P.L i (formText ks[k]) = false := by cases isT P.L i (formText ks[k]) <;> simp
      have hcell : (wr.alloc (.cells formCells 117)).cell? ⟨wr.heap.size, ks[k] * 2 + 1, none⟩ = some (.string (formText ks[k])) := by
        simp [World.cell?, World.alloc, -World.alloc_eq, ft]
      clear ft
      generalize hkk : ks[k] = q at c0 hq hT hx hcell
      generalize hft : formText q = tx at hT hx hcell
      have HQ := Lib.hid hkk
      have HT := Lib.hid hft
      clear hkk hft
      rcases hx with hx | hx
      · rw [hx] at hT
        go_wp2_with (first
          | (go_at_call 67; refine (hF _).mono ?_; rintro e w1 ⟨rfl, rfl⟩)
          | (go_at_call 122; refine (hT _ (hr.below (hB _))).mono ?_; rintro e w2 ⟨rfl, hb2⟩))
        go_ret
        have hh := firstSign_hit (L := P.L) (i := i) (ks := ks) (k := k) hlt (by rw [HQ.out, HT.out]; exact hx) HA.out
        rw [hh, HQ.out]
        rw [if_pos trivial] at hb2
        exact ⟨rfl, HS.out.trans (Stp.from (hB _) hb2)⟩
      · rw [hx] at hT
        go_wp2_with (first
          | (go_at_call 67; refine (hF _).mono ?_; rintro e w1 ⟨rfl, rfl⟩)
          | (go_at_call 122; refine (hT _ (hr.below (hB _))).mono ?_; rintro e w2 ⟨rfl, hb2⟩))
        go_roundw
        rw [if_neg (by decide)] at hb2
        case rel => exact ⟨⟨k + 1, by omega, by go_num, fun j hj hjk => if e : j = k then by subst e; rw [HQ.out, HT.out]; exact hx else HA.out j hj (by omega)⟩, HS.out.trans (Stp.from (hB _) hb2)⟩
        case measure => simp only [intOf]; omega
    · go_wp2
      go_ret
      have hm := firstSign_miss (L := P.L) (i := i) (ks := ks) fun j hj => hall j hj (by omega)
      rw [hm]
      exact ⟨rfl, hS⟩

/-! ### made -/
/-- An expression that was read, as a value; its Kids' slice is open. -/
def rdVal (x : Expr) (A : Option Addr) (c : Nat) : Value := .agg #[.int .i64 x.kind, .int .i64 x.n, .string x.name, .slice A x.kids.length c, .int .i64 (x.depth : Nat)]
def exL (x : Expr) (A : Option Addr) (c : Nat) : List Value := [.int .i64 x.kind, .int .i64 x.n, .string x.name, .slice A x.kids.length c]
/-- The cells of an expression that was read. -/
def RdE (S : Nat → Prop) (w : World) (x : Expr) (A : Option Addr) (c : Nat) : Prop := RdL S w x.d (exL x A c) ∧ x.depth ≤ 40
theorem RdE.move {S : Nat → Prop} {w w' : World} {x : Expr} {A : Option Addr} {c : Nat} (h : RdE S w x A c) (hm : ∀ b, S b → b < w.heap.size → w'.heap[b]? = w.heap[b]?) : RdE S w' x A c := ⟨h.1.move hm, h.2⟩
theorem RdE.mono {S S' : Nat → Prop} {w : World} {x : Expr} {A : Option Addr} {c : Nat} (h : RdE S w x A c) (hs : ∀ b, S b → S' b) : RdE S' w x A c := ⟨h.1.mono hs, h.2⟩
theorem RdE.lt {S : Nat → Prop} {w : World} {x : Expr} {A : Option Addr} {c : Nat} (h : RdE S w x A c) : RdE (fun b => S b ∧ b < w.heap.size) w x A c := ⟨h.1.lt, h.2⟩
theorem RdE.kb {S : Nat → Prop} {rb : Nat} {w w' : World} {x : Expr} {A : Option Addr} {c : Nat} (h : RdE S w x A c) (k : Kb rb w w') (hs : ∀ b, S b → b ≠ rb) : RdE S w' x A c := h.move fun b hb hl => k.block b hl (hs b hb)
theorem RdE.blw {S : Nat → Prop} {w w' : World} {x : Expr} {A : Option Addr} {c : Nat} (h : RdE S w x A c) (k : Below w.heap.size w w') : RdE S w' x A c := h.move fun b _ hl => k.block b hl

theorem depths_snoc (l : List Expr) (x : Expr) : Expr.depths (l ++ [x]) = max (Expr.depths l) x.depth := by
  induction l with
  | nil => simp [Expr.depths]
  | cons a l ih => simp only [List.cons_append, Expr.depths, ih]; omega
theorem depths_take {l : List Expr} {k : Nat} (h : k < l.length) : Expr.depths (l.take (k + 1)) = max (Expr.depths (l.take k)) l[k].depth := by
  rw [List.take_succ_eq_append_getElem h, depths_snoc]
theorem depths_le {l : List Expr} {m : Nat} (h : ∀ j (hj : j < l.length), l[j].depth ≤ m) : Expr.depths l ≤ m := by
  induction l with
  | nil => simp [Expr.depths]
  | cons a l ih =>
    have h0 := h 0 (by simp)
    have h1 := ih fun j hj => by have := h (j + 1) (by simpa using hj); simpa using this
    simp only [List.getElem_cons_zero] at h0
    simp only [Expr.depths]; omega

abbrev Kid := Expr × Option Addr × Nat
def Kid.cells (q : Kid) : List Value := exL q.1 q.2.1 q.2.2
def kidCells (ks : List Kid) : List Value := ks.flatMap Kid.cells
theorem kidCells_length (ks : List Kid) : (kidCells ks).length = ks.length * 4 := by
  induction ks with
  | nil => rfl
  | cons q ks ih => rw [kidCells, List.flatMap_cons, List.length_append, ← kidCells, ih]; simp [Kid.cells, exL]; omega
theorem kidCells_at : ∀ (ks : List Kid) (i j : Nat) (hi : i < ks.length), j < 4 → (kidCells ks)[i * 4 + j]? = (Kid.cells ks[i])[j]?
  | q :: ks, 0, j, hi, hj => by
    rw [kidCells, List.flatMap_cons, List.getElem?_append_left (by simp [Kid.cells, exL]; omega)]; simp
  | q :: ks, i + 1, j, hi, hj => by
    rw [kidCells, List.flatMap_cons, List.getElem?_append_right (by simp [Kid.cells, exL]; omega), ← kidCells]
    have := kidCells_at ks i j (by simpa using hi) hj
    simp only [List.getElem_cons_succ]
    rw [← this]; congr 1; simp [Kid.cells, exL]; omega
theorem kidCells_take {ks : List Kid} {k : Nat} (h : k < ks.length) : kidCells (ks.take (k + 1)) = kidCells (ks.take k) ++ Kid.cells ks[k] := by
  rw [List.take_succ_eq_append_getElem h, kidCells, List.flatMap_append]; simp [kidCells]
theorem infoE : (Tryd.prog.info? 24).map (fun i => (i.zero, i.size, i.bytes)) = some (some (.agg #[.int .i64 0, .int .i64 0, .string ⟨#[]⟩, .slice none 0 0]), 4, 56) := by kernel_rfl
theorem cells_set {w : World} {b : Nat} {cs : Array Value} {t : TypeId} (h : w.heap[b]? = some (.cells cs t (0, 0))) (j : Nat) (u : Value) : (w.setCell ⟨b, j, none⟩ u).heap[b]? = some (.cells (cs.setIfInBounds j u) t (0, 0)) := by
  have hlt := lt_of_block h
  have h' : w.heap[b] = .cells cs t (0, 0) := by simpa [Array.getElem?_eq_getElem hlt] using h
  show (w.heap.modify b _)[b]? = _
  rw [Array.getElem?_eq_getElem (by simpa using hlt), Array.getElem_modify_self, h']
  rfl

/-- Kids as the variadic parameter takes them. -/
structure KidsAt (S : Nat → Prop) (w : World) (ks : List Kid) (b : Nat) : Prop where
  lt : b < w.heap.size
  cell : ∀ i (hi : i < ks.length), w.cell? ⟨b, i * 5, none⟩ = some (.int .i64 ks[i].1.kind) ∧ w.cell? ⟨b, i * 5 + 1, none⟩ = some (.int .i64 ks[i].1.n) ∧ w.cell? ⟨b, i * 5 + 2, none⟩ = some (.string ks[i].1.name) ∧
    w.cell? ⟨b, i * 5 + 3, none⟩ = some (.slice ks[i].2.1 ks[i].1.kids.length ks[i].2.2) ∧ w.cell? ⟨b, i * 5 + 4, none⟩ = some (.int .i64 (ks[i].1.depth : Nat))
  rd : ∀ i (hi : i < ks.length), RdE S w ks[i].1 ks[i].2.1 ks[i].2.2

/-- In the middle of made's loop. -/
structure MadeAt (w wr : World) (kind : Nat) (ks : List Kid) (k : Nat) (v : Value) : Prop where
  blw : Below w.heap.size w wr
  res : wr.heap[w.heap.size]? = some (.cells #[.int .i64 0, .int .i64 0, .string ⟨#[]⟩, .slice none 0 0, .int .i64 0] 110 (0, 0))
  out : wr.heap[w.heap.size + 1]? = some (.cells #[.int .i64 (kind : Nat), .int .i64 0, .string ⟨#[]⟩, v, .int .i64 ((Expr.depths ((ks.take k).map (·.1)) : Nat) + 1 : Int)] 110 (0, 0))
  own : wr.ownsRow (w.heap.size + 2) 24 4 v k (kidCells (ks.take k))

/-- Behind the append. -/
theorem MadeAt.mid {w wr w1 : World} {kind k : Nat} {ks : List Kid} {v : Value} {o1 o2 : Obj} (h : MadeAt w wr kind ks k v) (hg : ((wr.alloc o1).alloc o2).grownBy w1 v.ownBlock) :
    Below w.heap.size w w1 ∧ w1.heap[w.heap.size]? = some (.cells #[.int .i64 0, .int .i64 0, .string ⟨#[]⟩, .slice none 0 0, .int .i64 0] 110 (0, 0)) ∧
    w1.heap[w.heap.size + 1]? = some (.cells #[.int .i64 (kind : Nat), .int .i64 0, .string ⟨#[]⟩, v, .int .i64 ((Expr.depths ((ks.take k).map (·.1)) : Nat) + 1 : Int)] 110 (0, 0)) ∧
    w1.heap[wr.heap.size]? = some o1 ∧ wr.heap.size < w1.heap.size := by
  have hl := h.own.lt
  have h1 := lt_of_block h.res
  have h2 := lt_of_block h.out
  have hs : ((wr.alloc o1).alloc o2).heap.size = wr.heap.size + 2 := by simp
  have hz := hg.size
  have hb : ∀ j, j < w.heap.size + 2 ∨ j = wr.heap.size → w1.heap[j]? = ((wr.alloc o1).alloc o2).heap[j]? := fun j hj => hg.block j (by omega) (fun e => by have := hl j e.symm; omega)
  refine ⟨((below_alloc' (below_alloc' h.blw _) _)).grown hg (by omega) (fun j e => by have := hl j e; omega), ?_, ?_, ?_, by omega⟩
  · rw [hb _ (by omega), Below.heap_alloc _ _ _ (by simp; omega), Below.heap_alloc _ _ _ (by omega)]; exact h.res
  · rw [hb _ (by omega), Below.heap_alloc _ _ _ (by simp; omega), Below.heap_alloc _ _ _ (by omega)]; exact h.out
  · rw [hb _ (by omega), Below.heap_alloc _ _ _ (by simp)]; exact heap_alloc_new _ _
/-- Behind the round. -/
theorem MadeAt.next {w wr w1 : World} {kind k D : Nat} {ks : List Kid} {v v' : Value} {o1 o2 : Obj} (h : MadeAt w wr kind ks k v) (hg : ((wr.alloc o1).alloc o2).grownBy w1 v.ownBlock) (hk : k < ks.length)
    (ho : w1.ownsRow (w.heap.size + 2) 24 4 v' (k + 1) (kidCells (ks.take k) ++ Kid.cells ks[k])) (hD : D = Expr.depths ((ks.take (k + 1)).map (·.1))) :
    MadeAt w ((w1.setCell ⟨w.heap.size + 1, 3, none⟩ v').setCell ⟨w.heap.size + 1, 4, none⟩ (.int .i64 ((D : Nat) + 1 : Int))) kind ks (k + 1) v' := by
  obtain ⟨m1, m2, m3, m4, m5⟩ := h.mid hg
  refine ⟨below_set' (below_set' m1 (by omega)) (by omega), ?_, ?_, ?_⟩
  · rw [Below.heap_setCell _ _ _ _ (by simp), Below.heap_setCell _ _ _ _ (by simp)]; exact m2
  · have := cells_set (cells_set m3 3 v') 4 (.int .i64 ((D : Nat) + 1 : Int))
    rw [this, hD]; rfl
  · rw [kidCells_take hk]
    exact ownsRow_setCell_below (ownsRow_setCell_below ho (by simp) _) (by simp) _

/-- Behind the loop: the new Kids read as the given ones. -/
theorem MadeAt.done {S : Nat → Prop} {w wr : World} {kind b : Nat} {ks : List Kid} {v : Value} (h : MadeAt w wr kind ks ks.length v) (hK : KidsAt S w ks b) :
    ∃ A cap, v = .slice A ks.length cap ∧ RdV (fun b => (S b ∧ b < w.heap.size) ∨ w.heap.size + 2 ≤ b) wr (.l 4 (Expr.ds (ks.map (·.1)))) (.slice A ks.length cap) := by
  have hown := h.own
  rw [List.take_length] at hown
  obtain ⟨hl, ⟨rfl, h0⟩ | ⟨g, cap, cur, rfl, hg, _, hcap, hmax, _, _⟩⟩ := id hown
  · refine ⟨none, 0, by rw [h0], ?_⟩
    have : ks = [] := List.eq_nil_of_length_eq_zero h0
    subst this
    exact .l0 4 none 0
  · refine ⟨_, _, rfl, ?_⟩
    have hn : (Expr.ds (ks.map (·.1))).length = ks.length := by simp
    have hat : ∀ i (hi : i < ks.length), (Expr.ds (ks.map (·.1)))[i]? = some ks[i].1.d := fun i hi => by
      rw [Expr.ds_eq, List.getElem?_map, List.getElem?_map, List.getElem?_eq_getElem hi]; rfl
    have := RdV.l (S := fun b => (S b ∧ b < w.heap.size) ∨ w.heap.size + 2 ≤ b) (w := wr) 4 (Expr.ds (ks.map (·.1))) g 0 cap (fun i j => ((kidCells ks)[i * 4 + j]?).getD undef) (by omega) (by omega) (Or.inr hg) (by omega)
      (fun i x hx => by
        have hi : i < ks.length := by have := (List.getElem?_eq_some_iff.1 hx).1; omega
        rw [hat i hi] at hx; cases hx; rw [Expr.d_eq]; rfl)
      (fun i j hi hj => by
        have hi' : i < ks.length := by omega
        have := hown.cellAt (i * 4 + j) (by omega)
        rw [Nat.zero_add, this, kidCells_at ks i j hi' hj]
        match j, hj with
        | 0, _ => rfl
        | 1, _ => rfl
        | 2, _ => rfl
        | 3, _ => rfl)
      (fun i j x d hx hd => by
        have hi : i < ks.length := by have := (List.getElem?_eq_some_iff.1 hx).1; omega
        rw [hat i hi] at hx; cases hx
        have hj : j < 4 := by
          have := (List.getElem?_eq_some_iff.1 hd).1
          rw [Expr.d_eq] at this; simpa using this
        rw [kidCells_at ks i j hi hj]
        have hr := ((hK.rd i hi).1.lt.move (w' := wr) (fun b hb hl => h.blw.block b hl)).mono (S' := fun b => (S b ∧ b < w.heap.size) ∨ w.heap.size + 2 ≤ b) (fun b hb => Or.inl hb)
        have hv : ∃ v, (Kid.cells ks[i])[j]? = some v := ⟨_, List.getElem?_eq_getElem (show j < (Kid.cells ks[i]).length by simp [Kid.cells, exL]; exact hj)⟩
        obtain ⟨v, hv⟩ := hv
        rw [hv]
        exact hr.2 j d v hd hv)
    rw [hn] at this
    exact this

/-- What made answers. -/
def MadeQ (S : Nat → Prop) (w : World) (r : PR Expr) (e : Ending) (w' : World) : Prop := Below w.heap.size w w' ∧
      match r with
      | .err x j => e = .panicked [{ v := stopV x j, recovered := false }]
      | .ok y j => ∃ A c, e = .returned (rdVal y A c) ∧ RdE (fun b => (S b ∧ b < w.heap.size) ∨ w.heap.size ≤ b) w' y A c
theorem MadeQ.ok {S : Nat → Prop} {w w' : World} {y : Expr} {j : Nat} {A : Option Addr} {c : Nat} {e : Ending} (h : Below w.heap.size w w') (he : e = .returned (rdVal y A c)) (hr : RdE (fun b => (S b ∧ b < w.heap.size) ∨ w.heap.size ≤ b) w' y A c) : MadeQ S w (.ok y j) e w' := ⟨h, A, c, he, hr⟩
theorem MadeQ.err {S : Nat → Prop} {w w' : World} {x : Int} {j : Nat} {e : Ending} (h : Below w.heap.size w w') (he : e = .panicked [{ v := stopV x j, recovered := false }]) : MadeQ S w (.err x j) e w' := ⟨h, he⟩

set_option maxRecDepth 100000 in
set_option maxHeartbeats 1000000 in
theorem emade_any (P : Rp) (w : World) (i : Nat) (h : Rin P w i) (kind : Nat) (hkd : kind < 20) (ks : List Kid) (hks : ks.length ≤ 2) (b c : Nat) (S : Nat → Prop) (hK : KidsAt S w ks b) :
    Calls Tryd.prog 102 #[.pointer (some ⟨P.rb, 0, none⟩), .int .i64 (kind : Nat), .slice (some ⟨b, 0, none⟩) ks.length c] w (MadeQ S w (mkE kind (ks.map (·.1)) i)) := by
  obtain ⟨i0, hi, hz0, hz1, hz2⟩ := info_parts infoE
  go_enter Tryd.func102, Tryd.ntmps102
  go_wp2
  go_loopw [15] (fun t wr => ∃ (k : Nat) (v : Value), k ≤ ks.length ∧ t = .int .i64 k ∧ MadeAt w wr kind ks k v) (fun t _ => ks.length - (intOf t).toNat)
  case atStart =>
    refine ⟨0, .slice none 0 0, Nat.zero_le _, rfl, ⟨below_alloc' (below_alloc' (Below.refl _ _) _) _, ?_, ?_, World.ownsRow_nil _ _ _ _⟩⟩
    · rw [Below.heap_alloc _ _ _ (by simp)]; exact heap_alloc_new _ _
    · have := heap_alloc_new (w.alloc (.cells #[.int .i64 0, .int .i64 0, .string ⟨#[]⟩, .slice none 0 0, .int .i64 0] 110)) (.cells #[.int .i64 (kind : Nat), .int .i64 0, .string ⟨#[]⟩, .slice none 0 0, .int .i64 1] 110)
      simpa [Expr.depths] using this
  case round =>
    obtain ⟨k, v, hk, rfl, hM⟩ := hrel
    by_cases hlt : k < ks.length
    · obtain ⟨c0, c1, c2, c3, c4⟩ := hK.cell k hlt
      obtain ⟨hrd, hdp⟩ := hK.rd k hlt
      have hB0 := hM.blw
      have hsz : w.heap.size + 1 < wr.heap.size := lt_of_block hM.out
      have hlb := hK.lt
      rw [← hB0.cell (p := ⟨b, _, none⟩) hlb] at c0 c1 c2 c3 c4
      have hown := hM.own
      have o3 : wr.cell? ⟨w.heap.size + 1, 3, none⟩ = some v := by simp [World.cell?, hM.out]
      have o4 : wr.cell? ⟨w.heap.size + 1, 4, none⟩ = some (.int .i64 ((Expr.depths ((ks.take k).map (·.1)) : Nat) + 1 : Int)) := by simp [World.cell?, hM.out]
      have fo : ∀ j, wr.frozen? ⟨w.heap.size + 1, j, none⟩ = false := fun j => by simp [World.frozen?, hM.out]
      have hdl : Expr.depths ((ks.take k).map (·.1)) ≤ 40 := depths_le fun j hj => by
        have hj' : j < k := by simp at hj; omega
        simp only [List.getElem_map, List.getElem_take]
        exact (hK.rd j (by omega)).2
      have HM := Lib.hid hM
      have HK := Lib.hid hK
      clear hM hK
      obtain ⟨q, hq⟩ : ∃ q, q = ks[k] := ⟨_, rfl⟩
      obtain ⟨D, hD⟩ : ∃ D, D = Expr.depths ((ks.take k).map (·.1)) := ⟨_, rfl⟩
      rw [← hq] at c0 c1 c2 c3 c4 hrd hdp
      rw [← hD] at o4 hdl
      have HQ := Lib.hid hq
      have HD := Lib.hid hD
      clear hq hD
      obtain ⟨x, A, cc⟩ := q
      simp only at c0 c1 c2 c3 c4 hrd hdp
      go_wp2_with (at_builtin; refine wpList_append_own _ rfl _ _ 22 rfl (w.heap.size + 2) 24 i0 (.agg #[.int .i64 0, .int .i64 0, .string ⟨#[]⟩, .slice none 0 0]) 4 56 Tryd.underlying22 hi hz0 hz1 hz2 rfl (by decide) _ _ _ rfl ((hown.alloc _).alloc _) ⟨wr.heap.size + 1, 0, none⟩ 1 1 (exL x A cc) rfl rfl ?c1 ?c2 ?c3 ?c4 ?c5 ?_)
      case c1 =>
        intro j u hj
        match j, hj with
        | 0, hj => simp only [exL, List.getElem?_cons_zero, Option.some.injEq] at hj; subst hj; simp [Addr.add, go_sem]
        | 1, hj => simp [exL] at hj; subst hj; simp [Addr.add, go_sem]
        | 2, hj => simp [exL] at hj; subst hj; simp [Addr.add, go_sem]
        | 3, hj => simp [exL] at hj; subst hj; simp [Addr.add, go_sem]
        | j + 4, hj => simp [exL] at hj
      case c2 => intro u hu; simp [exL] at hu; rcases hu with rfl | rfl | rfl | rfl <;> rfl
      case c3 => unfold maxLen; omega
      case c4 => omega
      case c5 => simp; omega
      intro v' w1 hown' hgrow _
      obtain ⟨m1, m2, m3, m4, m5⟩ := HM.out.mid hgrow
      have p3 : w1.cell? ⟨w.heap.size + 1, 3, none⟩ = some v := by simp [World.cell?, m3]
      have p4 : w1.cell? ⟨w.heap.size + 1, 4, none⟩ = some (.int .i64 ((D : Nat) + 1 : Int)) := by rw [HD.out]; simp [World.cell?, m3]
      have p5 : ∀ j, w1.frozen? ⟨w.heap.size + 1, j, none⟩ = false := fun j => by simp [World.frozen?, m3]
      have p6 : w1.cell? ⟨wr.heap.size, 4, none⟩ = some (.int .i64 (x.depth : Nat)) := by simp [World.cell?, m4]
      have O0 := hown'
      obtain ⟨_, ⟨_, h0⟩ | ⟨g, cap, cur, rfl, _, _, _, _, _, _⟩⟩ := hown'
      · omega
      have G := Lib.hid hgrow
      have O := Lib.hid O0
      have hmx : max ((D : Int) + 1) ((x.depth : Int) + 1) = ((max D x.depth : Nat) : Int) + 1 := by omega
      clear O0
      have M1 := Lib.hid m1
      clear hgrow m1 m2 m3 m4 hown hrd o3 o4 fo c0 c1 c2 c3 c4
      go_wp2_with fail
      go_roundw
      case rel =>
        have hDn : max D x.depth = Expr.depths ((ks.take (k + 1)).map (·.1)) := by
          rw [HD.out, List.take_succ_eq_append_getElem hlt, List.map_append, List.map_cons, List.map_nil, depths_snoc, ← HQ.out]
        exact ⟨k + 1, _, by omega, by go_num, HM.out.next G.out hlt (by rw [← HQ.out]; exact O.out) hDn⟩
      case measure => simp only [intOf]; omega
    · obtain rfl : k = ks.length := by omega
      have hB0 := hM.blw
      have hsz : w.heap.size + 1 < wr.heap.size := lt_of_block hM.out
      obtain ⟨A, cap, rfl, hRd⟩ := hM.done hK
      have hdep : mkE kind (ks.map (·.1)) i = if 40 < Expr.depths ((ks.take ks.length).map (·.1)) + 1 then .err 4 i else .ok (.mk kind 0 ByteArray.empty (ks.map (·.1))) i := by
        rw [List.take_length]; rfl
      have hFl := Fail_any P wr i (h.below hB0) 4
      have o0 : wr.cell? ⟨w.heap.size + 1, 0, none⟩ = some (.int .i64 (kind : Nat)) := by simp [World.cell?, hM.out]
      have o1 : wr.cell? ⟨w.heap.size + 1, 1, none⟩ = some (.int .i64 0) := by simp [World.cell?, hM.out]
      have o2 : wr.cell? ⟨w.heap.size + 1, 2, none⟩ = some (.string ⟨#[]⟩) := by simp [World.cell?, hM.out]
      have o3 : wr.cell? ⟨w.heap.size + 1, 3, none⟩ = some (.slice A ks.length cap) := by simp [World.cell?, hM.out]
      have o4 : wr.cell? ⟨w.heap.size + 1, 4, none⟩ = some (.int .i64 ((Expr.depths ((ks.take ks.length).map (·.1)) : Nat) + 1 : Int)) := by simp [World.cell?, hM.out]
      obtain ⟨D, hD⟩ : ∃ D, D = Expr.depths ((ks.take ks.length).map (·.1)) := ⟨_, rfl⟩
      rw [← hD] at o4 hdep
      have HE := Lib.hid hdep
      have p0 : wr.cell? ⟨w.heap.size, 0, none⟩ = some (.int .i64 0) := by simp [World.cell?, hM.res]
      have p1 : wr.cell? ⟨w.heap.size, 1, none⟩ = some (.int .i64 0) := by simp [World.cell?, hM.res]
      have p2 : wr.cell? ⟨w.heap.size, 2, none⟩ = some (.string ⟨#[]⟩) := by simp [World.cell?, hM.res]
      have p3 : wr.cell? ⟨w.heap.size, 3, none⟩ = some (.slice none 0 0) := by simp [World.cell?, hM.res]
      have p4 : wr.cell? ⟨w.heap.size, 4, none⟩ = some (.int .i64 0) := by simp [World.cell?, hM.res]
      have pf : ∀ j, wr.frozen? ⟨w.heap.size, j, none⟩ = false := fun j => by simp [World.frozen?, hM.res]
      have HD := Lib.hid hD
      have HK := Lib.hid hK
      clear hD hdep hM hK
      by_cases h40 : 40 < D + 1
      · have hd : decide ((40 : Int) < (D : Int) + 1) = true := by simp; omega
        go_wp2_with (go_at_call 80; refine hFl.mono ?_; rintro e w2 ⟨rfl, hb2⟩)
        exact ⟨rfl, by rw [HE.out, if_pos h40]; exact .err (hB0.trans' hb2) rfl⟩
      · have hd : decide ((40 : Int) < (D : Int) + 1) = false := by simp; omega
        go_wp2_with fail
        have hq : rdVal (.mk (kind : Nat) 0 ByteArray.empty (ks.map (·.1))) A cap = .agg #[.int .i64 (kind : Nat), .int .i64 0, .string ⟨#[]⟩, .slice A ks.length cap, .int .i64 ((D : Int) + 1)] := by
          have hD := HD.out
          rw [List.take_length] at hD
          simp only [rdVal, Expr.kind, Expr.n, Expr.name, Expr.kids, Expr.depth, List.length_map, ← hD]
          rfl
        have hz : ∀ bb, bb ≠ w.heap.size → (((((wr.setCell ⟨w.heap.size, 0, none⟩ (.int .i64 (kind : Nat))).setCell ⟨w.heap.size, 1, none⟩ (.int .i64 0)).setCell ⟨w.heap.size, 2, none⟩ (.string ⟨#[]⟩)).setCell ⟨w.heap.size, 3, none⟩ (.slice A ks.length cap)).setCell ⟨w.heap.size, 4, none⟩ (.int .i64 ((D : Int) + 1))).heap[bb]? = wr.heap[bb]? := fun bb hb => by
          rw [Below.heap_setCell _ _ _ _ hb, Below.heap_setCell _ _ _ _ hb, Below.heap_setCell _ _ _ _ hb, Below.heap_setCell _ _ _ _ hb, Below.heap_setCell _ _ _ _ hb]
        have hBW : Below w.heap.size w (((((wr.setCell ⟨w.heap.size, 0, none⟩ (.int .i64 (kind : Nat))).setCell ⟨w.heap.size, 1, none⟩ (.int .i64 0)).setCell ⟨w.heap.size, 2, none⟩ (.string ⟨#[]⟩)).setCell ⟨w.heap.size, 3, none⟩ (.slice A ks.length cap)).setCell ⟨w.heap.size, 4, none⟩ (.int .i64 ((D : Int) + 1))) :=
          below_set' (below_set' (below_set' (below_set' (below_set' hB0 (Nat.le_refl _)) (Nat.le_refl _)) (Nat.le_refl _)) (Nat.le_refl _)) (Nat.le_refl _)
        have hV := (hRd.move fun bb hb _ => hz bb (by rcases hb with hb | hb <;> omega)).mono (S' := fun b => (S b ∧ b < w.heap.size) ∨ w.heap.size ≤ b) fun bb hb => by
          rcases hb with hb | hb
          · exact Or.inl hb
          · exact Or.inr (by omega)
        clear hz hRd
        have hE : RdE (fun b => (S b ∧ b < w.heap.size) ∨ w.heap.size ≤ b) (((((wr.setCell ⟨w.heap.size, 0, none⟩ (.int .i64 (kind : Nat))).setCell ⟨w.heap.size, 1, none⟩ (.int .i64 0)).setCell ⟨w.heap.size, 2, none⟩ (.string ⟨#[]⟩)).setCell ⟨w.heap.size, 3, none⟩ (.slice A ks.length cap)).setCell ⟨w.heap.size, 4, none⟩ (.int .i64 ((D : Int) + 1))) (.mk (kind : Nat) 0 ByteArray.empty (ks.map (·.1))) A cap := by
          refine ⟨?_, ?_⟩
          · rw [Expr.d_eq]
            refine RdL.cons (.i _ _ ?_) (RdL.cons (.i _ _ (by simp only [Expr.n]; decide)) (RdL.cons (.s _ (by simp only [Expr.name]; decide)) (RdL.cons ?_ RdL.nil)))
            · simp only [Expr.kind]; rw [IntKind.wrap_i64]; omega
            · simpa [Expr.kids] using hV
          · have hD := HD.out
            rw [List.take_length] at hD
            simp only [Expr.depth]; omega
        clear hV
        exact bodyPost_ret (v := .agg #[.int .i64 (kind : Nat), .int .i64 0, .string ⟨#[]⟩, .slice A ks.length cap, .int .i64 ((D : Int) + 1)]) (by simp [results, Tryd.results102, go_sem, p0, p1, p2, p3, p4, pf, hsz]) rfl (by rw [HE.out, if_neg h40]; exact .ok hBW (by rw [hq]) hE)
end Go.Proofs.YtfdpkmpnfalggaaDoor
