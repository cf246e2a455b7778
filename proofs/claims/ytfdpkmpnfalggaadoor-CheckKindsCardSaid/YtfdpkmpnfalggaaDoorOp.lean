/- The readings of the row opened into Lean data: recursive records by induction on the fuel. -/
import Derived.Test.YtfdpkmpnfalggaaDoorLa
import Derived.Deep.Slices
set_option linter.unusedVariables false
namespace Go.Proofs.YtfdpkmpnfalggaaDoor
open Go.RowKit

section
variable {H : Type} {enc : TypeId × Value → H} {P : Program} {w : World} {base : Nat} {spare : Nat → Bool} {held : Bool}

theorem slice_rd {α : Type} [Inhabited α] (f : α → List D) {t e : TypeId} {sz n : Nat} {cs : List Value} {x : DataW H × List MemPlace} (ht : P.underlying t = some (.slice e)) (hc : P.cellsOf e = sz) (hp : 0 < sz) (hf : ∀ d, (f d).length = sz)
    (hel : ∀ cs y, DataW.trod enc P w base spare held n e cs = some y → ∃ d : α, RdL (fun _ => True) w (f d) cs) (h : DataW.trod enc P w base spare held (n + 1) t cs = some x) :
    ∃ (l : List α) (A : Option Addr) (c : Nat), cs = [.slice A l.length c] ∧ RdV (fun _ => True) w (.l sz (l.map f)) (.slice A l.length c) := by
  rcases DataW.trod_slice ht h with ⟨rfl, _⟩ | ⟨a, len, cap, elems, rest, n', hn, rfl, _, hb, hl, hm, hlen, hes, _, _⟩
  · exact ⟨[], none, 0, rfl, .l0 _ _ _⟩
  · cases hn
    subst hc
    obtain ⟨D', hD⟩ := Deep.choose_lt (α := α × List Value) (n := len) (p := fun i y => w.cells? base (a.add (i * P.cellsOf e)) (P.cellsOf e) = some y.2 ∧ RdL (fun _ => True) w (f y.1) y.2) (fun i hi => by
      have h1 := hes i hi
      rw [List.getElem?_eq_getElem (by omega)] at h1
      obtain ⟨cs', h2, h3⟩ := Option.bind_eq_some_iff.1 h1
      obtain ⟨d, hd⟩ := hel cs' _ h3
      exact ⟨(d, cs'), h2, hd⟩)
    refine ⟨(List.range len).map fun i => (D' i).1, some a, cap, by simp, ?_⟩
    by_cases h0 : len = 0
    · subst h0; exact .l0 _ _ _
    have hcell : ∀ i j, i < len → j < P.cellsOf e → w.cell? ((a.add (i * P.cellsOf e)).add j) = (D' i).2[j]? := fun i j hi hj => (World.cells?_some (hD i hi).1).2.2 j hj
    have hlenc : ∀ i, i < len → (D' i).2.length = P.cellsOf e := fun i hi => (World.cells?_some (hD i hi).1).2.1
    obtain ⟨b, o, rfl⟩ : ∃ b o, a = ⟨b, o, none⟩ := by
      have h1 := hcell 0 0 (by omega) hp
      rw [List.getElem?_eq_getElem (by rw [hlenc 0 (by omega)]; exact hp)] at h1
      obtain ⟨b, o, s⟩ := a
      cases s with
      | none => exact ⟨b, o, rfl⟩
      | some s =>
        simp only [Addr.add, Nat.zero_mul, if_true] at h1
        unfold World.cell? at h1
        split at h1 <;> simp at h1
    have hr := RdV.l (S := fun _ => True) (w := w) (P.cellsOf e) (((List.range len).map fun i => (D' i).1).map f) b o cap (fun i j => (D' i).2.getD j undef) (by simpa using hl) (by simp; omega) trivial hp
      (fun i x hx => by
        simp only [List.getElem?_map, Option.map_eq_some_iff] at hx
        obtain ⟨_, _, rfl⟩ := hx
        exact hf _)
      (fun i j hi hj => by
        have hi' : i < len := by simpa using hi
        have h1 := hcell i j hi' hj
        rw [Deep.add_add] at h1
        have h2 : (⟨b, o, none⟩ : Addr).add (i * P.cellsOf e + j) = ⟨b, o + (i * P.cellsOf e + j), none⟩ := by
          unfold Addr.add; split
          · rename_i h; rw [h]; rfl
          · rfl
        rw [h2] at h1
        rw [h1, List.getD_eq_getElem?_getD, List.getElem?_eq_getElem (by rw [hlenc i hi']; exact hj)]; rfl)
      (fun i j x d hx hd => by
        simp only [List.getElem?_map, Option.map_eq_some_iff, List.getElem?_eq_some_iff, List.length_range, List.getElem_range] at hx
        obtain ⟨_, ⟨_, ⟨hi, rfl⟩, rfl⟩, rfl⟩ := hx
        have hj : j < P.cellsOf e := by
          have := List.getElem?_eq_some_iff.1 hd |>.1
          rwa [hf] at this
        refine (hD _ hi).2.2 j d _ hd ?_
        rw [List.getD_eq_getElem?_getD, List.getElem?_eq_getElem (by rw [hlenc _ hi]; exact hj)]; rfl)
    simpa using hr
end

section
variable {H : Type} {enc : TypeId × Value → H} {w : World} {base : Nat} {spare : Nat → Bool} {held : Bool}
instance : Inhabited Expr := ⟨.mk 0 0 ByteArray.empty []⟩
instance : Inhabited Key := ⟨⟨ByteArray.empty, 0, false⟩⟩
theorem cells_s : Tryd.prog.cellsOf 9 = 1 := by kernel_rfl
theorem cells_i : Tryd.prog.cellsOf 3 = 1 := by kernel_rfl
theorem cells_b : Tryd.prog.cellsOf 4 = 1 := by kernel_rfl
theorem cells_E : Tryd.prog.cellsOf 24 = 4 := by kernel_rfl
theorem cells_K : Tryd.prog.cellsOf 29 = 3 := by kernel_rfl
theorem cells_Es : Tryd.prog.cellsOf 22 = 1 := by kernel_rfl

theorem three_of {α : Type} : ∀ {l : List α}, l.length = 3 → ∃ x y z, l = [x, y, z]
  | [x, y, z], _ => ⟨x, y, z, rfl⟩
theorem four_of {α : Type} : ∀ {l : List α}, l.length = 4 → ∃ x y z u, l = [x, y, z, u]
  | [x, y, z, u], _ => ⟨x, y, z, u, rfl⟩
theorem wrap_of_wf {n : Int} (h : (Lit.int .i64 n).wf = true) : IntKind.i64.wrap n = n := by
  simp only [Lit.wf, Bool.and_eq_true, decide_eq_true_eq] at h
  have h1 : IntKind.i64.min = -9223372036854775808 := by decide
  have h2 : IntKind.i64.max = 9223372036854775807 := by decide
  rw [h1, h2] at h
  simp only [IntKind.wrap_i64]
  omega

theorem key_open (n : Nat) (cs : List Value) (x : DataW H × List MemPlace) (h : DataW.trod enc Tryd.prog w base spare held n 29 cs = some x) : ∃ k : Key, RdL (fun _ => True) w k.d cs := by
  obtain ⟨xs, m, rfl, _, hl, hxs, hx⟩ := DataW.trod_struct Tryd.underlying29 h
  rw [cells_K] at hl
  have e0 := hx 0 _ rfl
  have e1 := hx 1 _ rfl
  have e2 := hx 2 _ rfl
  obtain ⟨a, b, c, rfl⟩ := three_of hl
  rw [List.getElem?_eq_getElem (by simp [hxs])] at e0 e1 e2
  have e0' : DataW.trod enc Tryd.prog w base spare held m 9 (([a, b, c].drop 0).take (Tryd.prog.cellsOf 9)) = _ := e0
  have e1' : DataW.trod enc Tryd.prog w base spare held m 3 (([a, b, c].drop 1).take (Tryd.prog.cellsOf 3)) = _ := e1
  have e2' : DataW.trod enc Tryd.prog w base spare held m 4 (([a, b, c].drop 2).take (Tryd.prog.cellsOf 4)) = _ := e2
  rw [cells_s] at e0'
  rw [cells_i] at e1'
  rw [cells_b] at e2'
  clear e0 e1 e2
  obtain ⟨s, s1, _, s2⟩ := DataW.trod_string Tryd.underlying9 e0'
  obtain ⟨k, k1, _, k2⟩ := DataW.trod_int Tryd.underlying3 e1'
  obtain ⟨t, t1, _⟩ := DataW.trod_bool Tryd.underlying4 e2'
  simp only [List.drop_succ_cons, List.drop_zero, List.take_succ_cons, List.take_zero, List.cons.injEq, and_true] at s1 k1 t1
  subst s1 k1 t1
  exact ⟨⟨s, k, t⟩, .cons (.s _ s2) (.cons (.i _ _ (wrap_of_wf k2)) (.cons (.b _) .nil))⟩

theorem expr_open : ∀ (n : Nat) (cs : List Value) (x : DataW H × List MemPlace), DataW.trod enc Tryd.prog w base spare held n 24 cs = some x → ∃ e : Expr, RdL (fun _ => True) w e.d cs := by
  intro n
  induction n using Nat.strongRecOn with
  | _ n ih =>
    intro cs x h
    obtain ⟨xs, m, rfl, _, hl, hxs, hx⟩ := DataW.trod_struct Tryd.underlying24 h
    rw [cells_E] at hl
    have e0 := hx 0 _ rfl
    have e1 := hx 1 _ rfl
    have e2 := hx 2 _ rfl
    have e3 := hx 3 _ rfl
    obtain ⟨a, b, c, d, rfl⟩ := four_of hl
    rw [List.getElem?_eq_getElem (by simp [hxs])] at e0 e1 e2 e3
    have e0' : DataW.trod enc Tryd.prog w base spare held m 3 (([a, b, c, d].drop 0).take (Tryd.prog.cellsOf 3)) = _ := e0
    have e1' : DataW.trod enc Tryd.prog w base spare held m 3 (([a, b, c, d].drop 1).take (Tryd.prog.cellsOf 3)) = _ := e1
    have e2' : DataW.trod enc Tryd.prog w base spare held m 9 (([a, b, c, d].drop 2).take (Tryd.prog.cellsOf 9)) = _ := e2
    have e3' : DataW.trod enc Tryd.prog w base spare held m 22 (([a, b, c, d].drop 3).take (Tryd.prog.cellsOf 22)) = _ := e3
    rw [cells_i] at e0' e1'
    rw [cells_s] at e2'
    rw [cells_Es] at e3'
    clear e0 e1 e2 e3
    obtain ⟨k, k1, _, k2⟩ := DataW.trod_int Tryd.underlying3 e0'
    obtain ⟨t, t1, _, t2⟩ := DataW.trod_int Tryd.underlying3 e1'
    obtain ⟨s, s1, _, s2⟩ := DataW.trod_string Tryd.underlying9 e2'
    cases m with
    | zero => simp [DataW.trod] at e0'
    | succ m =>
      obtain ⟨l, A, c', l1, l2⟩ := slice_rd Expr.d Tryd.underlying22 cells_E (by decide) (fun e => by rw [Expr.d_eq]; rfl) (fun cs y hy => ih m (by omega) cs y hy) e3'
      simp only [List.drop_succ_cons, List.drop_zero, List.take_succ_cons, List.take_zero, List.cons.injEq, and_true] at s1 k1 t1 l1
      subst s1 k1 t1 l1
      refine ⟨.mk k t s l, ?_⟩
      rw [Expr.d_eq]
      exact .cons (.i _ _ (wrap_of_wf k2)) (.cons (.i _ _ (wrap_of_wf t2)) (.cons (.s _ s2) (.cons (by simpa [Expr.ds_eq, Expr.kids] using l2) .nil)))
end
end Go.Proofs.YtfdpkmpnfalggaaDoor
