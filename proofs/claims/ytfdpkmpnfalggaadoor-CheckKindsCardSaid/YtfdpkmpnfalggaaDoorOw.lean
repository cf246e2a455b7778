/- Rows of the call's own: what they read as, how they stay, how they grow by append. Plain lemmas. -/
import Derived.Test.YtfdpkmpnfalggaaDoorTy
import Derived.Maps.AppendAt
import Derived.Laws.OwnMore
set_option linter.unusedVariables false
namespace Go.Proofs.YtfdpkmpnfalggaaDoor
open Go.RowKit

/-- A row of the call's own (type e, elements of sz cells), the elements reading as xs within the blocks S; S holds its own block too, the elements don't look into that one. -/
structure OwnR (S : Nat → Prop) (w : World) (base : Nat) (e : TypeId) (sz : Nat) (v : Value) (xs : List (List D)) : Prop where
  own : ∃ cs : List Value, w.ownsRow base e sz v xs.length cs ∧ ∀ (i j : Nat) (x : List D) (d : D), xs[i]? = some x → x[j]? = some d → ∃ u, cs[i * sz + j]? = some u ∧ RdV (fun b => S b ∧ some b ≠ v.ownBlock) w d u
  size : ∀ x ∈ xs, x.length = sz
  pos : 0 < sz
  inS : ∀ g, v.ownBlock = some g → S g

namespace OwnR
variable {S : Nat → Prop} {w w' : World} {base : Nat} {e : TypeId} {sz : Nat} {v : Value} {xs : List (List D)}

theorem nil (S : Nat → Prop) (w : World) (base : Nat) (e : TypeId) {sz : Nat} (h : 0 < sz) : OwnR S w base e sz (.slice none 0 0) [] :=
  ⟨⟨[], ⟨by simp, .inl ⟨rfl, rfl⟩⟩, by simp⟩, by simp, h, by simp [Value.ownBlock]⟩

theorem lt (h : OwnR S w base e sz v xs) : ∀ g, v.ownBlock = some g → base ≤ g ∧ g < w.heap.size := by
  intro g hg
  obtain ⟨cs, ⟨_, hc⟩, _⟩ := h.own
  rcases hc with ⟨rfl, _⟩ | ⟨g', cap, cur, rfl, hb, hh, _⟩
  · simp [Value.ownBlock] at hg
  · have : g' = g := by simpa [Value.ownBlock] using hg
    subst this
    exact ⟨hb, (Array.getElem?_eq_some_iff.1 hh).1⟩

theorem slice (h : OwnR S w base e sz v xs) : ∃ A c, v = .slice A xs.length c := by
  obtain ⟨cs, ⟨_, hc⟩, _⟩ := h.own
  rcases hc with ⟨rfl, h0⟩ | ⟨g', cap, cur, rfl, _⟩
  · exact ⟨none, 0, by rw [h0]⟩
  · exact ⟨_, cap, rfl⟩

theorem rd (h : OwnR S w base e sz v xs) : RdV S w (.l sz xs) v := by
  obtain ⟨⟨cs, ⟨hl, hc⟩, hr⟩, hsz, hp, hS⟩ := h
  rcases hc with ⟨rfl, h0⟩ | ⟨g, cap, cur, rfl, hb, hh, hn, hm, hcs, htk⟩
  · obtain rfl : xs = [] := List.eq_nil_of_length_eq_zero h0
    exact .l0 _ _ _
  · have hcell : ∀ i j, i < xs.length → j < sz → i * sz + j < xs.length * sz := fun i j hi hj => by
      have : (i + 1) * sz ≤ xs.length * sz := Nat.mul_le_mul_right sz hi
      rw [Nat.add_mul, Nat.one_mul] at this; omega
    refine .l sz xs g 0 cap (fun i j => cs.getD (i * sz + j) undef) hn (by omega) (hS g rfl) hp (fun i x hx => hsz x (List.mem_of_getElem? hx)) (fun i j hi hj => ?_) (fun i j x d hx hd => ?_)
    · have h1 := hcell i j hi hj
      have h2 : i * sz + j < cs.length := by omega
      have h3 : cur[i * sz + j]? = some (cs.getD (i * sz + j) undef) := by
        rw [List.getD_eq_getElem?_getD, List.getElem?_eq_getElem h2]
        have : cs[i * sz + j]? = cur.toList[i * sz + j]? := by rw [← htk, List.getElem?_take, if_pos (by omega)]
        rw [List.getElem?_eq_getElem h2] at this
        rw [← Array.getElem?_toList, ← this]; rfl
      simp [World.cell?, hh, h3]
    · obtain ⟨u, hu, hru⟩ := hr i j x d hx hd
      rw [List.getD_eq_getElem?_getD, hu]
      exact hru.mono fun b hb => hb.1

theorem move (h : OwnR S w base e sz v xs) (hm : ∀ b, S b → b < w.heap.size → w'.heap[b]? = w.heap[b]?) : OwnR S w' base e sz v xs := by
  obtain ⟨⟨cs, ⟨hl, hc⟩, hr⟩, hsz, hp, hS⟩ := h
  refine ⟨⟨cs, ⟨hl, ?_⟩, fun i j x d hx hd => ?_⟩, hsz, hp, hS⟩
  · rcases hc with hc | ⟨g, cap, cur, rfl, hb, hh, r⟩
    · exact .inl hc
    · exact .inr ⟨g, cap, cur, rfl, hb, (hm g (hS g rfl) (Array.getElem?_eq_some_iff.1 hh).1).trans hh, r⟩
  · obtain ⟨u, hu, hru⟩ := hr i j x d hx hd
    exact ⟨u, hu, hru.move fun b hb hlt => hm b hb.1 hlt⟩
theorem blw (h : OwnR S w base e sz v xs) (hb : Below w.heap.size w w') : OwnR S w' base e sz v xs := h.move fun b _ hl => hb.block b hl
theorem lower (h : OwnR S w base e sz v xs) {base' : Nat} (hb : base' ≤ base) : OwnR S w base' e sz v xs := by
  obtain ⟨⟨cs, ⟨hl, hc⟩, hr⟩, hsz, hp, hS⟩ := h
  refine ⟨⟨cs, ⟨hl, ?_⟩, hr⟩, hsz, hp, hS⟩
  rcases hc with hc | ⟨g, cap, cur, rfl, hb', r⟩
  · exact .inl hc
  · exact .inr ⟨g, cap, cur, rfl, Nat.le_trans hb hb', r⟩
end OwnR

theorem RdV.one {S : Nat → Prop} {w : World} {d : D} {v : Value} (h : RdV S w d v) : v.oneCell' = true := by cases h <;> rfl

/-- append(v, x), x of one element that was laid in a box just now. -/
theorem append_one {P : Program} {ops : Array Oper} {rest : List Oper} {o : Oper} {a : Act} {Q : Exit → Act → World → Prop} {S : Nat → Prop} {W w0 : World} {base : Nat} {e : TypeId} {sz : Nat} {v : Value} {xs : List (List D)}
    (hgd : o.guard = none) (s x : Operand) (t : TypeId) (bytes : Nat) (z : Value)
    (ho : o.op = .call { callee := .builtin .append, args := #[s, x], argTypes := #[t, t] })
    (ht : P.underlying t = some (.slice e)) (hinfo : (P.info? e).map (fun i => (i.zero, i.size, i.bytes)) = some (some z, sz, bytes)) (hz : z.cells.size = sz)
    (hs : a.eval s = v) (HO : OwnR S W base e sz v xs) (ds : List D) (us : List Value) (hds : ds.length = sz) (hx : a.eval x = .slice (some ⟨W.heap.size, 0, none⟩) 1 1)
    (hu : RdL (fun b => S b ∧ some b ≠ v.ownBlock) W ds us) (HB : Below base w0 W) (hbase : base ≤ W.heap.size) (hlen : (xs.length + 1) * bytes ≤ 140737488355328) (hlen2 : xs.length < 140737488355328)
    (hS : ∀ b, W.heap.size ≤ b → S b)
    (h : ∀ v1 w1, OwnR S w1 base e sz v1 (xs ++ [ds]) → Below base w0 w1 → W.grownBy w1 v.ownBlock → wpList P ops Q rest (a.put o.dst v1) w1) :
    wpList P ops Q (o :: rest) a (W.alloc (.cells us.toArray e)) := by
  obtain ⟨i0, hi, hzz⟩ := Option.map_eq_some_iff.1 hinfo
  simp only [Prod.mk.injEq] at hzz
  obtain ⟨hz0, hz1, hz2⟩ := hzz
  have HO' := HO
  obtain ⟨⟨cs, hown, hr⟩, hsz, hp, hSo⟩ := HO'
  have hul : us.length = sz := by rw [← hu.1, hds]
  have hblk : (W.alloc (.cells us.toArray e)).heap[W.heap.size]? = some (.cells us.toArray e (0, 0)) := by simp [World.alloc, -World.alloc_eq]
  refine wpList_append_own_at (W.alloc (.cells us.toArray e)) hgd s x t ho base e i0 z sz bytes ht hi hz0 hz1 hz2 hz hp v xs.length cs hs (hown.alloc _) ⟨W.heap.size, 0, none⟩ 1 1 us hx (by simp [hul])
    (fun j u hj => ?_) (fun u hu' => ?_) (by simp only [maxLen]; omega) hlen (by simp; omega) ?_
  · have ha : (⟨W.heap.size, 0, none⟩ : Addr).add j = ⟨W.heap.size, j, none⟩ := by unfold Addr.add; split <;> simp_all
    rw [ha]; unfold World.cell?; rw [hblk]; simpa using hj
  · obtain ⟨j, hj, rfl⟩ := List.getElem_of_mem hu'
    have hj' : j < ds.length := by rw [hu.1]; exact hj
    exact (hu.2 j ds[j] us[j] (List.getElem?_eq_getElem hj') (List.getElem?_eq_getElem hj)).one
  · intro v1 w1 hown1 hg _ hat
    have hg' : W.grownBy w1 v.ownBlock := World.grownBy.trans (World.grownBy_alloc W _ _) hg
    have hlt := HO.lt
    refine h v1 w1 ⟨⟨cs ++ us, by simpa using hown1, fun i j y d hy hd => ?_⟩, ?_, hp, ?_⟩ ((HB.alloc hbase _).grown hg (by simp; omega) (fun k hk => (hlt k hk).1)) hg'
    · have hcl : cs.length = xs.length * sz := hown.1
      have key : ∀ {d : D} {u : Value}, RdV (fun b => S b ∧ some b ≠ v.ownBlock) W d u → RdV (fun b => S b ∧ some b ≠ v1.ownBlock) w1 d u := fun hru => by
        refine (hru.lt.move (w' := w1) (fun b hb hl => hg'.block b hl hb.1.2)).mono fun b hb => ⟨hb.1.1, fun hc => ?_⟩
        rcases hat with hat | hat
        · rw [hat] at hc; exact hb.1.2 hc
        · rw [hat] at hc
          have : b = W.heap.size + 1 := by simpa using hc
          omega
      by_cases hi' : i < xs.length
      · have hyi : xs[i]? = some y := by rwa [List.getElem?_append_left hi'] at hy
        obtain ⟨u, hu1, hru⟩ := hr i j y d hyi hd
        refine ⟨u, ?_, key hru⟩
        have : i * sz + j < cs.length := (List.getElem?_eq_some_iff.1 hu1).1
        rw [List.getElem?_append_left this]; exact hu1
      · have hil : i < (xs ++ [ds]).length := (List.getElem?_eq_some_iff.1 hy).1
        have hie : i = xs.length := by simp at hil; omega
        subst hie
        have hyd : ds = y := by simpa using hy
        subst hyd
        have hjl : j < ds.length := (List.getElem?_eq_some_iff.1 hd).1
        have hju : j < us.length := by rw [← hu.1]; exact hjl
        refine ⟨us[j], ?_, key (hu.2 j d us[j] hd (List.getElem?_eq_getElem hju))⟩
        rw [List.getElem?_append_right (by omega), hcl, Nat.add_sub_cancel_left]
        exact List.getElem?_eq_getElem hju
    · intro y hy
      rcases List.mem_append.1 hy with hy | hy
      · exact hsz y hy
      · simp at hy; rw [hy, hds]
    · intro g hgg
      rcases hat with hat | hat
      · rw [hat] at hgg; exact hSo g hgg
      · rw [hat] at hgg
        have : W.heap.size + 1 = g := by simpa using hgg
        exact hS g (by omega)
end Go.Proofs.YtfdpkmpnfalggaaDoor
