/- The reader's two, first, single, Expr, by contracts: they read what the plain parser reads. -/
import Derived.Test.YtfdpkmpnfalggaaDoorLv
set_option linter.unusedVariables false
set_option linter.unusedSimpArgs false
namespace Go.Proofs.YtfdpkmpnfalggaaDoor
open Go.RowKit

theorem Took_no (P : Rp) (w : World) (i : Nat) (h : Rin P w i) (s : ByteArray) (hx : isT P.L i s = false) : Calls Tryd.prog 122 #[.pointer (some ⟨P.rb, 0, none⟩), .string s] w fun e w' => e = .returned (.bool false) ∧ Stp P w w' i := by
  have := Took_any P w i h s
  rw [hx] at this
  simpa using this
theorem Took_yes (P : Rp) (w : World) (i : Nat) (h : Rin P w i) (s : ByteArray) (hx : isT P.L i s = true) : Calls Tryd.prog 122 #[.pointer (some ⟨P.rb, 0, none⟩), .string s] w fun e w' => e = .returned (.bool true) ∧ Stp P w w' (i + 1) := by
  have := Took_any P w i h s
  rw [hx] at this
  simpa using this
theorem Must_no (P : Rp) (w : World) (i : Nat) (h : Rin P w i) (s : ByteArray) (hx : isT P.L i s = false) : Calls Tryd.prog 75 #[.pointer (some ⟨P.rb, 0, none⟩), .string s] w fun e w' => e = .panicked [{ v := stopV 2 i, recovered := false }] ∧ Stp P w w' i := by
  have := Must_any P w i h s
  rw [hx] at this
  exact this.mono fun e w' hq => ⟨by simpa using hq.2, by simpa using hq.1⟩
theorem Must_yes (P : Rp) (w : World) (i : Nat) (h : Rin P w i) (s : ByteArray) (hx : isT P.L i s = true) : Calls Tryd.prog 75 #[.pointer (some ⟨P.rb, 0, none⟩), .string s] w fun e w' => e = .returned (.tuple #[]) ∧ Stp P w w' (i + 1) := by
  have := Must_any P w i h s
  rw [hx] at this
  exact this.mono fun e w' hq => ⟨by simpa using hq.2, by simpa using hq.1⟩
theorem Is_is (P : Rp) (w : World) (i : Nat) (h : Rin P w i) (s : ByteArray) (b : Bool) (hx : isT P.L i s = b) : Calls Tryd.prog 73 #[.pointer (some ⟨P.rb, 0, none⟩), .string s] w fun e w' => e = .returned (.bool b) ∧ Stp P w w' i :=
  (Is_any P w i h s).mono fun e w' ⟨he, hb⟩ => ⟨by rw [he, hx], Stp.of_below h hb⟩
theorem Zero5.kb {rb : Nat} {w w' : World} {b : Nat} (h : Zero5 w b) (k : Kb rb w w') (hb : b ≠ rb) : Zero5 w' b := (k.block b (lt_of_block h) hb).trans h
theorem Zero5.blw {w w' : World} {b : Nat} (h : Zero5 w b) (k : Below w.heap.size w w') : Zero5 w' b := (k.block b (lt_of_block h)).trans h
theorem Zero5.at (w : World) (b : Nat) (hb : b = w.heap.size) : Zero5 (w.alloc (.cells #[.int .i64 0, .int .i64 0, .string ⟨#[]⟩, .slice none 0 0, .int .i64 0] 110)) b := by rw [hb]; exact Zero5.new w
/-- A read in a block. -/
def X5 (w : World) (b : Nat) (x : Expr) (A : Option Addr) (c : Nat) : Prop := w.heap[b]? = some (.cells #[.int .i64 x.kind, .int .i64 x.n, .string x.name, .slice A x.kids.length c, .int .i64 (x.depth : Nat)] 110 (0, 0))
theorem X5.kb {rb : Nat} {w w' : World} {b : Nat} {x : Expr} {A : Option Addr} {c : Nat} (h : X5 w b x A c) (k : Kb rb w w') (hb : b ≠ rb) : X5 w' b x A c := (k.block b (lt_of_block h) hb).trans h
theorem X5.blw {w w' : World} {b : Nat} {x : Expr} {A : Option Addr} {c : Nat} (h : X5 w b x A c) (k : Below w.heap.size w w') : X5 w' b x A c := (k.block b (lt_of_block h)).trans h
theorem X5.new (w : World) (x : Expr) (A : Option Addr) (c : Nat) : X5 (w.alloc (.cells #[.int .i64 x.kind, .int .i64 x.n, .string x.name, .slice A x.kids.length c, .int .i64 (x.depth : Nat)] 110)) w.heap.size x A c := heap_alloc_new _ _

/-- SubQ, where old Kids may be among the new ones. -/
def SubQS (S : Nat → Prop) (P : Rp) (w : World) (r : PR Expr) (e : Ending) (w' : World) : Prop :=
  match r with
  | .err x j => e = .panicked [{ v := stopV x j, recovered := false }] ∧ Kb P.rb w w'
  | .ok y j => ∃ A c, e = .returned (rdVal y A c) ∧ RdE (fun b => (S b ∧ b < w.heap.size) ∨ w.heap.size ≤ b) w' y A c ∧ Stp P w w' j

theorem Kb.below' {rb : Nat} {w w1 w2 : World} (h : Kb rb w w1) (b : Below w1.heap.size w1 w2) : Kb rb w w2 := h.blw b

theorem subS_fin {S : Nat → Prop} {P : Rp} {w W : World} {i j B : Nat} {y : Expr} {A : Option Addr} {c : Nat} (h : Rin P w i) (k : Stp P w W j) (hB : w.heap.size ≤ B) (hE : RdE (fun b => ((S b ∧ b < w.heap.size) ∨ w.heap.size ≤ b) ∧ b ≠ B) W y A c) :
    SubQS S P w (.ok y j) (.returned (rdVal y A c)) (set5 W B y A c) :=
  ⟨A, c, rfl, (hE.move fun b hb _ => set5_heap W B y A c b hb.2).mono fun b hb => hb.1, Stp.fin h (set5_kb _ _ _ _ _ _ _ k.kb hB) (set5_at k.rin.blk (by have := h.lt; omega)) k.rin.le⟩


set_option maxRecDepth 100000 in
set_option maxHeartbeats 2000000 in
theorem etwo_any (P : Rp) (sg : Nat → PR Expr) (hsg : ∀ i, i ≤ P.L.length → (sg i).Fits P.L i) (wi : Int) (hL : ∀ (w : World) (i : Nat), Rin P w i → Calls Tryd.prog 62 #[.pointer (some ⟨P.rb, 0, none⟩), .int .i64 0, .int .i64 wi] w (SubQ P w (levP P.L sg 5 i)))
    (k : Nat) (hk : k < 20) (x : Expr) (A : Option Addr) (c : Nat) (S : Nat → Prop) (w : World) (i : Nat) (h : Rin P w i) (hS : ∀ b, S b → b ≠ P.rb) (hx : RdE S w x A c) :
    Calls Tryd.prog 175 #[.pointer (some ⟨P.rb, 0, none⟩), .int .i64 (k : Nat), rdVal x A c, .int .i64 wi] w (SubQS S P w (twoP P.L sg k x i)) := by
  unfold rdVal
  have hrb := h.lt
  have hle := h.le
  have hB1 := below_alloc' (below_alloc' (Below.refl w.heap.size w) (.cells #[.int .i64 x.kind, .int .i64 x.n, .string x.name, .slice A x.kids.length c, .int .i64 (x.depth : Nat)] 110)) (.cells #[.int .i64 0, .int .i64 0, .string ⟨#[]⟩, .slice none 0 0, .int .i64 0] 110)
  have hs := Stp.of_below h hB1
  have hx0 : X5 _ w.heap.size x A c := (X5.new w x A c).blw (below_alloc' (Below.refl _ _) (.cells #[.int .i64 0, .int .i64 0, .string ⟨#[]⟩, .slice none 0 0, .int .i64 0] 110))
  have hz := Zero5.at (w.alloc (.cells #[.int .i64 x.kind, .int .i64 x.n, .string x.name, .slice A x.kids.length c, .int .i64 (x.depth : Nat)] 110)) (w.heap.size + 1) (by simp)
  unfold twoP
  by_cases h1 : isT P.L i (⟨#[44]⟩ : ByteArray) = true
  · rw [if_pos h1]
    have hi := isT_lt h1
    have hM := Must_yes P _ i hs.rin _ h1
    have hf := levP_fits hsg 5 (i + 1) (by omega)
    cases hr : levP P.L sg 5 (i + 1) with
    | err e j =>
      simp only
      go_enter Tryd.func175, Tryd.ntmps175
      go_wp2_with (first
        | (go_at_call 75; (with_reducible refine hM.mono ?_); rintro e w1 ⟨rfl, hb⟩; have hs1 := hs.trans hb; have hLv := hL w1 (i + 1) hb.rin; rw [hr] at hLv)
        | (go_at_call 62; (with_reducible refine hLv.mono ?_); intro e w2 hq; obtain ⟨rfl, hk⟩ := hq))
      exact ⟨rfl, rfl, hs1.kb.trans hk⟩
    | ok y j =>
      rw [hr] at hf
      obtain ⟨hf1, hf2⟩ := hf
      simp only
      by_cases h2 : isT P.L j (⟨#[41]⟩ : ByteArray) = true
      · rw [if_pos h2]
        have hj := isT_lt h2
        have hMd : ∀ (S : Nat → Prop) (A3 : Option Addr) (c3 : Nat) (W : World) (b : Nat), Rin P W (j + 1) → KidsAt S W [(x, A, c), (y, A3, c3)] b → Calls Tryd.prog 102 #[.pointer (some ⟨P.rb, 0, none⟩), .int .i64 (k : Nat), .slice (some ⟨b, 0, none⟩) 2 2] W (MadeQ S W (mkE k [x, y] (j + 1))) :=
          fun S A3 c3 W b h1 h2 => emade_any P W (j + 1) h1 k hk [(x, A, c), (y, A3, c3)] (by simp) b 2 S h2
        have hwalk : ∀ r, mkE k [x, y] (j + 1) = r → Calls Tryd.prog 175 #[.pointer (some ⟨P.rb, 0, none⟩), .int .i64 (k : Nat), .agg #[.int .i64 x.kind, .int .i64 x.n, .string x.name, .slice A x.kids.length c, .int .i64 (x.depth : Nat)], .int .i64 wi] w (SubQS S P w r) := by
          intro r hm
          rw [hm] at hMd
          have HJ := Lib.hid hj
          have HI := Lib.hid hi
          clear hj hi
          have hj3 : ∀ z j3, r = .ok z j3 → j3 = j + 1 := fun z j3 hr => by rw [hr] at hm; unfold mkE at hm; split at hm <;> cases hm; rfl
          cases r with
          | err e j3 =>
            go_enter Tryd.func175, Tryd.ntmps175
            go_wp2_with (first
              | (go_at_call 75; (with_reducible refine hM.mono ?_); rintro e w1 ⟨rfl, hb⟩; have hs1 := hs.trans hb; have hx1 := hx0.kb hb.kb (by omega); have hz1 := hz.kb hb.kb (by omega); have hLv := hL w1 (i + 1) hb.rin; rw [hr] at hLv)
              | (go_at_call 62; (with_reducible refine hLv.mono ?_); intro e w2 hq; obtain ⟨A3, c3, rfl, hE3, hk2⟩ := hq; unfold rdVal; have hs2 := hs1.trans hk2; have hx2 := hx1.kb hk2.kb (by omega); have hz2 := hz1.kb hk2.kb (by omega); have hM2 := fun W hW => Must_yes P W j hW _ h2)
              | (go_at_call 75; (with_reducible refine (hM2 _ (hs2.rin.below (below_alloc' (Below.refl _ _) _))).mono ?_); rintro e w3 ⟨rfl, hb3⟩; have hs3 := (hs2.below (below_alloc' (Below.refl _ _) _)).trans hb3; have hx3 := (hx2.blw (below_alloc' (Below.refl _ _) _)).kb hb3.kb (by omega); have hz3 := (hz2.blw (below_alloc' (Below.refl _ _) _)).kb hb3.kb (by omega); have hrb2 := hs2.rin.lt; have hy3 := (X5.new w2 y A3 c3).kb hb3.kb (by omega); obtain ⟨⟨x0, x1, x2, x3, x4⟩, xf⟩ := read_cells hx3; obtain ⟨⟨y0, y1, y2, y3, y4⟩, yf⟩ := read_cells hy3; have hl1 := lt_of_block hz1; have hxr : RdE (fun b => (S b ∧ b < w.heap.size) ∨ w.heap.size + 2 ≤ b) w3 x A c := (hx.lt.kb hs3.kb fun b hb => hS b hb.1).mono fun b hb => Or.inl hb; have hyr : RdE (fun b => (S b ∧ b < w.heap.size) ∨ w.heap.size + 2 ≤ b) w3 y A3 c3 := ((hE3.blw (below_alloc' (Below.refl _ _) _)).kb hb3.kb (fun b hb => by omega)).mono fun b hb => Or.inr (by omega))
              | (go_at_call 102; (with_reducible refine (hMd (fun b => (S b ∧ b < w.heap.size) ∨ w.heap.size + 2 ≤ b) A3 c3 _ _ (hs3.rin.below (below_alloc' (Below.refl _ _) _)) (kids_two hxr hyr)).mono ?_); intro e w5 hq; obtain ⟨hb5, rfl⟩ := hq))
            exact ⟨rfl, rfl, hs3.kb.blw ((below_alloc' (Below.refl _ _) _).trans' hb5)⟩
          | ok z j3 =>
            obtain rfl := hj3 z j3 rfl
            go_enter Tryd.func175, Tryd.ntmps175
            go_wp2_with (first
              | (go_at_call 75; (with_reducible refine hM.mono ?_); rintro e w1 ⟨rfl, hb⟩; have hs1 := hs.trans hb; have hx1 := hx0.kb hb.kb (by omega); have hz1 := hz.kb hb.kb (by omega); have hLv := hL w1 (i + 1) hb.rin; rw [hr] at hLv)
              | (go_at_call 62; (with_reducible refine hLv.mono ?_); intro e w2 hq; obtain ⟨A3, c3, rfl, hE3, hk2⟩ := hq; unfold rdVal; have hs2 := hs1.trans hk2; have hx2 := hx1.kb hk2.kb (by omega); have hz2 := hz1.kb hk2.kb (by omega); have hM2 := fun W hW => Must_yes P W j hW _ h2)
              | (go_at_call 75; (with_reducible refine (hM2 _ (hs2.rin.below (below_alloc' (Below.refl _ _) _))).mono ?_); rintro e w3 ⟨rfl, hb3⟩; have hs3 := (hs2.below (below_alloc' (Below.refl _ _) _)).trans hb3; have hx3 := (hx2.blw (below_alloc' (Below.refl _ _) _)).kb hb3.kb (by omega); have hz3 := (hz2.blw (below_alloc' (Below.refl _ _) _)).kb hb3.kb (by omega); have hrb2 := hs2.rin.lt; have hy3 := (X5.new w2 y A3 c3).kb hb3.kb (by omega); obtain ⟨⟨x0, x1, x2, x3, x4⟩, xf⟩ := read_cells hx3; obtain ⟨⟨y0, y1, y2, y3, y4⟩, yf⟩ := read_cells hy3; have hl1 := lt_of_block hz1; have hxr : RdE (fun b => (S b ∧ b < w.heap.size) ∨ w.heap.size + 2 ≤ b) w3 x A c := (hx.lt.kb hs3.kb fun b hb => hS b hb.1).mono fun b hb => Or.inl hb; have hyr : RdE (fun b => (S b ∧ b < w.heap.size) ∨ w.heap.size + 2 ≤ b) w3 y A3 c3 := ((hE3.blw (below_alloc' (Below.refl _ _) _)).kb hb3.kb (fun b hb => by omega)).mono fun b hb => Or.inr (by omega))
              | (go_at_call 102; (with_reducible refine (hMd (fun b => (S b ∧ b < w.heap.size) ∨ w.heap.size + 2 ≤ b) A3 c3 _ _ (hs3.rin.below (below_alloc' (Below.refl _ _) _)) (kids_two hxr hyr)).mono ?_); intro e w5 hq; obtain ⟨hb5, A5, c5, rfl, hE5⟩ := hq; unfold rdVal; have hb6 := (below_alloc' (Below.refl _ _) _).trans' hb5; have hz5 := hz3.blw hb6; have hs5 := hs3.below hb6; obtain ⟨⟨p0, p1, p2, p3, p4⟩, pf⟩ := hz5.cells))
            have hw3 := hs3.kb.size
            have hl3 := lt_of_block hz3
            have hF : SubQS S P w (.ok z (j + 1)) _ _ := subS_fin h hs5 (Nat.le_succ _) (hE5.mono fun b hb => by
              rcases hb with ⟨⟨hs, hl⟩ | hl, _⟩ | hb
              · exact ⟨Or.inl ⟨hs, hl⟩, by omega⟩
              · exact ⟨Or.inr (by omega), by omega⟩
              · simp at hb; exact ⟨Or.inr (by omega), by omega⟩)
            exact bodyPost_ret (v := rdVal z A5 c5) (by unfold rdVal; simp [results, Tryd.results175, go_sem, p0, p1, p2, p3, p4, pf]) rfl hF
        exact hwalk _ rfl
      · rw [if_neg h2]
        have h2' : isT P.L j (⟨#[41]⟩ : ByteArray) = false := by simpa using h2
        go_enter Tryd.func175, Tryd.ntmps175
        go_wp2_with (first
          | (go_at_call 75; (with_reducible refine hM.mono ?_); rintro e w1 ⟨rfl, hb⟩; have hs1 := hs.trans hb; have hLv := hL w1 (i + 1) hb.rin; rw [hr] at hLv)
          | (go_at_call 62; (with_reducible refine hLv.mono ?_); intro e w2 hq; obtain ⟨A3, c3, rfl, hE3, hk2⟩ := hq; unfold rdVal; have hs2 := hs1.trans hk2)
          | (go_at_call 75; (with_reducible refine (Must_no P _ j (hs2.rin.below (below_alloc' (Below.refl _ _) _)) _ h2').mono ?_); rintro e w3 ⟨rfl, hb3⟩))
        exact ⟨rfl, rfl, (hs2.below (below_alloc' (Below.refl _ _) _)).kb.trans hb3.kb⟩
  · rw [if_neg h1]
    have h1' : isT P.L i (⟨#[44]⟩ : ByteArray) = false := by simpa using h1
    have hM := Must_no P _ i hs.rin _ h1'
    go_enter Tryd.func175, Tryd.ntmps175
    go_wp2_with (go_at_call 75; (with_reducible refine hM.mono ?_); rintro e w1 ⟨rfl, hb⟩)
    exact ⟨rfl, rfl, hs.kb.trans hb.kb⟩

/-- The plain expression of a leaf. -/
theorem efirst1_any (k n : Int) (s : ByteArray) (w : World) : Calls Tryd.prog 174 #[.agg #[.int .i64 k, .int .i64 n, .string s, .slice none 0 0]] w fun e w' => e = .returned (.agg #[.int .i64 k, .int .i64 n, .string s, .slice none 0 0, .int .i64 1]) ∧ Below w.heap.size w w' := by
  go_enter Tryd.func174, Tryd.ntmps174
  go_wp2
  exact bodyPost_ret (v := .agg #[.int .i64 k, .int .i64 n, .string s, .slice none 0 0, .int .i64 1]) (by simp [results, Tryd.results174, go_sem]) rfl ⟨rfl, by with_reducible repeat (first | exact Below.refl _ _ | refine below_set' ?_ (Nat.le_refl _) | refine below_set' ?_ (Nat.le_succ _) | apply below_alloc')⟩
theorem leaf_rd {S : Nat → Prop} {w : World} {k n : Int} {s : ByteArray} (hk : IntKind.i64.wrap k = k) (hn : IntKind.i64.wrap n = n) (hs : s.size ≤ maxLen) : RdE S w (leafE k n s) none 0 := by
  refine ⟨?_, by simp [leafE, Expr.depth, Expr.depths]⟩
  rw [Expr.d_eq]
  exact RdL.cons (.i _ _ hk) (RdL.cons (.i _ _ hn) (RdL.cons (.s _ hs) (RdL.cons (.l0 _ _ _) RdL.nil)))
end Go.Proofs.YtfdpkmpnfalggaaDoor
