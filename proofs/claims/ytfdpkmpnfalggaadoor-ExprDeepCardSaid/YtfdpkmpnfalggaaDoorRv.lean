/- The reference's Tokens by contract: it answers what the plain parting answers. -/
import Derived.Test.YtfdpkmpnfalggaaDoorRu
import Derived.OwnWalk
set_option linter.unusedVariables false
set_option linter.unusedSimpArgs false
namespace Go.Proofs.YtfdpkmpnfalggaaDoor
open Go.RowKit

/-- A token fits its cells. -/
def TokW (t : Tok) : Prop := IntKind.i64.wrap t.kind = t.kind ∧ IntKind.i64.wrap t.n = t.n ∧ IntKind.i64.wrap t.at_ = t.at_ ∧ t.text.size ≤ maxLen ∧ 0 ≤ t.n
theorem numL_le : ∀ (r : Bs) (n m : Nat), n ≤ 9223372036854775807 → numL n r = some m → m ≤ 9223372036854775807
  | [], n, m, h, he => by cases he; exact h
  | c :: r, n, m, h, he => by
    unfold numL at he
    split at he
    · rename_i hc
      simp only [Bool.and_eq_true, decide_eq_true_eq, digitC] at hc
      exact numL_le r _ m (by omega) he
    · cases he
theorem digit_goes {c : UInt8} (h : digitC c = true) : goesC c = true := by
  have := digitC_eq c
  rw [h] at this
  unfold digitB at this
  unfold goesC goesB
  rw [this]; simp
/-- What a token found keeps to. -/
theorem oneL_fits {r : Bs} {x : Raw} (h : oneL r = some x) (hr : r.length ≤ 1000000) : 0 < x.len ∧ x.len ≤ r.length ∧ 0 ≤ x.kind ∧ x.kind ≤ 4 ∧ x.n ≤ 9223372036854775807 ∧ x.text.size ≤ 1000000 := by
  cases r with
  | nil => cases h
  | cons c r =>
    have hrl := runL_le (c :: r)
    rw [oneL] at h
    by_cases hd : digitC c = true
    · rw [if_pos hd] at h
      have hrun : 0 < runL (c :: r) := by rw [runL_cons, if_pos (digit_goes hd)]; omega
      by_cases h0 : (c == 48 && decide (1 < runL (c :: r))) = true
      · rw [if_pos h0] at h; cases h
      · rw [if_neg h0] at h
        obtain ⟨n, hn, rfl⟩ := Option.map_eq_some_iff.1 h
        exact ⟨hrun, hrl, by simp, by simp, numL_le _ 0 n (by decide) hn, by simp⟩
    · rw [if_neg hd] at h
      have hw : (wordL (c :: r)).size ≤ 1000000 := by
        have : (wordL (c :: r)).size = runL (c :: r) := by
          show ((c :: r).take (runL (c :: r))).toArray.size = _
          simp only [List.size_toArray, List.length_take]; omega
        omega
      by_cases hl : letterB (c.toNat : Int) = true
      · rw [if_pos hl] at h
        have hrun : 0 < runL (c :: r) := by rw [runL_cons, if_pos (by show goesB _ = true; simp [goesB, hl])]; omega
        by_cases hw1 : isWordB (wordL (c :: r)) = true
        · rw [if_pos hw1] at h; cases h; exact ⟨hrun, hrl, by simp, by simp, by simp, hw⟩
        · rw [if_neg hw1] at h
          by_cases h24 : runL (c :: r) ≤ 24
          · rw [if_pos h24] at h; cases h; exact ⟨hrun, hrl, by simp, by simp, by simp, hw⟩
          · rw [if_neg h24] at h; cases h
      · rw [if_neg hl] at h
        obtain ⟨y, hy, rfl⟩ := Option.map_eq_some_iff.1 h
        have hm := List.mem_of_find?_eq_some hy
        have hp := List.find?_some hy
        obtain ⟨j, hj, rfl⟩ := List.getElem_of_mem hm
        have hz := sign_sizes j hj
        rw [List.getD_eq_getElem?_getD, List.getElem?_eq_getElem hj] at hz
        simp only [Option.getD_some] at hz
        have hpl := (List.isPrefixOf_iff_prefix.1 hp).length_le
        exact ⟨hz.1, by simpa using hpl, by simp, by simp, by simp, by show signTexts[j].size ≤ _; omega⟩
theorem tok_fits {r : Bs} {x : Raw} {i : Nat} (h : oneL r = some x) (hr : r.length ≤ 1000000) (hi : i ≤ 1000000) : TokW (x.tok i) := by
  obtain ⟨_, _, h1, h2, h3, h4⟩ := oneL_fits h hr
  refine ⟨?_, ?_, ?_, ?_, ?_⟩
  · show IntKind.i64.wrap x.kind = x.kind; exact IntWalk.i64_in _ (by omega)
  · show IntKind.i64.wrap (x.n : Int) = x.n; exact IntWalk.i64_in _ (by omega)
  · show IntKind.i64.wrap (i : Int) = i; exact IntWalk.i64_in _ (by omega)
  · show x.text.size ≤ maxLen; unfold maxLen; omega
  · show 0 ≤ (x.n : Int); omega

def Tok.cells (t : Tok) : List Value := [.int .i64 t.kind, .int .i64 t.n, .int .i64 t.at_, .string t.text]
def tokCells (l : List Tok) : List Value := l.flatMap Tok.cells
theorem tokCells_length (l : List Tok) : (tokCells l).length = l.length * 4 := by
  induction l with
  | nil => rfl
  | cons q ks ih => rw [tokCells, List.flatMap_cons, List.length_append, ← tokCells, ih]; simp [Tok.cells]; omega
theorem tokCells_at : ∀ (l : List Tok) (i j : Nat) (hi : i < l.length), j < 4 → (tokCells l)[i * 4 + j]? = (Tok.cells l[i])[j]?
  | q :: ks, 0, j, hi, hj => by
    rw [tokCells, List.flatMap_cons, List.getElem?_append_left (by simp [Tok.cells]; omega)]; simp
  | q :: ks, i + 1, j, hi, hj => by
    rw [tokCells, List.flatMap_cons, List.getElem?_append_right (by simp [Tok.cells]; omega), ← tokCells]
    have := tokCells_at ks i j (by simpa using hi) hj
    simp only [List.getElem_cons_succ]
    rw [← this]; congr 1; simp [Tok.cells]; omega
theorem tokCells_snoc (l : List Tok) (t : Tok) : tokCells (l ++ [t]) = tokCells l ++ Tok.cells t := by simp [tokCells]
theorem infoT : (Tryd.prog.info? 63).map (fun i => (i.zero, i.size, i.bytes)) = some (some (.agg #[.int .i64 0, .int .i64 0, .int .i64 0, .string ⟨#[]⟩]), 4, 40) := by kernel_rfl
theorem ownsRow_blw {w w' : World} {B : Nat} {t : TypeId} {n k : Nat} {v : Value} {xs : List Value} (h : w.ownsRow B t n v k xs) (hb : Below w.heap.size w w') : w'.ownsRow B t n v k xs := by
  obtain ⟨h1, h2⟩ := h
  refine ⟨h1, ?_⟩
  rcases h2 with h2 | ⟨g, cap, cur, e1, e2, e3, e4⟩
  · exact .inl h2
  · exact .inr ⟨g, cap, cur, e1, e2, (hb.block g (lt_of_block e3)).trans e3, e4⟩
/-- An owned row of tokens reads as the list. -/
theorem toks_rd {w : World} {B : Nat} {v : Value} {l : List Tok} (h : w.ownsRow B 63 4 v l.length (tokCells l)) (hl : ∀ t ∈ l, TokW t) :
    ∃ A cap, v = .slice A l.length cap ∧ RdV (fun b => B ≤ b) w (.l 4 (Tok.ds l)) (.slice A l.length cap) := by
  obtain ⟨_, ⟨rfl, h0⟩ | ⟨g, cap, cur, rfl, hg, _, hcap, hmax, _, _⟩⟩ := id h
  · refine ⟨none, 0, by rw [h0], ?_⟩
    have : l = [] := List.eq_nil_of_length_eq_zero h0
    subst this
    exact .l0 4 none 0
  · refine ⟨_, _, rfl, ?_⟩
    have hat : ∀ i (hi : i < l.length), (Tok.ds l)[i]? = some l[i].d := fun i hi => by rw [Tok.ds, List.getElem?_map, List.getElem?_eq_getElem hi]; rfl
    have := RdV.l (S := fun b => B ≤ b) (w := w) 4 (Tok.ds l) g 0 cap (fun i j => ((tokCells l)[i * 4 + j]?).getD undef) (by simpa using hcap) (by simp; omega) hg (by omega)
      (fun i x hx => by
        have hi : i < l.length := by have := (List.getElem?_eq_some_iff.1 hx).1; simpa using this
        rw [hat i hi] at hx; cases hx; rfl)
      (fun i j hi hj => by
        have hi' : i < l.length := by simpa using hi
        have := h.cellAt (i * 4 + j) (by omega)
        rw [Nat.zero_add, this, tokCells_at l i j hi' hj]
        match j, hj with
        | 0, _ => rfl
        | 1, _ => rfl
        | 2, _ => rfl
        | 3, _ => rfl)
      (fun i j x d hx hd => by
        have hi : i < l.length := by have := (List.getElem?_eq_some_iff.1 hx).1; simpa using this
        rw [hat i hi] at hx; cases hx
        have hj : j < 4 := (List.getElem?_eq_some_iff.1 hd).1
        rw [tokCells_at l i j hi hj]
        obtain ⟨t1, t2, t3, t4, _⟩ := hl l[i] (List.getElem_mem hi)
        match j, hj with
        | 0, _ => cases hd; exact .i _ _ t1
        | 1, _ => cases hd; exact .i _ _ t2
        | 2, _ => cases hd; exact .i _ _ t3
        | 3, _ => cases hd; exact .s _ t4)
    simpa using this

def TR.cat (l : List Tok) : TR → TR
  | .ok m => .ok (l ++ m)
  | .err a => .err a
theorem TR.cat_cons (l : List Tok) (t : Tok) (r : TR) : TR.cat l (r.cons t) = TR.cat (l ++ [t]) r := by cases r <;> simp [TR.cat, TR.cons]
/-- What Tokens answers. -/
def RvQ (s : ByteArray) (w : World) (r : TR) (e : Ending) (w' : World) : Prop :=
  Below w.heap.size w w' ∧ match r with
  | .ok l => (∀ t ∈ l, TokW t) ∧ 0 < l.length ∧ ∃ A cap, e = .returned (.tuple #[.slice A l.length cap, .int .i64 (s.size : Nat), .int .i64 0]) ∧ RdV (fun b => w.heap.size ≤ b) w' (.l 4 (Tok.ds l)) (.slice A l.length cap)
  | .err i => e = .returned (.tuple #[.slice none 0 0, .int .i64 i, .int .i64 2])

/-- At the head of the loop. -/
def RvRel (s : ByteArray) (w : World) (R : TR) (v t : Value) (wr : World) : Prop :=
  ∃ (l : List Tok) (i f : Nat), i ≤ s.size ∧ t = .int .i64 i ∧ wr.ownsRow w.heap.size 63 4 v l.length (tokCells l) ∧ Below w.heap.size w wr ∧ TR.cat l (toksL f i (fromB s i)) = R ∧ s.size - i ≤ f ∧ l.length ≤ i ∧ ∀ t ∈ l, TokW t

set_option maxRecDepth 100000 in
set_option maxHeartbeats 4000000 in
theorem rTokens_any (s : ByteArray) (b o cap : Nat) (w : World) (hc : Lib.Bytes w b o s) (hb : b < w.heap.size) (hcap : s.size ≤ cap) (hs : s.size ≤ 65536) :
    Calls Tryd.prog 15 #[.slice (some ⟨b, o, none⟩) s.size cap] w (RvQ s w (tokensL s.data.toList)) := by
  obtain ⟨i0, hi, hz0, hz1, hz2⟩ := info_parts infoT
  have hk := rskip_any s b o cap 0 w hc (Nat.zero_le _) hcap (by omega)
  have hsl := skipL_le false (fromB s 0)
  rw [fromB_length] at hsl
  obtain ⟨R, hR⟩ : ∃ R, R = tokensL s.data.toList := ⟨_, rfl⟩
  rw [← hR]
  have hR2 : TR.cat [] (toksL s.size (0 + skipL false (fromB s 0)) (fromB s (0 + skipL false (fromB s 0)))) = R := by
    rw [hR, tokensL, Nat.zero_add]
    have e1 : s.data.toList.length = s.size := by simp
    rw [e1]
    show TR.cat [] (toksL s.size (skipL false s.data.toList) (s.data.toList.drop (skipL false s.data.toList))) = _
    cases toksL s.size (skipL false s.data.toList) (s.data.toList.drop (skipL false s.data.toList)) <;> rfl
  have HR := Lib.hid hR2
  have HC := Lib.hid hc
  clear hR hR2 hc
  go_enter Tryd.func15, Tryd.ntmps15
  go_wp2_with (go_at_call 29; refine hk.mono ?_; rintro e w' ⟨rfl, rfl⟩)
  go_loopw [5, 6] (fun v t wr => RvRel s w R v t wr) (fun _ t _ => s.size - (intOf t).toNat)
  case atStart => exact ⟨[], _, s.size, by omega, rfl, World.ownsRow_nil _ _ _ _, Below.refl _ _, by have := HR.out; rwa [Nat.zero_add] at this, by omega, Nat.zero_le _, by simp⟩
  case round =>
    obtain ⟨l, i, f, hi1, rfl, hown, hB, hRr, hf, hll, hlw⟩ := hrel
    have hCr : Lib.Bytes wr b o s := fun q hq => (hB.cell (p := ⟨b, o + q, none⟩) hb).trans (HC.out q hq)
    have HRr := Lib.hid hRr
    have HW := Lib.hid hlw
    clear hRr hlw
    by_cases hlt : i < s.size
    · obtain ⟨f', rfl⟩ : ∃ f', f = f' + 1 := ⟨f - 1, by omega⟩
      have hne : (fromB s i).isEmpty = false := by rw [fromB_cons s i hlt]; rfl
      have hT := rtoken_any s b o cap i wr hCr hlt hcap (by omega)
      have hstep : toksL (f' + 1) i (fromB s i) = match oneL (fromB s i) with
          | none => .err i
          | some x => (toksL f' (i + x.len + skipL false (fromB s (i + x.len))) (fromB s (i + x.len + skipL false (fromB s (i + x.len))))).cons (x.tok i) := by
        rw [toksL, hne, if_neg (by decide)]
        cases oneL (fromB s i) with
        | none => rfl
        | some x => simp only [fromB, List.drop_drop, Nat.add_assoc]
      have HS := Lib.hid hstep
      clear hstep hne
      cases hx : oneL (fromB s i) with
      | none =>
        rw [hx] at hT
        have hRn : R = .err i := by have h := HRr.out; rw [HS.out, hx] at h; exact h.symm
        have HRn := Lib.hid hRn
        have HX := Lib.hid hx
        clear hRn hx
        go_wp2_with (go_at_call 30; refine hT.mono ?_; intro e w2 hq; obtain ⟨hb2, k', n', a', t', rfl⟩ := hq)
        go_ret3
        rw [HRn.out]
        exact ⟨below_alloc' (hB.trans' hb2) _, rfl⟩
      | some x =>
        rw [hx] at hT
        obtain ⟨x1, x2, _, _, _, _⟩ := oneL_fits hx (by rw [fromB_length]; omega)
        rw [fromB_length] at x2
        have hRn : TR.cat (l ++ [x.tok i]) (toksL f' (i + x.len + skipL false (fromB s (i + x.len))) (fromB s (i + x.len + skipL false (fromB s (i + x.len))))) = R := by
          have h := HRr.out; rw [HS.out, hx] at h; rw [← TR.cat_cons]; exact h
        have HRn := Lib.hid hRn
        have htw := Lib.hid (tok_fits (i := i) hx (by rw [fromB_length]; omega) (by omega))
        have hsl2 := skipL_le false (fromB s (i + x.len))
        rw [fromB_length] at hsl2
        have HX := Lib.hid hx
        clear hRn hx
        obtain ⟨p, hp⟩ : ∃ p, p = i + x.len := ⟨_, rfl⟩
        have hT2 : Calls Tryd.prog 30 #[.slice (some ⟨b, o, none⟩) s.size cap, .int .i64 i] wr fun e w' => Below wr.heap.size wr w' ∧ e = .returned (.tuple #[.agg #[.int .i64 x.kind, .int .i64 (x.n : Nat), .int .i64 i, .string x.text], .int .i64 (p : Nat), .int .i64 0]) :=
          hT.mono fun e w' hq => ⟨hq.1, by rw [hq.2, hp]; rfl⟩
        rw [← hp] at hsl2 HRn
        have hip : i < p := by omega
        have hps : p ≤ s.size := by omega
        clear x1 x2
        have hskip := fun W hW => rskip_any s b o cap p W hW (by omega) hcap (by omega)
        have HPP := Lib.hid hp
        clear hT hp
        go_wp2_with (first
          | (go_at_call 30; refine hT2.mono ?_; rintro e w2 ⟨hb2, rfl⟩; have own2 := ownsRow_blw hown hb2)
          | (at_builtin; refine wpList_append_own _ rfl _ _ 37 rfl w.heap.size 63 i0 (.agg #[.int .i64 0, .int .i64 0, .int .i64 0, .string ⟨#[]⟩]) 4 40 Tryd.underlying37 hi hz0 hz1 hz2 rfl (by decide) _ _ _ rfl ((own2.alloc _).alloc _) ⟨w2.heap.size + 1, 0, none⟩ 1 1 (Tok.cells (x.tok i)) rfl rfl ?c1 ?c2 ?c3 ?c4 ?c5 ?_))
        case c1 =>
          intro j u hj
          match j, hj with
          | 0, hj => simp [Tok.cells, Raw.tok] at hj; subst hj; simp [Addr.add, go_sem]
          | 1, hj => simp [Tok.cells, Raw.tok] at hj; subst hj; simp [Addr.add, go_sem]
          | 2, hj => simp [Tok.cells, Raw.tok] at hj; subst hj; simp [Addr.add, go_sem]
          | 3, hj => simp [Tok.cells, Raw.tok] at hj; subst hj; simp [Addr.add, go_sem]
          | j + 4, hj => simp [Tok.cells] at hj
        case c2 => intro u hu; simp [Tok.cells] at hu; rcases hu with rfl | rfl | rfl | rfl <;> rfl
        case c3 => unfold maxLen; omega
        case c4 => omega
        case c5 => have := hB.size; have := hb2.size; simp; omega
        intro v' w5 hown' hgrow _
        have hl2 := own2.lt
        have hB5 : Below w.heap.size w w5 := (below_alloc' (below_alloc' (hB.trans' hb2) _) _).grown hgrow (by have := hB.size; have := hb2.size; simp; omega) (fun k hk => (hl2 k hk).1)
        have hC5 : Lib.Bytes w5 b o s := fun q hq => (hB5.cell (p := ⟨b, o + q, none⟩) hb).trans (HC.out q hq)
        have O := Lib.hid hown'
        have HC5 := Lib.hid hC5
        have HB5 := Lib.hid hB5
        have hsk5 := hskip w5 hC5
        clear hown' hgrow hl2 hB5 hC5 own2 hown hskip hT2 hCr
        go_wp2_with (go_at_call 29; refine hsk5.mono ?_; rintro e w' ⟨rfl, rfl⟩)
        have hrel5 : RvRel s w R v' (.int .i64 ((p : Int) + (skipL false (fromB s p) : Nat))) w5 := by
          refine ⟨l ++ [x.tok i], p + skipL false (fromB s p), f', by omega, by go_num, ?_, HB5.out, HRn.out, by omega, by simp; omega, fun t ht => ?_⟩
          · rw [tokCells_snoc]; simpa using O.out
          · rcases List.mem_append.1 ht with h | h
            · exact HW.out t h
            · simp at h; rw [h]; exact htw.out
        go_roundw
        case rel => exact hrel5
        case measure => simp only [intOf]; omega
    · obtain rfl : i = s.size := by omega
      have hRn : R = .ok (l ++ [endTok s.size]) := by
        have h := HRr.out
        rw [← h]
        cases f with
        | zero => rfl
        | succ f => rw [toksL, fromB_nil s s.size (Nat.le_refl _)]; rfl
      have HRn := Lib.hid hRn
      clear hRn
      go_wp2_with (at_builtin; refine wpList_append_own _ rfl _ _ 37 rfl w.heap.size 63 i0 (.agg #[.int .i64 0, .int .i64 0, .int .i64 0, .string ⟨#[]⟩]) 4 40 Tryd.underlying37 hi hz0 hz1 hz2 rfl (by decide) _ _ _ rfl (hown.alloc _) ⟨wr.heap.size, 0, none⟩ 1 1 (Tok.cells (endTok s.size)) rfl rfl ?d1 ?d2 ?d3 ?d4 ?d5 ?_)
      case d1 =>
        intro j u hj
        match j, hj with
        | 0, hj => simp [Tok.cells, endTok] at hj; subst hj; simp [Addr.add, go_sem]
        | 1, hj => simp [Tok.cells, endTok] at hj; subst hj; simp [Addr.add, go_sem]
        | 2, hj => simp [Tok.cells, endTok] at hj; subst hj; simp [Addr.add, go_sem]
        | 3, hj => simp [Tok.cells, endTok] at hj; subst hj; simp [Addr.add, go_sem]; rfl
        | j + 4, hj => simp [Tok.cells] at hj
      case d2 => intro u hu; simp [Tok.cells] at hu; rcases hu with rfl | rfl | rfl | rfl <;> rfl
      case d3 => unfold maxLen; omega
      case d4 => omega
      case d5 => have := hB.size; simp; omega
      intro v' w5 hown' hgrow _
      have hl2 := hown.lt
      have hB5 : Below w.heap.size w w5 := (below_alloc' hB _).grown hgrow (by have := hB.size; simp; omega) (fun k hk => (hl2 k hk).1)
      have hE : TokW (endTok s.size) := ⟨by simp only [endTok]; decide, by simp only [endTok]; decide, IntWalk.i64_in _ (by simp only [endTok]; omega), by simp only [endTok]; decide, by simp only [endTok]; decide⟩
      have hlw : ∀ t ∈ l ++ [endTok s.size], TokW t := fun t ht => by
        rcases List.mem_append.1 ht with h | h
        · exact HW.out t h
        · simp at h; rw [h]; exact hE
      have hon : w5.ownsRow w.heap.size 63 4 v' (l ++ [endTok s.size]).length (tokCells (l ++ [endTok s.size])) := by
        rw [tokCells_snoc]; simpa using hown'
      obtain ⟨A, cp, rfl, hrd⟩ := toks_rd hon hlw
      have HON := Lib.hid hrd
      have HB5 := Lib.hid hB5
      have HLW := Lib.hid hlw
      clear hown' hgrow hl2 hB5 hrd hon hlw hE hown hCr
      go_wp2_with fail
      go_ret3
      rw [HRn.out]
      exact ⟨HB5.out, HLW.out, by simp, A, cp, rfl, HON.out⟩
end Go.Proofs.YtfdpkmpnfalggaaDoor
