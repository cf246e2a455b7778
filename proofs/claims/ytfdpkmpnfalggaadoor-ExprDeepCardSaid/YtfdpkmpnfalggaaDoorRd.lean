/- The reader over tokens: what a call leaves of it, and its small methods (now, Is, Took, Fail, Must, of, Name, Int) by contracts. -/
import Derived.Test.YtfdpkmpnfalggaaDoorPe
import Derived.StillTailTactics
set_option linter.unusedVariables false
set_option linter.unusedSimpArgs false
namespace Go.Proofs.YtfdpkmpnfalggaaDoor
open Go.RowKit

/-- All old blocks but rb are as they were. -/
structure Kb (rb : Nat) (w w' : World) : Prop where
  os : w'.os = w.os
  tape : w'.tape = w.tape
  output : w'.output = w.output
  size : w.heap.size ≤ w'.heap.size
  block : ∀ k, k < w.heap.size → k ≠ rb → w'.heap[k]? = w.heap[k]?
theorem Kb.refl (rb : Nat) (w : World) : Kb rb w w := ⟨rfl, rfl, rfl, Nat.le_refl _, fun _ _ _ => rfl⟩
theorem Kb.trans {rb : Nat} {a b c : World} (h : Kb rb a b) (k : Kb rb b c) : Kb rb a c :=
  ⟨k.os.trans h.os, k.tape.trans h.tape, k.output.trans h.output, Nat.le_trans h.size k.size, fun i hi hn => (k.block i (Nat.lt_of_lt_of_le hi h.size) hn).trans (h.block i hi hn)⟩
theorem Kb.of_below {rb : Nat} {w w' : World} (h : Below w.heap.size w w') : Kb rb w w' := ⟨h.os, h.tape, h.output, h.size, fun k hk _ => h.block k hk⟩
theorem Kb.set {rb o : Nat} {w : World} {v : Value} : Kb rb w (w.setCell ⟨rb, o, none⟩ v) :=
  ⟨rfl, rfl, rfl, by simp [World.setCell], fun k _ hn => Below.heap_setCell _ _ _ _ hn⟩
theorem Kb.cell {rb : Nat} {w w' : World} (h : Kb rb w w') {b o : Nat} (hb : b < w.heap.size) (hn : b ≠ rb) : w'.cell? ⟨b, o, none⟩ = w.cell? ⟨b, o, none⟩ := World.cell?_of_block (w := w) (a := ⟨b, o, none⟩) (h.block b hb hn)
theorem Kb.frozen {rb : Nat} {w w' : World} (h : Kb rb w w') {b o : Nat} (hb : b < w.heap.size) (hn : b ≠ rb) : w'.frozen? ⟨b, o, none⟩ = w.frozen? ⟨b, o, none⟩ := World.frozen?_of_block (w := w) (a := ⟨b, o, none⟩) (h.block b hb hn)
/-- Where the reader's block is new, all old blocks are as they were. -/
theorem Kb.below {rb : Nat} {w w1 w2 : World} (h : Below w.heap.size w w1) (k : Kb rb w1 w2) (hr : w.heap.size ≤ rb) : Below w.heap.size w w2 :=
  ⟨k.os.trans h.os, k.tape.trans h.tape, k.output.trans h.output, Nat.le_trans h.size k.size, fun i hi => (k.block i (Nat.lt_of_lt_of_le hi h.size) (by omega)).trans (h.block i hi)⟩

theorem kcell {rb : Nat} {W w1 : World} (hb : Kb rb W w1) : (∀ b o, b < W.heap.size → b ≠ rb → w1.cell? ⟨b, o, none⟩ = W.cell? ⟨b, o, none⟩) ∧ (∀ b o, b < W.heap.size → b ≠ rb → w1.frozen? ⟨b, o, none⟩ = W.frozen? ⟨b, o, none⟩) :=
  ⟨fun b o h hn => hb.cell h hn, fun b o h hn => hb.frozen h hn⟩

def Tok.v (t : Tok) : Value := .agg #[.int .i64 t.kind, .int .i64 t.n, .int .i64 t.at_, .string t.text]

/-- A reader: its block, and the tokens. -/
structure Rp where
  rb : Nat
  T : TypeId
  A : Option Addr
  c : Nat
  L : List Tok
  ok : TokOk L
/-- The reader stands at place i. -/
structure Rin (P : Rp) (w : World) (i : Nat) : Prop where
  blk : w.heap[P.rb]? = some (.cells #[.slice P.A P.L.length P.c, .int .i64 i] P.T (0, 0))
  rd : RdV (fun b => b ≠ P.rb) w (.l 4 (Tok.ds P.L)) (.slice P.A P.L.length P.c)
  le : i ≤ P.L.length
/-- From w on all is kept but the reader, which stands at place j. -/
structure Stp (P : Rp) (w w' : World) (j : Nat) : Prop where
  kb : Kb P.rb w w'
  rin : Rin P w' j

theorem Rin.lt {P : Rp} {w : World} {i : Nat} (h : Rin P w i) : P.rb < w.heap.size := lt_of_block h.blk
theorem Rin.below {P : Rp} {w w' : World} {i : Nat} (h : Rin P w i) (b : Below w.heap.size w w') : Rin P w' i := ⟨(b.block _ h.lt).trans h.blk, h.rd.blw b, h.le⟩
theorem Rin.len {P : Rp} {w : World} {i : Nat} (h : Rin P w i) : P.L.length ≤ 9223372036854775807 := by have := h.rd.len_le; simpa using this
theorem Rin.cL {P : Rp} {w : World} {i : Nat} (h : Rin P w i) : w.cell? ⟨P.rb, 0, none⟩ = some (.slice P.A P.L.length P.c) := by simp [World.cell?, h.blk]
theorem Rin.cA {P : Rp} {w : World} {i : Nat} (h : Rin P w i) : w.cell? ⟨P.rb, 1, none⟩ = some (.int .i64 i) := by simp [World.cell?, h.blk]
theorem Rin.fA {P : Rp} {w : World} {i : Nat} (h : Rin P w i) : w.frozen? ⟨P.rb, 1, none⟩ = false := by simp [World.frozen?, h.blk]
theorem RdV.kb {rb : Nat} {w w' : World} {d : D} {v : Value} (h : RdV (fun b => b ≠ rb) w d v) (k : Kb rb w w') : RdV (fun b => b ≠ rb) w' d v := h.move fun b hb hl => k.block b hl hb
theorem RdL.kb {rb : Nat} {w w' : World} {d : List D} {v : List Value} (h : RdL (fun b => b ≠ rb) w d v) (k : Kb rb w w') : RdL (fun b => b ≠ rb) w' d v := h.move fun b hb hl => k.block b hl hb
theorem two_set {w : World} {b : Nat} {x v u : Value} {t : TypeId} (h : w.heap[b]? = some (.cells #[x, v] t (0, 0))) : (w.setCell ⟨b, 1, none⟩ u).heap[b]? = some (.cells #[x, u] t (0, 0)) := by
  have hlt := lt_of_block h
  have h' : w.heap[b] = .cells #[x, v] t (0, 0) := by simpa [Array.getElem?_eq_getElem hlt] using h
  show (w.heap.modify b _)[b]? = _
  rw [Array.getElem?_eq_getElem (by simpa using hlt), Array.getElem_modify_self, h']
  rfl
/-- The place is moved. -/
theorem Rin.move {P : Rp} {w : World} {i j : Nat} (h : Rin P w i) (hj : j ≤ P.L.length) : Rin P (w.setCell ⟨P.rb, 1, none⟩ (.int .i64 j)) j :=
  ⟨two_set h.blk, h.rd.kb Kb.set, hj⟩
theorem Stp.refl {P : Rp} {w : World} {i : Nat} (h : Rin P w i) : Stp P w w i := ⟨Kb.refl _ _, h⟩
theorem Stp.of_below {P : Rp} {w w' : World} {i : Nat} (h : Rin P w i) (b : Below w.heap.size w w') : Stp P w w' i := ⟨Kb.of_below b, h.below b⟩
theorem Stp.trans {P : Rp} {w w1 w2 : World} {i j : Nat} (h : Stp P w w1 i) (k : Stp P w1 w2 j) : Stp P w w2 j := ⟨h.kb.trans k.kb, k.rin⟩
theorem Stp.below {P : Rp} {w w1 w2 : World} {i : Nat} (h : Stp P w w1 i) (b : Below w1.heap.size w1 w2) : Stp P w w2 i := h.trans (Stp.of_below h.rin b)
theorem Stp.from {P : Rp} {w w1 w2 : World} {j : Nat} (b : Below w.heap.size w w1) (k : Stp P w1 w2 j) : Stp P w w2 j := ⟨(Kb.of_below b).trans k.kb, k.rin⟩

/-- The reader's block. -/
def At (P : Rp) (W : World) (j : Nat) : Prop := W.heap[P.rb]? = some (.cells #[.slice P.A P.L.length P.c, .int .i64 j] P.T (0, 0))
theorem At.lt {P : Rp} {W : World} {j : Nat} (h : At P W j) : P.rb < W.heap.size := lt_of_block h
theorem At.alloc {P : Rp} {W : World} {j : Nat} (h : At P W j) (o : Obj) : At P (W.alloc o) j := (Below.heap_alloc W o P.rb h.lt).trans h
theorem At.drewN {P : Rp} {W : World} {j : Nat} (h : At P W j) (n : Nat) : At P (W.drewN n) j := h
theorem At.drew {P : Rp} {W : World} {j : Nat} (h : At P W j) : At P W.drew j := h
theorem At.set {P : Rp} {W : World} {j b o : Nat} {v : Value} (h : At P W j) (hb : P.rb < b) : At P (W.setCell ⟨b, o, none⟩ v) j := (Below.heap_setCell _ _ _ _ (by simp; omega)).trans h
theorem At.move {P : Rp} {W : World} {i j : Nat} (h : At P W i) : At P (W.setCell ⟨P.rb, 1, none⟩ (.int .i64 j)) j := two_set h
theorem At.below {P : Rp} {W W' : World} {j : Nat} (h : At P W j) (b : Below W.heap.size W W') : At P W' j := (b.block _ h.lt).trans h
theorem Kb.alloc {rb : Nat} {w W : World} (h : Kb rb w W) (o : Obj) : Kb rb w (W.alloc o) := h.trans (Kb.of_below (below_alloc' (Below.refl _ _) _))
theorem Kb.drewN {rb : Nat} {w W : World} (h : Kb rb w W) (n : Nat) : Kb rb w (W.drewN n) := ⟨h.os, h.tape, h.output, h.size, h.block⟩
theorem Kb.drew {rb : Nat} {w W : World} (h : Kb rb w W) : Kb rb w W.drew := ⟨h.os, h.tape, h.output, h.size, h.block⟩
theorem Kb.setNew {rb b o : Nat} {w W : World} {v : Value} (h : Kb rb w W) (hb : w.heap.size ≤ b) : Kb rb w (W.setCell ⟨b, o, none⟩ v) :=
  ⟨h.os, h.tape, h.output, by simp [World.setCell]; exact h.size, fun k hk hn => (Below.heap_setCell _ _ _ _ (by simp; omega)).trans (h.block k hk hn)⟩
theorem Kb.setRb {rb o : Nat} {w W : World} {v : Value} (h : Kb rb w W) : Kb rb w (W.setCell ⟨rb, o, none⟩ v) := h.trans Kb.set
theorem Kb.blw {rb : Nat} {w W W' : World} (h : Kb rb w W) (b : Below W.heap.size W W') : Kb rb w W' := h.trans (Kb.of_below b)
theorem Stp.fin {P : Rp} {w W : World} {i j : Nat} (h : Rin P w i) (k : Kb P.rb w W) (a : At P W j) (hj : j ≤ P.L.length) : Stp P w W j := ⟨k, a, h.rd.kb k, hj⟩

/-- The token at a place: its four cells. -/
theorem tok_at {P : Rp} {w : World} {i : Nat} (h : Rin P w i) {k : Nat} (hk : k < P.L.length) :
    ∃ (b o : Nat), P.A = some ⟨b, o, none⟩ ∧ b < w.heap.size ∧ w.cell? ⟨b, o + k * 4, none⟩ = some (.int .i64 (nowT P.L k).kind) ∧ w.cell? ⟨b, o + k * 4 + 1, none⟩ = some (.int .i64 (nowT P.L k).n) ∧
      w.cell? ⟨b, o + k * 4 + 2, none⟩ = some (.int .i64 (nowT P.L k).at_) ∧ w.cell? ⟨b, o + k * 4 + 3, none⟩ = some (.string (nowT P.L k).text) ∧ (nowT P.L k).text.size ≤ maxLen ∧
      IntKind.i64.wrap (nowT P.L k).kind = (nowT P.L k).kind ∧ IntKind.i64.wrap (nowT P.L k).n = (nowT P.L k).n := by
  have hq : nowT P.L k = P.L[k] := by unfold nowT; rw [List.getD_eq_getElem?_getD, List.getElem?_eq_getElem hk]; rfl
  have hx : (Tok.ds P.L)[k]? = some (nowT P.L k).d := by rw [Tok.ds, List.getElem?_map, List.getElem?_eq_getElem hk, hq]; rfl
  obtain ⟨b, o, f, hA, hs, hn, hi, hc, hr⟩ := h.rd.at_ hx
  have r0 := (hr 0 _ rfl).int_inv
  have r1 := (hr 1 _ rfl).int_inv
  have r2 := (hr 2 _ rfl).int_inv
  have r3 := (hr 3 _ rfl).str_inv
  have c0 := hc 0 (by omega)
  have c1 := hc 1 (by omega)
  have c2 := hc 2 (by omega)
  have c3 := hc 3 (by omega)
  rw [r0.1] at c0
  rw [r1.1] at c1
  rw [r2.1] at c2
  rw [r3.1] at c3
  exact ⟨b, o, hA, World.block_lt_of_cell? w _ c0, c0, c1, c2, c3, r3.2, r0.2, r1.2⟩
theorem nowT_past {L : List Tok} {i : Nat} (h : L.length ≤ i) : nowT L i = Tok.zero := by unfold nowT; rw [List.getD_eq_getElem?_getD, List.getElem?_eq_none h]; rfl

set_option maxRecDepth 100000 in
theorem now_any (P : Rp) (w : World) (i : Nat) (h : Rin P w i) : Calls Tryd.prog 121 #[.pointer (some ⟨P.rb, 0, none⟩)] w fun e w' => e = .returned (nowT P.L i).v ∧ Below w.heap.size w w' := by
  have hlen := h.len
  have c0 := h.cL
  have c1 := h.cA
  have hb := h.lt
  by_cases hi : i < P.L.length
  · obtain ⟨b, o, hA, hb2, d0, d1, d2, d3, hs, hk, hn⟩ := tok_at h hi
    rw [hA] at c0
    clear hA hk hn
    generalize nowT P.L i = t at d0 d1 d2 d3 hs
    go_enter Tryd.func121, Tryd.ntmps121
    go_wp2_with fail
    go_quiet (fail)
    go_wp2
    go_region
    go_wp2
    exact bodyPost_ret (v := .agg #[.int .i64 t.kind, .int .i64 t.n, .int .i64 t.at_, .string t.text]) (by simp [results, Tryd.results121, go_sem]) rfl ⟨rfl, by with_reducible repeat (first | exact Below.refl _ _ | apply below_drewN' | apply below_drew' | refine below_set' ?_ (Nat.le_refl _) | apply below_alloc')⟩
  · have hle := h.le
    rw [nowT_past (by omega)]
    obtain rfl : i = P.L.length := by omega
    go_enter Tryd.func121, Tryd.ntmps121
    go_wp2_with fail
    go_quiet (fail)
    go_wp2
    exact bodyPost_ret (v := Tok.zero.v) (by simp [results, Tryd.results121, go_sem]; rfl) rfl ⟨rfl, by with_reducible repeat (first | exact Below.refl _ _ | apply below_drewN' | apply below_drew' | refine below_set' ?_ (Nat.le_refl _) | apply below_alloc')⟩

theorem bytes_beq (a b : ByteArray) : (a.toList == b.toList) = decide (a = b) := by
  rw [Bool.eq_iff_iff]
  simp only [beq_iff_eq, decide_eq_true_eq, ByteArray.toList_eq]
  exact ⟨fun h => by cases a; cases b; simp only [ByteArray.mk.injEq]; exact Array.toList_inj.1 h, fun h => by rw [h]⟩
theorem Is_any (P : Rp) (w : World) (i : Nat) (h : Rin P w i) (s : ByteArray) : Calls Tryd.prog 73 #[.pointer (some ⟨P.rb, 0, none⟩), .string s] w fun e w' => e = .returned (.bool (isT P.L i s)) ∧ Below w.heap.size w w' := by
  have hN := now_any P w i h
  unfold isT
  generalize nowT P.L i = t at hN ⊢
  have hs := bytes_beq t.text s
  obtain ⟨kk, nn, aa, tt⟩ := t
  unfold Tok.v at hN
  simp only at hs hN ⊢
  clear h
  by_cases k4 : kk = 4
  · subst k4
    cases hx : decide (tt = s)
    all_goals
      rw [hx] at hs
      go_enter Tryd.func73, Tryd.ntmps73
      go_wp2_with (go_at_call 121; refine hN.mono ?_; rintro e w1 ⟨rfl, hb⟩)
      go_ret
      exact ⟨ret_bool (by simp), by with_reducible repeat (first | exact hb | apply below_drewN' | apply below_drew' | refine below_set' ?_ hb.size | apply below_alloc')⟩
  have g4 : (kk == 4) = false := by rw [beq_eq_false_iff_ne]; exact k4
  have d4 : decide (kk = 4) = false := by simpa using k4
  rw [d4]
  clear k4 d4
  by_cases k2 : kk = 2
  · subst k2
    cases hx : decide (tt = s)
    all_goals
      rw [hx] at hs
      go_enter Tryd.func73, Tryd.ntmps73
      go_wp2_with (go_at_call 121; refine hN.mono ?_; rintro e w1 ⟨rfl, hb⟩)
      go_ret
      exact ⟨ret_bool (by simp), by with_reducible repeat (first | exact hb | apply below_drewN' | apply below_drew' | refine below_set' ?_ hb.size | apply below_alloc')⟩
  have g2 : (kk == 2) = false := by rw [beq_eq_false_iff_ne]; exact k2
  have d2 : decide (kk = 2) = false := by simpa using k2
  rw [d2]
  clear k2 d2
  go_enter Tryd.func73, Tryd.ntmps73
  go_wp2_with (go_at_call 121; refine hN.mono ?_; rintro e w1 ⟨rfl, hb⟩)
  go_ret
  exact ⟨ret_bool (by simp), by with_reducible repeat (first | exact hb | apply below_drewN' | apply below_drew' | refine below_set' ?_ hb.size | apply below_alloc')⟩

theorem Took_any (P : Rp) (w : World) (i : Nat) (h : Rin P w i) (s : ByteArray) : Calls Tryd.prog 122 #[.pointer (some ⟨P.rb, 0, none⟩), .string s] w fun e w' => e = .returned (.bool (isT P.L i s)) ∧ Stp P w w' (if isT P.L i s then i + 1 else i) := by
  have hI := Is_any P w i h s
  have hlt := fun hx => isT_lt (L := P.L) (i := i) (s := s) hx
  cases hx : isT P.L i s <;> simp only [if_true, Bool.false_eq_true, if_false]
  · rw [hx] at hI
    go_enter Tryd.func122, Tryd.ntmps122
    go_wp2_with (go_at_call 73; refine hI.mono ?_; rintro e w1 ⟨rfl, hb⟩)
    go_ret
    exact ⟨rfl, Stp.of_below h hb⟩
  · rw [hx] at hI
    have hlen := h.len
    have hi2 : (i : Int) + 1 ≤ 9223372036854775807 := by have := hlt hx; omega
    have hlt' := Lib.hid (hlt hx)
    clear hlt
    go_enter Tryd.func122, Tryd.ntmps122
    go_wp2_with (go_at_call 73; refine hI.mono ?_; rintro e w1 ⟨rfl, hb⟩; have h1 := h.below hb; have a1 := h1.cA; have a2 := h1.fA)
    go_ret
    exact ⟨rfl, (Stp.of_below h hb).trans ⟨Kb.set, h1.move hlt'.out⟩⟩

/-- What a reader panics with: an error, and its place. -/
def stopV (e : Int) (j : Nat) : Value := .iface 107 (.agg #[.int .i64 e, .int .i64 j])
set_option maxRecDepth 100000 in
theorem Fail_any (P : Rp) (w : World) (i : Nat) (h : Rin P w i) (k : Int) : Calls Tryd.prog 80 #[.pointer (some ⟨P.rb, 0, none⟩), .int .i64 k] w fun e w' => e = .panicked [{ v := stopV k i, recovered := false }] ∧ Below w.heap.size w w' := by
  have hlen := h.len
  have c0 := h.cL
  have c1 := h.cA
  have hle := h.le
  have hm : min (i : Int) (P.L.length : Int) = i := by omega
  have hB : Below w.heap.size w w.drew := below_drew' (Below.refl _ _)
  clear h hle
  go_enter Tryd.func80, Tryd.ntmps80
  go_still_tail 12, (by kernel_rfl)
  change wpList _ _ _ _ _ w.drew
  generalize w.drew = w2 at hB
  go_wp2
  exact ⟨rfl, rfl, hB⟩

theorem Must_any (P : Rp) (w : World) (i : Nat) (h : Rin P w i) (s : ByteArray) : Calls Tryd.prog 75 #[.pointer (some ⟨P.rb, 0, none⟩), .string s] w fun e w' =>
    Stp P w w' (if isT P.L i s then i + 1 else i) ∧ e = (if isT P.L i s then .returned (.tuple #[]) else .panicked [{ v := stopV 2 i, recovered := false }]) := by
  have hT := Took_any P w i h s
  have hF := fun W h => Fail_any P W i h 2
  cases hx : isT P.L i s <;> simp only [if_true, Bool.false_eq_true, if_false]
  all_goals
    rw [hx] at hT
    simp only [if_true, Bool.false_eq_true, if_false] at hT
    go_enter Tryd.func75, Tryd.ntmps75
    go_wp2_with (first
      | (go_at_call 122; refine hT.mono ?_; rintro e w1 ⟨rfl, hb⟩)
      | (go_at_call 80; refine (hF _ hb.rin).mono ?_; rintro e w2 ⟨rfl, hb2⟩))
  · exact ⟨rfl, hb.below hb2, rfl⟩
  · go_end0
    exact ⟨hb, rfl⟩

set_option maxRecDepth 100000 in
set_option maxHeartbeats 400000 in
theorem of_yes (P : Rp) (w : World) (i : Nat) (h : Rin P w i) (k : Int) (hk : (nowT P.L i).kind = k) (k0 : k ≠ 0) : Calls Tryd.prog 124 #[.pointer (some ⟨P.rb, 0, none⟩), .int .i64 k] w fun e w' => e = .returned (nowT P.L i).v ∧ Stp P w w' (i + 1) := by
  have hN := fun o => now_any P (w.alloc o) i (h.below (below_alloc' (Below.refl _ _) o))
  have hA := fun o => below_alloc' (Below.refl w.heap.size w) o
  have hlen := h.len
  have hlt : i < P.L.length := nowT_lt (by rw [hk]; exact k0)
  have hw : wrap64 ((i : Int) + 1) = (i : Int) + 1 := IntWalk.wrap64_in _ (by omega)
  have hrb := h.lt
  have hlt' := Lib.hid hlt
  clear hlt k0 hlen
  generalize nowT P.L i = t at hN hk ⊢
  obtain ⟨kk, nn, aa, tt⟩ := t
  unfold Tok.v at hN ⊢
  simp only at hN hk ⊢
  subst hk
  go_enter Tryd.func124, Tryd.ntmps124
  go_wp2_with fail
  refine (hN _).mono ?_
  rintro e w1 ⟨rfl, hb⟩
  have h0 := h.below ((hA _).trans' hb)
  have a1 := h0.cA
  have a2 := h0.fA
  have a3 := h0.lt
  have hsz : w.heap.size < w1.heap.size := by have := hb.size; simp at this; omega
  have hn1 : ¬ w.heap.size = P.rb := by omega
  have hn2 : ¬ P.rb = w.heap.size := by omega
  obtain ⟨q1, q2⟩ := bcell hb
  have r0 : w1.cell? ⟨w.heap.size, 0, none⟩ = some (.int .i64 0) := by rw [q1 _ _ (by simp)]; simp [go_sem]
  have r1 : w1.cell? ⟨w.heap.size, 1, none⟩ = some (.int .i64 0) := by rw [q1 _ _ (by simp)]; simp [go_sem]
  have r2 : w1.cell? ⟨w.heap.size, 2, none⟩ = some (.int .i64 0) := by rw [q1 _ _ (by simp)]; simp [go_sem]
  have r3 : w1.cell? ⟨w.heap.size, 3, none⟩ = some (.string ⟨#[]⟩) := by rw [q1 _ _ (by simp)]; simp [go_sem]
  have f0 : ∀ j, w1.frozen? ⟨w.heap.size, j, none⟩ = false := fun j => by rw [q2 _ _ (by simp)]; simp [go_sem]
  clear q1 q2
  go_wp2_with fail
  have hK : Kb P.rb w ((((((w1.setCell ⟨P.rb, 1, none⟩ (.int .i64 (i + 1 : Nat))).setCell ⟨w.heap.size, 0, none⟩ (.int .i64 kk)).setCell ⟨w.heap.size, 1, none⟩ (.int .i64 nn)).setCell ⟨w.heap.size, 2, none⟩ (.int .i64 aa)).setCell ⟨w.heap.size, 3, none⟩ (.string tt)).alloc (.cells #[.int .i64 kk, .int .i64 nn, .int .i64 aa, .string tt] 63)) :=
    ((((((Kb.of_below ((hA _).trans' hb)).setRb).setNew (Nat.le_refl _)).setNew (Nat.le_refl _)).setNew (Nat.le_refl _)).setNew (Nat.le_refl _)).alloc _
  have hAt : At P ((((((w1.setCell ⟨P.rb, 1, none⟩ (.int .i64 (i + 1 : Nat))).setCell ⟨w.heap.size, 0, none⟩ (.int .i64 kk)).setCell ⟨w.heap.size, 1, none⟩ (.int .i64 nn)).setCell ⟨w.heap.size, 2, none⟩ (.int .i64 aa)).setCell ⟨w.heap.size, 3, none⟩ (.string tt)).alloc (.cells #[.int .i64 kk, .int .i64 nn, .int .i64 aa, .string tt] 63)) (i + 1) :=
    (((((At.move (j := i + 1) h0.blk).set hrb).set hrb).set hrb).set hrb).alloc _
  have hF : Stp P w _ (i + 1) := Stp.fin h hK hAt hlt'.out
  clear hK hAt
  exact bodyPost_ret (v := .agg #[.int .i64 kk, .int .i64 nn, .int .i64 aa, .string tt]) (by simp [results, Tryd.results124, go_sem, r0, r1, r2, r3, f0, hsz, hn1, hn2]) rfl ⟨rfl, hF⟩

theorem of_no (P : Rp) (w : World) (i : Nat) (h : Rin P w i) (k : Int) (hk : (nowT P.L i).kind ≠ k) : Calls Tryd.prog 124 #[.pointer (some ⟨P.rb, 0, none⟩), .int .i64 k] w fun e w' => e = .panicked [{ v := stopV 2 i, recovered := false }] ∧ Stp P w w' i := by
  have hN := fun o => now_any P (w.alloc o) i (h.below (below_alloc' (Below.refl _ _) o))
  have hA := fun o => below_alloc' (Below.refl w.heap.size w) o
  have hF := fun W h => Fail_any P W i h 2
  generalize nowT P.L i = t at hN hk ⊢
  obtain ⟨kk, nn, aa, tt⟩ := t
  unfold Tok.v at hN
  simp only at hN hk
  have hk' : (kk != k) = true := by simpa using hk
  clear hk
  go_enter Tryd.func124, Tryd.ntmps124
  go_wp2_with (first
    | (go_at_call 121; refine (hN _).mono ?_; rintro e w1 ⟨rfl, hb⟩; have h0 := h.below ((hA _).trans' hb); have a3 := h0.lt)
    | (go_at_call 80; refine (hF _ (h0.below (by with_reducible repeat (first | exact Below.refl _ _ | apply below_drewN' | apply below_drew' | refine below_set' ?_ (Nat.le_refl _) | apply below_alloc')))).mono ?_; rintro e w2 ⟨rfl, hb2⟩))
  exact ⟨rfl, rfl, Stp.of_below h ((below_alloc' ((hA _).trans' hb) _).trans' hb2)⟩

set_option maxRecDepth 100000 in
theorem eName_yes (P : Rp) (w : World) (i : Nat) (h : Rin P w i) (hk : (nowT P.L i).kind = 1) : Calls Tryd.prog 77 #[.pointer (some ⟨P.rb, 0, none⟩)] w fun e w' => e = .returned (.string (nowT P.L i).text) ∧ Stp P w w' (i + 1) := by
  have hO := of_yes P w i h 1 hk (by decide)
  clear hk
  generalize nowT P.L i = t at hO ⊢
  obtain ⟨kk, nn, aa, tt⟩ := t
  unfold Tok.v at hO
  simp only at hO ⊢
  have hfd : ∀ w, (Instr.field 63 (.agg #[.int .i64 kk, .int .i64 nn, .int .i64 aa, .string tt]) 3).run Tryd.prog w = .ok (.string tt) w := fun _ => by kernel_rfl
  go_enter Tryd.func77, Tryd.ntmps77
  go_wp2_with (go_at_call 124; refine hO.mono ?_; rintro e w1 ⟨rfl, hb⟩)
  go_ret
  exact ⟨rfl, hb⟩
theorem eName_no (P : Rp) (w : World) (i : Nat) (h : Rin P w i) (hk : (nowT P.L i).kind ≠ 1) : Calls Tryd.prog 77 #[.pointer (some ⟨P.rb, 0, none⟩)] w fun e w' => e = .panicked [{ v := stopV 2 i, recovered := false }] ∧ Stp P w w' i := by
  have hO := of_no P w i h 1 hk
  clear hk
  go_enter Tryd.func77, Tryd.ntmps77
  go_wp2_with (go_at_call 124; refine hO.mono ?_; rintro e w1 ⟨rfl, hb⟩)
  exact ⟨rfl, rfl, hb⟩
set_option maxRecDepth 100000 in
theorem eInt_yes (P : Rp) (w : World) (i : Nat) (h : Rin P w i) (hk : (nowT P.L i).kind = 3) : Calls Tryd.prog 126 #[.pointer (some ⟨P.rb, 0, none⟩)] w fun e w' => e = .returned (.int .i64 (nowT P.L i).n) ∧ Stp P w w' (i + 1) := by
  have hO := of_yes P w i h 3 hk (by decide)
  clear hk
  generalize nowT P.L i = t at hO ⊢
  obtain ⟨kk, nn, aa, tt⟩ := t
  unfold Tok.v at hO
  simp only at hO ⊢
  have hfd : ∀ w, (Instr.field 63 (.agg #[.int .i64 kk, .int .i64 nn, .int .i64 aa, .string tt]) 1).run Tryd.prog w = .ok (.int .i64 nn) w := fun _ => by kernel_rfl
  go_enter Tryd.func126, Tryd.ntmps126
  go_wp2_with (go_at_call 124; refine hO.mono ?_; rintro e w1 ⟨rfl, hb⟩)
  go_ret
  exact ⟨rfl, hb⟩
theorem eInt_no (P : Rp) (w : World) (i : Nat) (h : Rin P w i) (hk : (nowT P.L i).kind ≠ 3) : Calls Tryd.prog 126 #[.pointer (some ⟨P.rb, 0, none⟩)] w fun e w' => e = .panicked [{ v := stopV 2 i, recovered := false }] ∧ Stp P w w' i := by
  have hO := of_no P w i h 3 hk
  clear hk
  go_enter Tryd.func126, Tryd.ntmps126
  go_wp2_with (go_at_call 124; refine hO.mono ?_; rintro e w1 ⟨rfl, hb⟩)
  exact ⟨rfl, rfl, hb⟩
end Go.Proofs.YtfdpkmpnfalggaaDoor
