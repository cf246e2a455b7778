/- The reader's single and Expr by contracts. -/
import Derived.Test.YtfdpkmpnfalggaaDoorFi
set_option linter.unusedVariables false
set_option linter.unusedSimpArgs false
namespace Go.Proofs.YtfdpkmpnfalggaaDoor
open Go.RowKit

theorem neg_ok {P : Rp} {w : World} {i : Nat} (h : Rin P w i) (k : Nat) : IntKind.i64.wrap (-(nowT P.L k).n) = -(nowT P.L k).n ∧ wrap64 (-(nowT P.L k).n) = -(nowT P.L k).n := by
  have h1 := i64_bd (tok_ok h k).1
  have h2 : 0 ≤ (nowT P.L k).n := by
    by_cases hk : k < P.L.length
    · have hq : nowT P.L k = P.L[k] := by unfold nowT; rw [List.getD_eq_getElem?_getD, List.getElem?_eq_getElem hk]; rfl
      rw [hq]; exact P.ok k _ (List.getElem?_eq_getElem hk)
    · rw [nowT_past (by omega)]; decide
  exact ⟨IntWalk.i64_in _ (by omega), IntWalk.wrap64_in _ (by omega)⟩

set_option maxRecDepth 100000 in
set_option maxHeartbeats 4000000 in
theorem esingle_any (P : Rp) : ∀ (d : Nat), d ≤ 40 → ∀ (w : World) (i : Nat), Rin P w i → Calls Tryd.prog 100 #[.pointer (some ⟨P.rb, 0, none⟩), .int .i64 (40 - (d : Int))] w (SubQ P w (sglP P.L d i)) := by
  intro d
  induction d with
  | zero =>
    intro hd w i h
    have hF := fun W hW => Fail_any P W i hW 4
    have e0 : (40 : Int) - ((0 : Nat) : Int) = 40 := rfl
    rw [e0]
    go_enter Tryd.func100, Tryd.ntmps100
    go_wp2_with (go_at_call 80; (with_reducible refine (hF _ (h.below (below_alloc' (Below.refl _ _) _))).mono ?_); rintro e w1 ⟨rfl, hb⟩)
    exact ⟨rfl, rfl, Kb.of_below ((below_alloc' (Below.refl _ _) _).trans' hb)⟩
  | succ d ih =>
    intro hd w i h
    have hle := h.le
    have hrb := h.lt
    have IH := ih (by omega)
    obtain ⟨wi, hwi⟩ : ∃ wi : Int, wi = 40 - ((d + 1 : Nat) : Int) := ⟨_, rfl⟩
    have hw0 : 0 ≤ wi := by omega
    have hw1 : wi < 40 := by omega
    have hw2 : (40 : Int) - (d : Int) = wi + 1 := by omega
    rw [← hwi]
    have hL : ∀ (w : World) (i : Nat), Rin P w i → Calls Tryd.prog 62 #[.pointer (some ⟨P.rb, 0, none⟩), .int .i64 0, .int .i64 (wi + 1)] w (SubQ P w (levP P.L (sglP P.L d) 5 i)) := by
      intro w i h
      rw [← hw2]
      exact elevel_any P d (by omega) IH 5 0 rfl w i h
    have hFi := fun W hW => efirst_any P (sglP P.L d) (sglP_fits d) wi hw0 hw1 hL W i hW
    rw [hw2] at IH
    have hSg : ∀ (W : World) (b : Nat), Rin P W i → b ≠ P.rb → (b < W.heap.size ∧ ∀ j (hj : j < 4), W.cell? ⟨b, 0 + j, none⟩ = some (.int .i64 (([14, 16, 17, 18] : List Nat)[j] : Nat))) →
        Calls Tryd.prog 101 #[.pointer (some ⟨P.rb, 0, none⟩), .slice (some ⟨b, 0, none⟩) 4 4] W fun e w' => e = .returned (.int .i64 (signV (firstSign P.L i [14, 16, 17, 18]))) ∧ Stp P W w' (signJ i (firstSign P.L i [14, 16, 17, 18])) :=
      fun W b hW hn hc => esign_any P W i hW [14, 16, 17, 18] (by decide) b 0 4 hc.1 hn (by decide) hc.2
    have hc0 : w.heap.size + 1 < ((w.alloc (.cells #[.int .i64 0, .int .i64 0, .string ⟨#[]⟩, .slice none 0 0, .int .i64 0] 110)).alloc (.cells #[.int .i64 14, .int .i64 16, .int .i64 17, .int .i64 18] 3)).heap.size ∧
        ∀ j (hj : j < 4), ((w.alloc (.cells #[.int .i64 0, .int .i64 0, .string ⟨#[]⟩, .slice none 0 0, .int .i64 0] 110)).alloc (.cells #[.int .i64 14, .int .i64 16, .int .i64 17, .int .i64 18] 3)).cell? ⟨w.heap.size + 1, 0 + j, none⟩ = some (.int .i64 (([14, 16, 17, 18] : List Nat)[j] : Nat)) := by
      refine ⟨by simp, fun j hj => ?_⟩
      match j, hj with
      | 0, _ => simp [go_sem]
      | 1, _ => simp [go_sem]
      | 2, _ => simp [go_sem]
      | 3, _ => simp [go_sem]
    unfold sglP
    clear hwi hw2 ih hL
    cases hfs : firstSign P.L i [14, 16, 17, 18] with
    | some k =>
      simp only
      rw [hfs] at hSg
      simp only [signV, signJ] at hSg
      obtain ⟨hkm, hkt⟩ := firstSign_isT hfs
      have hk20 : k < 20 := by simp only [List.mem_cons, List.mem_nil_iff, or_false] at hkm; omega
      have hi1 := isT_lt hkt
      have hk0 : 0 ≤ (k : Int) := by omega
      have hI := fun W hW => IH W (i + 1) hW
      have hf1 := sglP_fits (L := P.L) d (i + 1) (by omega)
      clear hkm hkt hi1 hfs hFi IH
      cases hr : sglP P.L d (i + 1) with
      | err x j =>
        rw [hr] at hI
        have hs := Stp.of_below h (below_alloc' (below_alloc' (Below.refl _ _) (.cells #[.int .i64 0, .int .i64 0, .string ⟨#[]⟩, .slice none 0 0, .int .i64 0] 110)) (.cells #[.int .i64 14, .int .i64 16, .int .i64 17, .int .i64 18] 3))
        have hz := (Zero5.at w w.heap.size rfl).blw (below_alloc' (Below.refl _ _) (.cells #[.int .i64 14, .int .i64 16, .int .i64 17, .int .i64 18] 3))
        go_enter Tryd.func100, Tryd.ntmps100
        go_wp2_with (first
          | (go_at_call 101; (with_reducible refine (hSg _ _ hs.rin (by have := hs.kb.size; omega) hc0).mono ?_); rintro e w2 ⟨rfl, hb2⟩; replace hz := hz.kb hb2.kb (by omega); replace hs := hs.trans hb2; clear hb2)
          | (go_at_call 100; (with_reducible refine (hI _ hs.rin).mono ?_); intro e w3 hq; obtain ⟨rfl, hk⟩ := hq))
        exact ⟨rfl, rfl, hs.kb.trans hk⟩
      | ok x j =>
        rw [hr] at hI hf1
        obtain ⟨hf1, hf2⟩ := hf1
        simp only
        have hMd : ∀ (S : Nat → Prop) (A3 : Option Addr) (c3 : Nat) (W : World) (b : Nat), Rin P W j → KidsAt S W [(x, A3, c3)] b → Calls Tryd.prog 102 #[.pointer (some ⟨P.rb, 0, none⟩), .int .i64 (k : Nat), .slice (some ⟨b, 0, none⟩) 1 1] W (MadeQ S W (mkE k [x] j)) :=
          fun S A3 c3 W b h1 h2 => emade_any P W j h1 k hk20 [(x, A3, c3)] (by simp) b 1 S h2
        have hwalk : ∀ r, mkE k [x] j = r → Calls Tryd.prog 100 #[.pointer (some ⟨P.rb, 0, none⟩), .int .i64 wi] w (SubQ P w r) := by
          intro r hm
          rw [hm] at hMd
          have hj3 : ∀ z j3, r = .ok z j3 → j3 = j := fun z j3 hr => by rw [hr] at hm; unfold mkE at hm; split at hm <;> cases hm; rfl
          clear hm
          have hs := Stp.of_below h (below_alloc' (below_alloc' (Below.refl _ _) (.cells #[.int .i64 0, .int .i64 0, .string ⟨#[]⟩, .slice none 0 0, .int .i64 0] 110)) (.cells #[.int .i64 14, .int .i64 16, .int .i64 17, .int .i64 18] 3))
          have hz := (Zero5.at w w.heap.size rfl).blw (below_alloc' (Below.refl _ _) (.cells #[.int .i64 14, .int .i64 16, .int .i64 17, .int .i64 18] 3))
          cases r with
          | err x2 j2 =>
            clear hj3
            go_enter Tryd.func100, Tryd.ntmps100
            go_wp2_with (first
              | (go_at_call 101; (with_reducible refine (hSg _ _ hs.rin (by have := hs.kb.size; omega) hc0).mono ?_); rintro e w2 ⟨rfl, hb2⟩; replace hz := hz.kb hb2.kb (by omega); replace hs := hs.trans hb2; clear hb2)
              | (go_at_call 100; (with_reducible refine (hI _ hs.rin).mono ?_); intro e w3 hq; obtain ⟨A3, c3, rfl, hE3, hk⟩ := hq; unfold rdVal; have hlz := lt_of_block hz; have hw3 := hs.kb.size; replace hz := hz.kb hk.kb (by omega); replace hs := hs.trans hk)
              | (go_at_call 102; (with_reducible refine (hMd _ A3 c3 _ _ (hs.rin.below (below_alloc' (Below.refl _ _) _)) (kids_one hE3)).mono ?_); intro e w5 hq; obtain ⟨hb5, rfl⟩ := hq))
            exact ⟨rfl, rfl, hs.kb.blw ((below_alloc' (Below.refl _ _) _).trans' hb5)⟩
          | ok z j3 =>
            obtain rfl := hj3 z j3 rfl
            clear hj3
            go_enter Tryd.func100, Tryd.ntmps100
            go_wp2_with (first
              | (go_at_call 101; (with_reducible refine (hSg _ _ hs.rin (by have := hs.kb.size; omega) hc0).mono ?_); rintro e w2 ⟨rfl, hb2⟩; replace hz := hz.kb hb2.kb (by omega); replace hs := hs.trans hb2; clear hb2)
              | (go_at_call 100; (with_reducible refine (hI _ hs.rin).mono ?_); intro e w3 hq; obtain ⟨A3, c3, rfl, hE3, hk⟩ := hq; unfold rdVal; have hlz := lt_of_block hz; have hw3 := hs.kb.size; replace hz := hz.kb hk.kb (by omega); replace hs := hs.trans hk)
              | (go_at_call 102; (with_reducible refine (hMd _ A3 c3 _ _ (hs.rin.below (below_alloc' (Below.refl _ _) _)) (kids_one hE3)).mono ?_); intro e w5 hq; obtain ⟨hb5, A5, c5, rfl, hE5⟩ := hq; unfold rdVal; have hlz3 := lt_of_block hz; replace hz := hz.blw ((below_alloc' (Below.refl _ _) _).trans' hb5); replace hs := hs.below ((below_alloc' (Below.refl _ _) _).trans' hb5); obtain ⟨⟨p0, p1, p2, p3, p4⟩, pf⟩ := hz.cells))
            have hF : SubQ P w (.ok z j3) _ _ := sub_fin h hs (hE5.mono fun b hb => by simp at hb; omega)
            exact bodyPost_ret (v := rdVal z A5 c5) (by unfold rdVal; simp [results, Tryd.results100, go_sem, p0, p1, p2, p3, p4, pf]) rfl hF
        exact hwalk _ rfl
    | none =>
      simp only
      rw [hfs] at hSg
      simp only [signV, signJ] at hSg
      clear hfs IH
      have hs := Stp.of_below h (below_alloc' (below_alloc' (Below.refl _ _) (.cells #[.int .i64 0, .int .i64 0, .string ⟨#[]⟩, .slice none 0 0, .int .i64 0] 110)) (.cells #[.int .i64 14, .int .i64 16, .int .i64 17, .int .i64 18] 3))
      have hz := (Zero5.at w w.heap.size rfl).blw (below_alloc' (Below.refl _ _) (.cells #[.int .i64 14, .int .i64 16, .int .i64 17, .int .i64 18] 3))
      cases y1 : isT P.L i (⟨#[45]⟩ : ByteArray)
      · rw [if_neg (by decide)]
        have hwalk : ∀ r, fstP P.L (sglP P.L d) i = r → Calls Tryd.prog 100 #[.pointer (some ⟨P.rb, 0, none⟩), .int .i64 wi] w (SubQ P w r) := by
          intro r hm
          rw [hm] at hFi
          clear hm
          cases r with
          | err x2 j2 =>
            go_enter Tryd.func100, Tryd.ntmps100
            go_wp2_with (first
              | (go_at_call 101; (with_reducible refine (hSg _ _ hs.rin (by have := hs.kb.size; omega) hc0).mono ?_); rintro e w2 ⟨rfl, hb2⟩; replace hz := hz.kb hb2.kb (by omega); replace hs := hs.trans hb2; clear hb2)
              | (go_at_call 122; (with_reducible refine (Took_no P _ i hs.rin (⟨#[45]⟩ : ByteArray) y1).mono ?_); rintro e w2 ⟨rfl, hb2⟩; replace hz := hz.kb hb2.kb (by omega); replace hs := hs.trans hb2; clear hb2)
              | (go_at_call 149; (with_reducible refine (hFi _ hs.rin).mono ?_); intro e w3 hq; obtain ⟨rfl, hk⟩ := hq))
            exact ⟨rfl, rfl, hs.kb.trans hk⟩
          | ok z j2 =>
            go_enter Tryd.func100, Tryd.ntmps100
            go_wp2_with (first
              | (go_at_call 101; (with_reducible refine (hSg _ _ hs.rin (by have := hs.kb.size; omega) hc0).mono ?_); rintro e w2 ⟨rfl, hb2⟩; replace hz := hz.kb hb2.kb (by omega); replace hs := hs.trans hb2; clear hb2)
              | (go_at_call 122; (with_reducible refine (Took_no P _ i hs.rin (⟨#[45]⟩ : ByteArray) y1).mono ?_); rintro e w2 ⟨rfl, hb2⟩; replace hz := hz.kb hb2.kb (by omega); replace hs := hs.trans hb2; clear hb2)
              | (go_at_call 149; (with_reducible refine (hFi _ hs.rin).mono ?_); intro e w3 hq; obtain ⟨A3, c3, rfl, hE3, hk⟩ := hq; unfold rdVal; have hlz := lt_of_block hz; replace hz := hz.kb hk.kb (by omega); replace hs := hs.trans hk; obtain ⟨⟨p0, p1, p2, p3, p4⟩, pf⟩ := hz.cells))
            have hF : SubQ P w (.ok z j2) _ _ := sub_fin h hs (hE3.mono fun b hb => by have hb' := hb; omega)
            exact bodyPost_ret (v := rdVal z A3 c3) (by unfold rdVal; simp [results, Tryd.results100, go_sem, p0, p1, p2, p3, p4, pf]) rfl hF
        exact hwalk _ rfl
      · rw [if_pos rfl]
        clear hFi
        by_cases q3 : (nowT P.L (i + 1)).kind = 3
        · rw [if_pos q3]
          have hI := fun W hW => eInt_yes P W (i + 1) hW q3
          obtain ⟨n1, n2⟩ := neg_ok h (i + 1)
          clear q3
          generalize (nowT P.L (i + 1)).n = nn at hI n1 n2 ⊢
          have N1 := Lib.hid n1
          go_enter Tryd.func100, Tryd.ntmps100
          go_wp2_with (first
            | (go_at_call 101; (with_reducible refine (hSg _ _ hs.rin (by have := hs.kb.size; omega) hc0).mono ?_); rintro e w2 ⟨rfl, hb2⟩; replace hz := hz.kb hb2.kb (by omega); replace hs := hs.trans hb2; clear hb2)
            | (go_at_call 122; (with_reducible refine (Took_yes P _ i hs.rin (⟨#[45]⟩ : ByteArray) y1).mono ?_); rintro e w2 ⟨rfl, hb2⟩; replace hz := hz.kb hb2.kb (by omega); replace hs := hs.trans hb2; clear hb2)
            | (go_at_call 126; (with_reducible refine (hI _ hs.rin).mono ?_); rintro e w2 ⟨rfl, hb2⟩; replace hz := hz.kb hb2.kb (by omega); replace hs := hs.trans hb2; clear hb2; obtain ⟨⟨p0, p1, p2, p3, p4⟩, pf⟩ := hz.cells))
          have hF : SubQ P w (.ok (leafE 0 (-nn) ByteArray.empty) (i + 1 + 1)) _ _ := sub_fin h hs (leaf_rd (by decide) N1.out (by decide))
          exact bodyPost_ret (v := .agg #[.int .i64 0, .int .i64 (-nn), .string ⟨#[]⟩, .slice none 0 0, .int .i64 1]) (by simp [results, Tryd.results100, go_sem, p0, p1, p2, p3, p4, pf]) rfl hF
        · rw [if_neg q3]
          have hI := fun W hW => eInt_no P W (i + 1) hW q3
          clear q3
          go_enter Tryd.func100, Tryd.ntmps100
          go_wp2_with (first
            | (go_at_call 101; (with_reducible refine (hSg _ _ hs.rin (by have := hs.kb.size; omega) hc0).mono ?_); rintro e w2 ⟨rfl, hb2⟩; replace hz := hz.kb hb2.kb (by omega); replace hs := hs.trans hb2; clear hb2)
            | (go_at_call 122; (with_reducible refine (Took_yes P _ i hs.rin (⟨#[45]⟩ : ByteArray) y1).mono ?_); rintro e w2 ⟨rfl, hb2⟩; replace hz := hz.kb hb2.kb (by omega); replace hs := hs.trans hb2; clear hb2)
            | (go_at_call 126; (with_reducible refine (hI _ hs.rin).mono ?_); rintro e w2 ⟨rfl, hb2⟩))
          exact ⟨rfl, rfl, hs.kb.trans hb2.kb⟩
end Go.Proofs.YtfdpkmpnfalggaaDoor
