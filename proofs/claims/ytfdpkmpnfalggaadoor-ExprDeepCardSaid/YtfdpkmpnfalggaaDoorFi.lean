/- The reader's first by contract: it reads what the plain parser reads. -/
import Derived.Test.YtfdpkmpnfalggaaDoorFs
set_option linter.unusedVariables false
set_option linter.unusedSimpArgs false
namespace Go.Proofs.YtfdpkmpnfalggaaDoor
open Go.RowKit

theorem tok_ok {P : Rp} {w : World} {i : Nat} (h : Rin P w i) (k : Nat) : IntKind.i64.wrap (nowT P.L k).n = (nowT P.L k).n ∧ (nowT P.L k).text.size ≤ maxLen := by
  by_cases hk : k < P.L.length
  · obtain ⟨_, _, _, _, _, _, _, _, h1, _, h2⟩ := tok_at h hk
    exact ⟨h2, h1⟩
  · rw [nowT_past (by omega)]; exact ⟨by decide, by decide⟩

/-- A last comma or bracket: what stands behind a bracket's first expression. -/
def tailP (L : List Tok) (sg : Nat → PR Expr) (x : Expr) (j : Nat) : PR Expr := if isT L j (⟨#[44]⟩ : ByteArray) then twoP L sg 15 x j else if isT L j (⟨#[41]⟩ : ByteArray) then .ok x (j + 1) else .err 2 j

set_option maxRecDepth 100000 in
set_option maxHeartbeats 8000000 in
theorem efirst_any (P : Rp) (sg : Nat → PR Expr) (hsg : ∀ i, i ≤ P.L.length → (sg i).Fits P.L i) (wi : Int) (hw0 : 0 ≤ wi) (hw1 : wi < 40)
    (hL : ∀ (w : World) (i : Nat), Rin P w i → Calls Tryd.prog 62 #[.pointer (some ⟨P.rb, 0, none⟩), .int .i64 0, .int .i64 (wi + 1)] w (SubQ P w (levP P.L sg 5 i))) (w : World) (i : Nat) (h : Rin P w i) :
    Calls Tryd.prog 149 #[.pointer (some ⟨P.rb, 0, none⟩), .int .i64 wi] w (SubQ P w (fstP P.L sg i)) := by
  have hrb := h.lt
  have hle := h.le
  obtain ⟨tn, ts⟩ := tok_ok h i
  obtain ⟨kk, hkk⟩ : ∃ kk, kk = (nowT P.L i).kind := ⟨_, rfl⟩
  obtain ⟨nn, hnn⟩ : ∃ nn, nn = (nowT P.L i).n := ⟨_, rfl⟩
  obtain ⟨aa, haa⟩ : ∃ aa, aa = (nowT P.L i).at_ := ⟨_, rfl⟩
  obtain ⟨tt, htt⟩ : ∃ tt, tt = (nowT P.L i).text := ⟨_, rfl⟩
  have hN : ∀ o, Calls Tryd.prog 121 #[.pointer (some ⟨P.rb, 0, none⟩)] (w.alloc o) fun e w' => e = .returned (.agg #[.int .i64 kk, .int .i64 nn, .int .i64 aa, .string tt]) ∧ Below (w.alloc o).heap.size (w.alloc o) w' := by
    intro o
    rw [hkk, hnn, haa, htt]
    exact now_any P (w.alloc o) i (h.below (below_alloc' (Below.refl _ _) o))
  unfold fstP
  have HN := Lib.hid hnn
  have HT := Lib.hid htt
  clear hnn haa htt
  by_cases k3 : (nowT P.L i).kind = 3
  · rw [if_pos k3]
    have hI := fun W hW => eInt_yes P W i hW k3
    rw [← HN.out] at tn hI ⊢
    obtain rfl : kk = 3 := hkk.trans k3
    clear k3 hkk
    go_enter Tryd.func149, Tryd.ntmps149
    go_wp2_with (first
      | (go_at_call 121; refine (hN _).mono ?_; rintro e w1 ⟨rfl, hb⟩; have hs := Stp.of_below h (below_alloc' ((below_alloc' (Below.refl _ _) _).trans' hb) (.cells #[.int .i64 3, .int .i64 nn, .int .i64 aa, .string tt] 63)); have hz := ((Zero5.at w w.heap.size rfl).blw hb).blw (below_alloc' (Below.refl _ _) (.cells #[.int .i64 3, .int .i64 nn, .int .i64 aa, .string tt] 63)); clear hb)
      | (go_at_call 126; (with_reducible refine (hI _ hs.rin).mono ?_); rintro e w2 ⟨rfl, hb2⟩; replace hz := hz.kb hb2.kb (by omega); replace hs := hs.trans hb2; clear hb2)
      | (go_at_call 174; (with_reducible refine (efirst1_any _ _ _ _).mono ?_); rintro e w3 ⟨rfl, hb3⟩; replace hz := hz.blw hb3; replace hs := hs.below hb3; clear hb3; obtain ⟨⟨p0, p1, p2, p3, p4⟩, pf⟩ := hz.cells))
    have hF : SubQ P w (.ok (leafE 0 nn ByteArray.empty) (i + 1)) _ _ := sub_fin h hs (leaf_rd (by decide) tn (by decide))
    exact bodyPost_ret (v := .agg #[.int .i64 0, .int .i64 nn, .string ⟨#[]⟩, .slice none 0 0, .int .i64 1]) (by simp [results, Tryd.results149, go_sem, p0, p1, p2, p3, p4, pf]) rfl hF
  rw [if_neg k3]
  by_cases k1 : (nowT P.L i).kind = 1
  · rw [if_pos k1]
    have hI := fun W hW => eName_yes P W i hW k1
    rw [← HT.out] at ts hI ⊢
    obtain rfl : kk = 1 := hkk.trans k1
    clear k1 k3 hkk
    go_enter Tryd.func149, Tryd.ntmps149
    go_wp2_with (first
      | (go_at_call 121; refine (hN _).mono ?_; rintro e w1 ⟨rfl, hb⟩; have hs := Stp.of_below h (below_alloc' ((below_alloc' (Below.refl _ _) _).trans' hb) (.cells #[.int .i64 1, .int .i64 nn, .int .i64 aa, .string tt] 63)); have hz := ((Zero5.at w w.heap.size rfl).blw hb).blw (below_alloc' (Below.refl _ _) (.cells #[.int .i64 1, .int .i64 nn, .int .i64 aa, .string tt] 63)); clear hb)
      | (go_at_call 77; (with_reducible refine (hI _ hs.rin).mono ?_); rintro e w2 ⟨rfl, hb2⟩; replace hz := hz.kb hb2.kb (by omega); replace hs := hs.trans hb2; clear hb2)
      | (go_at_call 174; (with_reducible refine (efirst1_any _ _ _ _).mono ?_); rintro e w3 ⟨rfl, hb3⟩; replace hz := hz.blw hb3; replace hs := hs.below hb3; clear hb3; obtain ⟨⟨p0, p1, p2, p3, p4⟩, pf⟩ := hz.cells))
    have hF : SubQ P w (.ok (leafE 2 0 tt) (i + 1)) _ _ := sub_fin h hs (leaf_rd (by decide) (by decide) ts)
    exact bodyPost_ret (v := .agg #[.int .i64 2, .int .i64 0, .string tt, .slice none 0 0, .int .i64 1]) (by simp [results, Tryd.results149, go_sem, p0, p1, p2, p3, p4, pf]) rfl hF
  rw [if_neg k1]
  have g3 : (kk == 3) = false := by rw [beq_eq_false_iff_ne, hkk]; exact k3
  have g1 : (kk == 1) = false := by rw [beq_eq_false_iff_ne, hkk]; exact k1
  clear k1 k3 hkk
  cases xT : isT P.L i (⟨#[116, 114, 117, 101]⟩ : ByteArray)
  rotate_left
  · rw [if_pos rfl]
    go_enter Tryd.func149, Tryd.ntmps149
    go_wp2_with (first
      | (go_at_call 121; refine (hN _).mono ?_; rintro e w1 ⟨rfl, hb⟩; have hs := Stp.of_below h (below_alloc' ((below_alloc' (Below.refl _ _) _).trans' hb) (.cells #[.int .i64 kk, .int .i64 nn, .int .i64 aa, .string tt] 63)); have hz := ((Zero5.at w w.heap.size rfl).blw hb).blw (below_alloc' (Below.refl _ _) (.cells #[.int .i64 kk, .int .i64 nn, .int .i64 aa, .string tt] 63)); clear hb)
      | (go_at_call 122; (with_reducible refine (Took_yes P _ i hs.rin (⟨#[116, 114, 117, 101]⟩ : ByteArray) xT).mono ?_); rintro e w2 ⟨rfl, hb2⟩; replace hz := hz.kb hb2.kb (by omega); replace hs := hs.trans hb2; clear hb2)
      | (go_at_call 174; (with_reducible refine (efirst1_any _ _ _ _).mono ?_); rintro e w3 ⟨rfl, hb3⟩; replace hz := hz.blw hb3; replace hs := hs.below hb3; clear hb3; obtain ⟨⟨p0, p1, p2, p3, p4⟩, pf⟩ := hz.cells))
    have hF : SubQ P w (.ok (leafE 1 1 ByteArray.empty) (i + 1)) _ _ := sub_fin h hs (leaf_rd (by decide) (by decide) (by decide))
    exact bodyPost_ret (v := .agg #[.int .i64 1, .int .i64 1, .string ⟨#[]⟩, .slice none 0 0, .int .i64 1]) (by simp [results, Tryd.results149, go_sem, p0, p1, p2, p3, p4, pf]) rfl hF
  rw [if_neg (by decide)]
  cases xF : isT P.L i (⟨#[102, 97, 108, 115, 101]⟩ : ByteArray)
  rotate_left
  · rw [if_pos rfl]
    go_enter Tryd.func149, Tryd.ntmps149
    go_wp2_with (first
      | (go_at_call 121; refine (hN _).mono ?_; rintro e w1 ⟨rfl, hb⟩; have hs := Stp.of_below h (below_alloc' ((below_alloc' (Below.refl _ _) _).trans' hb) (.cells #[.int .i64 kk, .int .i64 nn, .int .i64 aa, .string tt] 63)); have hz := ((Zero5.at w w.heap.size rfl).blw hb).blw (below_alloc' (Below.refl _ _) (.cells #[.int .i64 kk, .int .i64 nn, .int .i64 aa, .string tt] 63)); clear hb)
      | (go_at_call 122; (with_reducible refine (Took_no P _ i hs.rin (⟨#[116, 114, 117, 101]⟩ : ByteArray) xT).mono ?_); rintro e w2 ⟨rfl, hb2⟩; replace hz := hz.kb hb2.kb (by omega); replace hs := hs.trans hb2; clear hb2)
      | (go_at_call 122; (with_reducible refine (Took_yes P _ i hs.rin (⟨#[102, 97, 108, 115, 101]⟩ : ByteArray) xF).mono ?_); rintro e w2 ⟨rfl, hb2⟩; replace hz := hz.kb hb2.kb (by omega); replace hs := hs.trans hb2; clear hb2)
      | (go_at_call 174; (with_reducible refine (efirst1_any _ _ _ _).mono ?_); rintro e w3 ⟨rfl, hb3⟩; replace hz := hz.blw hb3; replace hs := hs.below hb3; clear hb3; obtain ⟨⟨p0, p1, p2, p3, p4⟩, pf⟩ := hz.cells))
    have hF : SubQ P w (.ok (leafE 1 0 ByteArray.empty) (i + 1)) _ _ := sub_fin h hs (leaf_rd (by decide) (by decide) (by decide))
    exact bodyPost_ret (v := .agg #[.int .i64 1, .int .i64 0, .string ⟨#[]⟩, .slice none 0 0, .int .i64 1]) (by simp [results, Tryd.results149, go_sem, p0, p1, p2, p3, p4, pf]) rfl hF
  rw [if_neg (by decide)]
  cases xQ : isT P.L i (⟨#[39]⟩ : ByteArray)
  rotate_left
  · rw [if_pos rfl]
    by_cases q1 : (nowT P.L (i + 1)).kind = 1
    · rw [if_pos q1]
      have hI := fun W hW => eName_yes P W (i + 1) hW q1
      have tx := (tok_ok h (i + 1)).2
      clear q1
      generalize (nowT P.L (i + 1)).text = t2 at hI tx ⊢
      go_enter Tryd.func149, Tryd.ntmps149
      go_wp2_with (first
        | (go_at_call 121; refine (hN _).mono ?_; rintro e w1 ⟨rfl, hb⟩; have hs := Stp.of_below h (below_alloc' ((below_alloc' (Below.refl _ _) _).trans' hb) (.cells #[.int .i64 kk, .int .i64 nn, .int .i64 aa, .string tt] 63)); have hz := ((Zero5.at w w.heap.size rfl).blw hb).blw (below_alloc' (Below.refl _ _) (.cells #[.int .i64 kk, .int .i64 nn, .int .i64 aa, .string tt] 63)); clear hb)
        | (go_at_call 122; (with_reducible refine (Took_no P _ i hs.rin (⟨#[116, 114, 117, 101]⟩ : ByteArray) xT).mono ?_); rintro e w2 ⟨rfl, hb2⟩; replace hz := hz.kb hb2.kb (by omega); replace hs := hs.trans hb2; clear hb2)
        | (go_at_call 122; (with_reducible refine (Took_no P _ i hs.rin (⟨#[102, 97, 108, 115, 101]⟩ : ByteArray) xF).mono ?_); rintro e w2 ⟨rfl, hb2⟩; replace hz := hz.kb hb2.kb (by omega); replace hs := hs.trans hb2; clear hb2)
        | (go_at_call 122; (with_reducible refine (Took_yes P _ i hs.rin (⟨#[39]⟩ : ByteArray) xQ).mono ?_); rintro e w2 ⟨rfl, hb2⟩; replace hz := hz.kb hb2.kb (by omega); replace hs := hs.trans hb2; clear hb2)
        | (go_at_call 77; (with_reducible refine (hI _ hs.rin).mono ?_); rintro e w2 ⟨rfl, hb2⟩; replace hz := hz.kb hb2.kb (by omega); replace hs := hs.trans hb2; clear hb2)
        | (go_at_call 174; (with_reducible refine (efirst1_any _ _ _ _).mono ?_); rintro e w3 ⟨rfl, hb3⟩; replace hz := hz.blw hb3; replace hs := hs.below hb3; clear hb3; obtain ⟨⟨p0, p1, p2, p3, p4⟩, pf⟩ := hz.cells))
      have hF : SubQ P w (.ok (leafE 3 0 t2) (i + 1 + 1)) _ _ := sub_fin h hs (leaf_rd (by decide) (by decide) tx)
      exact bodyPost_ret (v := .agg #[.int .i64 3, .int .i64 0, .string t2, .slice none 0 0, .int .i64 1]) (by simp [results, Tryd.results149, go_sem, p0, p1, p2, p3, p4, pf]) rfl hF
    · rw [if_neg q1]
      have hI := fun W hW => eName_no P W (i + 1) hW q1
      clear q1
      go_enter Tryd.func149, Tryd.ntmps149
      go_wp2_with (first
        | (go_at_call 121; refine (hN _).mono ?_; rintro e w1 ⟨rfl, hb⟩; have hs := Stp.of_below h (below_alloc' ((below_alloc' (Below.refl _ _) _).trans' hb) (.cells #[.int .i64 kk, .int .i64 nn, .int .i64 aa, .string tt] 63)); have hz := ((Zero5.at w w.heap.size rfl).blw hb).blw (below_alloc' (Below.refl _ _) (.cells #[.int .i64 kk, .int .i64 nn, .int .i64 aa, .string tt] 63)); clear hb)
        | (go_at_call 122; (with_reducible refine (Took_no P _ i hs.rin (⟨#[116, 114, 117, 101]⟩ : ByteArray) xT).mono ?_); rintro e w2 ⟨rfl, hb2⟩; replace hz := hz.kb hb2.kb (by omega); replace hs := hs.trans hb2; clear hb2)
        | (go_at_call 122; (with_reducible refine (Took_no P _ i hs.rin (⟨#[102, 97, 108, 115, 101]⟩ : ByteArray) xF).mono ?_); rintro e w2 ⟨rfl, hb2⟩; replace hz := hz.kb hb2.kb (by omega); replace hs := hs.trans hb2; clear hb2)
        | (go_at_call 122; (with_reducible refine (Took_yes P _ i hs.rin (⟨#[39]⟩ : ByteArray) xQ).mono ?_); rintro e w2 ⟨rfl, hb2⟩; replace hz := hz.kb hb2.kb (by omega); replace hs := hs.trans hb2; clear hb2)
        | (go_at_call 77; (with_reducible refine (hI _ hs.rin).mono ?_); rintro e w2 ⟨rfl, hb2⟩))
      exact ⟨rfl, rfl, hs.kb.trans hb2.kb⟩
  rw [if_neg (by decide)]
  cases xS : isT P.L i (⟨#[115, 101, 108, 102]⟩ : ByteArray)
  rotate_left
  · rw [if_pos rfl]
    go_enter Tryd.func149, Tryd.ntmps149
    go_wp2_with (first
      | (go_at_call 121; refine (hN _).mono ?_; rintro e w1 ⟨rfl, hb⟩; have hs := Stp.of_below h (below_alloc' ((below_alloc' (Below.refl _ _) _).trans' hb) (.cells #[.int .i64 kk, .int .i64 nn, .int .i64 aa, .string tt] 63)); have hz := ((Zero5.at w w.heap.size rfl).blw hb).blw (below_alloc' (Below.refl _ _) (.cells #[.int .i64 kk, .int .i64 nn, .int .i64 aa, .string tt] 63)); clear hb)
      | (go_at_call 122; (with_reducible refine (Took_no P _ i hs.rin (⟨#[116, 114, 117, 101]⟩ : ByteArray) xT).mono ?_); rintro e w2 ⟨rfl, hb2⟩; replace hz := hz.kb hb2.kb (by omega); replace hs := hs.trans hb2; clear hb2)
      | (go_at_call 122; (with_reducible refine (Took_no P _ i hs.rin (⟨#[102, 97, 108, 115, 101]⟩ : ByteArray) xF).mono ?_); rintro e w2 ⟨rfl, hb2⟩; replace hz := hz.kb hb2.kb (by omega); replace hs := hs.trans hb2; clear hb2)
      | (go_at_call 122; (with_reducible refine (Took_no P _ i hs.rin (⟨#[39]⟩ : ByteArray) xQ).mono ?_); rintro e w2 ⟨rfl, hb2⟩; replace hz := hz.kb hb2.kb (by omega); replace hs := hs.trans hb2; clear hb2)
      | (go_at_call 122; (with_reducible refine (Took_yes P _ i hs.rin (⟨#[115, 101, 108, 102]⟩ : ByteArray) xS).mono ?_); rintro e w2 ⟨rfl, hb2⟩; replace hz := hz.kb hb2.kb (by omega); replace hs := hs.trans hb2; clear hb2)
      | (go_at_call 174; (with_reducible refine (efirst1_any _ _ _ _).mono ?_); rintro e w3 ⟨rfl, hb3⟩; replace hz := hz.blw hb3; replace hs := hs.below hb3; clear hb3; obtain ⟨⟨p0, p1, p2, p3, p4⟩, pf⟩ := hz.cells))
    have hF : SubQ P w (.ok (leafE 4 0 ByteArray.empty) (i + 1)) _ _ := sub_fin h hs (leaf_rd (by decide) (by decide) (by decide))
    exact bodyPost_ret (v := .agg #[.int .i64 4, .int .i64 0, .string ⟨#[]⟩, .slice none 0 0, .int .i64 1]) (by simp [results, Tryd.results149, go_sem, p0, p1, p2, p3, p4, pf]) rfl hF
  rw [if_neg (by decide)]
  cases xM : isT P.L i (⟨#[116, 105, 109, 101]⟩ : ByteArray)
  rotate_left
  · rw [if_pos rfl]
    go_enter Tryd.func149, Tryd.ntmps149
    go_wp2_with (first
      | (go_at_call 121; refine (hN _).mono ?_; rintro e w1 ⟨rfl, hb⟩; have hs := Stp.of_below h (below_alloc' ((below_alloc' (Below.refl _ _) _).trans' hb) (.cells #[.int .i64 kk, .int .i64 nn, .int .i64 aa, .string tt] 63)); have hz := ((Zero5.at w w.heap.size rfl).blw hb).blw (below_alloc' (Below.refl _ _) (.cells #[.int .i64 kk, .int .i64 nn, .int .i64 aa, .string tt] 63)); clear hb)
      | (go_at_call 122; (with_reducible refine (Took_no P _ i hs.rin (⟨#[116, 114, 117, 101]⟩ : ByteArray) xT).mono ?_); rintro e w2 ⟨rfl, hb2⟩; replace hz := hz.kb hb2.kb (by omega); replace hs := hs.trans hb2; clear hb2)
      | (go_at_call 122; (with_reducible refine (Took_no P _ i hs.rin (⟨#[102, 97, 108, 115, 101]⟩ : ByteArray) xF).mono ?_); rintro e w2 ⟨rfl, hb2⟩; replace hz := hz.kb hb2.kb (by omega); replace hs := hs.trans hb2; clear hb2)
      | (go_at_call 122; (with_reducible refine (Took_no P _ i hs.rin (⟨#[39]⟩ : ByteArray) xQ).mono ?_); rintro e w2 ⟨rfl, hb2⟩; replace hz := hz.kb hb2.kb (by omega); replace hs := hs.trans hb2; clear hb2)
      | (go_at_call 122; (with_reducible refine (Took_no P _ i hs.rin (⟨#[115, 101, 108, 102]⟩ : ByteArray) xS).mono ?_); rintro e w2 ⟨rfl, hb2⟩; replace hz := hz.kb hb2.kb (by omega); replace hs := hs.trans hb2; clear hb2)
      | (go_at_call 122; (with_reducible refine (Took_yes P _ i hs.rin (⟨#[116, 105, 109, 101]⟩ : ByteArray) xM).mono ?_); rintro e w2 ⟨rfl, hb2⟩; replace hz := hz.kb hb2.kb (by omega); replace hs := hs.trans hb2; clear hb2)
      | (go_at_call 174; (with_reducible refine (efirst1_any _ _ _ _).mono ?_); rintro e w3 ⟨rfl, hb3⟩; replace hz := hz.blw hb3; replace hs := hs.below hb3; clear hb3; obtain ⟨⟨p0, p1, p2, p3, p4⟩, pf⟩ := hz.cells))
    have hF : SubQ P w (.ok (leafE 5 0 ByteArray.empty) (i + 1)) _ _ := sub_fin h hs (leaf_rd (by decide) (by decide) (by decide))
    exact bodyPost_ret (v := .agg #[.int .i64 5, .int .i64 0, .string ⟨#[]⟩, .slice none 0 0, .int .i64 1]) (by simp [results, Tryd.results149, go_sem, p0, p1, p2, p3, p4, pf]) rfl hF
  rw [if_neg (by decide)]
  cases xA : isT P.L i (⟨#[102, 97, 114]⟩ : ByteArray)
  rotate_left
  · rw [if_pos rfl]
    have hi := isT_lt xA
    cases y1 : isT P.L (i + 1) (⟨#[40]⟩ : ByteArray)
    · rw [if_neg (by decide)]
      clear hi
      go_enter Tryd.func149, Tryd.ntmps149
      go_wp2_with (first
        | (go_at_call 121; refine (hN _).mono ?_; rintro e w1 ⟨rfl, hb⟩; have hs := Stp.of_below h (below_alloc' ((below_alloc' (Below.refl _ _) _).trans' hb) (.cells #[.int .i64 kk, .int .i64 nn, .int .i64 aa, .string tt] 63)); have hz := ((Zero5.at w w.heap.size rfl).blw hb).blw (below_alloc' (Below.refl _ _) (.cells #[.int .i64 kk, .int .i64 nn, .int .i64 aa, .string tt] 63)); clear hb)
        | (go_at_call 122; (with_reducible refine (Took_no P _ i hs.rin (⟨#[116, 114, 117, 101]⟩ : ByteArray) xT).mono ?_); rintro e w2 ⟨rfl, hb2⟩; replace hz := hz.kb hb2.kb (by omega); replace hs := hs.trans hb2; clear hb2)
        | (go_at_call 122; (with_reducible refine (Took_no P _ i hs.rin (⟨#[102, 97, 108, 115, 101]⟩ : ByteArray) xF).mono ?_); rintro e w2 ⟨rfl, hb2⟩; replace hz := hz.kb hb2.kb (by omega); replace hs := hs.trans hb2; clear hb2)
        | (go_at_call 122; (with_reducible refine (Took_no P _ i hs.rin (⟨#[39]⟩ : ByteArray) xQ).mono ?_); rintro e w2 ⟨rfl, hb2⟩; replace hz := hz.kb hb2.kb (by omega); replace hs := hs.trans hb2; clear hb2)
        | (go_at_call 122; (with_reducible refine (Took_no P _ i hs.rin (⟨#[115, 101, 108, 102]⟩ : ByteArray) xS).mono ?_); rintro e w2 ⟨rfl, hb2⟩; replace hz := hz.kb hb2.kb (by omega); replace hs := hs.trans hb2; clear hb2)
        | (go_at_call 122; (with_reducible refine (Took_no P _ i hs.rin (⟨#[116, 105, 109, 101]⟩ : ByteArray) xM).mono ?_); rintro e w2 ⟨rfl, hb2⟩; replace hz := hz.kb hb2.kb (by omega); replace hs := hs.trans hb2; clear hb2)
        | (go_at_call 122; (with_reducible refine (Took_yes P _ i hs.rin (⟨#[102, 97, 114]⟩ : ByteArray) xA).mono ?_); rintro e w2 ⟨rfl, hb2⟩; replace hz := hz.kb hb2.kb (by omega); replace hs := hs.trans hb2; clear hb2)
        | (go_at_call 75; (with_reducible refine (Must_no P _ (i + 1) hs.rin (⟨#[40]⟩ : ByteArray) y1).mono ?_); rintro e w2 ⟨rfl, hb2⟩))
      exact ⟨rfl, rfl, hs.kb.trans hb2.kb⟩
    · rw [if_pos rfl]
      have hi1 := isT_lt y1
      have hf := levP_fits hsg 5 (i + 2) (by omega)
      cases hr : levP P.L sg 5 (i + 2) with
      | err x j =>
        clear hi hi1
        go_enter Tryd.func149, Tryd.ntmps149
        go_wp2_with (first
          | (go_at_call 121; refine (hN _).mono ?_; rintro e w1 ⟨rfl, hb⟩; have hs := Stp.of_below h (below_alloc' ((below_alloc' (Below.refl _ _) _).trans' hb) (.cells #[.int .i64 kk, .int .i64 nn, .int .i64 aa, .string tt] 63)); have hz := ((Zero5.at w w.heap.size rfl).blw hb).blw (below_alloc' (Below.refl _ _) (.cells #[.int .i64 kk, .int .i64 nn, .int .i64 aa, .string tt] 63)); clear hb)
          | (go_at_call 122; (with_reducible refine (Took_no P _ i hs.rin (⟨#[116, 114, 117, 101]⟩ : ByteArray) xT).mono ?_); rintro e w2 ⟨rfl, hb2⟩; replace hz := hz.kb hb2.kb (by omega); replace hs := hs.trans hb2; clear hb2)
          | (go_at_call 122; (with_reducible refine (Took_no P _ i hs.rin (⟨#[102, 97, 108, 115, 101]⟩ : ByteArray) xF).mono ?_); rintro e w2 ⟨rfl, hb2⟩; replace hz := hz.kb hb2.kb (by omega); replace hs := hs.trans hb2; clear hb2)
          | (go_at_call 122; (with_reducible refine (Took_no P _ i hs.rin (⟨#[39]⟩ : ByteArray) xQ).mono ?_); rintro e w2 ⟨rfl, hb2⟩; replace hz := hz.kb hb2.kb (by omega); replace hs := hs.trans hb2; clear hb2)
          | (go_at_call 122; (with_reducible refine (Took_no P _ i hs.rin (⟨#[115, 101, 108, 102]⟩ : ByteArray) xS).mono ?_); rintro e w2 ⟨rfl, hb2⟩; replace hz := hz.kb hb2.kb (by omega); replace hs := hs.trans hb2; clear hb2)
          | (go_at_call 122; (with_reducible refine (Took_no P _ i hs.rin (⟨#[116, 105, 109, 101]⟩ : ByteArray) xM).mono ?_); rintro e w2 ⟨rfl, hb2⟩; replace hz := hz.kb hb2.kb (by omega); replace hs := hs.trans hb2; clear hb2)
          | (go_at_call 122; (with_reducible refine (Took_yes P _ i hs.rin (⟨#[102, 97, 114]⟩ : ByteArray) xA).mono ?_); rintro e w2 ⟨rfl, hb2⟩; replace hz := hz.kb hb2.kb (by omega); replace hs := hs.trans hb2; clear hb2)
          | (go_at_call 75; (with_reducible refine (Must_yes P _ (i + 1) hs.rin (⟨#[40]⟩ : ByteArray) y1).mono ?_); rintro e w2 ⟨rfl, hb2⟩; replace hz := hz.kb hb2.kb (by omega); replace hs := hs.trans hb2; clear hb2; have hLv := hL _ _ hs.rin; rw [hr] at hLv)
          | (go_at_call 62; (with_reducible refine hLv.mono ?_); intro e w3 hq; obtain ⟨rfl, hk⟩ := hq))
        exact ⟨rfl, rfl, hs.kb.trans hk⟩
      | ok x j =>
        have hT : ∀ (A : Option Addr) (c : Nat) (S : Nat → Prop) (W : World), Rin P W j → (∀ b, S b → b ≠ P.rb) → RdE S W x A c → Calls Tryd.prog 175 #[.pointer (some ⟨P.rb, 0, none⟩), .int .i64 19, rdVal x A c, .int .i64 (wi + 1)] W (SubQS S P W (twoP P.L sg 19 x j)) := fun A c S W hW hS hE => etwo_any P sg hsg (wi + 1) hL 19 (by decide) x A c S W j hW hS hE
        rw [hr] at hf
        clear hi hi1
        have hwalk : ∀ r, twoP P.L sg 19 x j = r → Calls Tryd.prog 149 #[.pointer (some ⟨P.rb, 0, none⟩), .int .i64 wi] w (SubQ P w r) := by
          intro r hm
          rw [hm] at hT
          clear hm
          cases r with
          | err x2 j2 =>
            go_enter Tryd.func149, Tryd.ntmps149
            go_wp2_with (first
              | (go_at_call 121; refine (hN _).mono ?_; rintro e w1 ⟨rfl, hb⟩; have hs := Stp.of_below h (below_alloc' ((below_alloc' (Below.refl _ _) _).trans' hb) (.cells #[.int .i64 kk, .int .i64 nn, .int .i64 aa, .string tt] 63)); have hz := ((Zero5.at w w.heap.size rfl).blw hb).blw (below_alloc' (Below.refl _ _) (.cells #[.int .i64 kk, .int .i64 nn, .int .i64 aa, .string tt] 63)); clear hb)
              | (go_at_call 122; (with_reducible refine (Took_no P _ i hs.rin (⟨#[116, 114, 117, 101]⟩ : ByteArray) xT).mono ?_); rintro e w2 ⟨rfl, hb2⟩; replace hz := hz.kb hb2.kb (by omega); replace hs := hs.trans hb2; clear hb2)
              | (go_at_call 122; (with_reducible refine (Took_no P _ i hs.rin (⟨#[102, 97, 108, 115, 101]⟩ : ByteArray) xF).mono ?_); rintro e w2 ⟨rfl, hb2⟩; replace hz := hz.kb hb2.kb (by omega); replace hs := hs.trans hb2; clear hb2)
              | (go_at_call 122; (with_reducible refine (Took_no P _ i hs.rin (⟨#[39]⟩ : ByteArray) xQ).mono ?_); rintro e w2 ⟨rfl, hb2⟩; replace hz := hz.kb hb2.kb (by omega); replace hs := hs.trans hb2; clear hb2)
              | (go_at_call 122; (with_reducible refine (Took_no P _ i hs.rin (⟨#[115, 101, 108, 102]⟩ : ByteArray) xS).mono ?_); rintro e w2 ⟨rfl, hb2⟩; replace hz := hz.kb hb2.kb (by omega); replace hs := hs.trans hb2; clear hb2)
              | (go_at_call 122; (with_reducible refine (Took_no P _ i hs.rin (⟨#[116, 105, 109, 101]⟩ : ByteArray) xM).mono ?_); rintro e w2 ⟨rfl, hb2⟩; replace hz := hz.kb hb2.kb (by omega); replace hs := hs.trans hb2; clear hb2)
              | (go_at_call 122; (with_reducible refine (Took_yes P _ i hs.rin (⟨#[102, 97, 114]⟩ : ByteArray) xA).mono ?_); rintro e w2 ⟨rfl, hb2⟩; replace hz := hz.kb hb2.kb (by omega); replace hs := hs.trans hb2; clear hb2)
              | (go_at_call 75; (with_reducible refine (Must_yes P _ (i + 1) hs.rin (⟨#[40]⟩ : ByteArray) y1).mono ?_); rintro e w2 ⟨rfl, hb2⟩; replace hz := hz.kb hb2.kb (by omega); replace hs := hs.trans hb2; clear hb2; have hLv := hL _ _ hs.rin; rw [hr] at hLv)
              | (go_at_call 62; (with_reducible refine hLv.mono ?_); intro e w3 hq; obtain ⟨A3, c3, rfl, hE3, hk⟩ := hq; have hw2 := hs.kb.size; replace hs := hs.trans hk)
              | (go_at_call 175; (with_reducible refine (hT A3 c3 _ _ hs.rin (fun b hb => by have hb' := hb; omega) hE3).mono ?_); intro e w4 hq; obtain ⟨rfl, hk4⟩ := hq))
            exact ⟨rfl, rfl, hs.kb.trans hk4⟩
          | ok z j2 =>
            go_enter Tryd.func149, Tryd.ntmps149
            go_wp2_with (first
              | (go_at_call 121; refine (hN _).mono ?_; rintro e w1 ⟨rfl, hb⟩; have hs := Stp.of_below h (below_alloc' ((below_alloc' (Below.refl _ _) _).trans' hb) (.cells #[.int .i64 kk, .int .i64 nn, .int .i64 aa, .string tt] 63)); have hz := ((Zero5.at w w.heap.size rfl).blw hb).blw (below_alloc' (Below.refl _ _) (.cells #[.int .i64 kk, .int .i64 nn, .int .i64 aa, .string tt] 63)); clear hb)
              | (go_at_call 122; (with_reducible refine (Took_no P _ i hs.rin (⟨#[116, 114, 117, 101]⟩ : ByteArray) xT).mono ?_); rintro e w2 ⟨rfl, hb2⟩; replace hz := hz.kb hb2.kb (by omega); replace hs := hs.trans hb2; clear hb2)
              | (go_at_call 122; (with_reducible refine (Took_no P _ i hs.rin (⟨#[102, 97, 108, 115, 101]⟩ : ByteArray) xF).mono ?_); rintro e w2 ⟨rfl, hb2⟩; replace hz := hz.kb hb2.kb (by omega); replace hs := hs.trans hb2; clear hb2)
              | (go_at_call 122; (with_reducible refine (Took_no P _ i hs.rin (⟨#[39]⟩ : ByteArray) xQ).mono ?_); rintro e w2 ⟨rfl, hb2⟩; replace hz := hz.kb hb2.kb (by omega); replace hs := hs.trans hb2; clear hb2)
              | (go_at_call 122; (with_reducible refine (Took_no P _ i hs.rin (⟨#[115, 101, 108, 102]⟩ : ByteArray) xS).mono ?_); rintro e w2 ⟨rfl, hb2⟩; replace hz := hz.kb hb2.kb (by omega); replace hs := hs.trans hb2; clear hb2)
              | (go_at_call 122; (with_reducible refine (Took_no P _ i hs.rin (⟨#[116, 105, 109, 101]⟩ : ByteArray) xM).mono ?_); rintro e w2 ⟨rfl, hb2⟩; replace hz := hz.kb hb2.kb (by omega); replace hs := hs.trans hb2; clear hb2)
              | (go_at_call 122; (with_reducible refine (Took_yes P _ i hs.rin (⟨#[102, 97, 114]⟩ : ByteArray) xA).mono ?_); rintro e w2 ⟨rfl, hb2⟩; replace hz := hz.kb hb2.kb (by omega); replace hs := hs.trans hb2; clear hb2)
              | (go_at_call 75; (with_reducible refine (Must_yes P _ (i + 1) hs.rin (⟨#[40]⟩ : ByteArray) y1).mono ?_); rintro e w2 ⟨rfl, hb2⟩; replace hz := hz.kb hb2.kb (by omega); replace hs := hs.trans hb2; clear hb2; have hLv := hL _ _ hs.rin; rw [hr] at hLv; have hlz := lt_of_block hz)
              | (go_at_call 62; (with_reducible refine hLv.mono ?_); intro e w3 hq; obtain ⟨A3, c3, rfl, hE3, hk⟩ := hq; replace hz := hz.kb hk.kb (by omega); have hw2 := hs.kb.size; replace hs := hs.trans hk)
              | (go_at_call 175; (with_reducible refine (hT A3 c3 _ _ hs.rin (fun b hb => by have hb' := hb; omega) hE3).mono ?_); intro e w4 hq; obtain ⟨A4, c4, rfl, hE4, hk4⟩ := hq; unfold rdVal; have hlz3 := lt_of_block hz; replace hz := hz.kb hk4.kb (by omega); replace hs := hs.trans hk4; obtain ⟨⟨p0, p1, p2, p3, p4⟩, pf⟩ := hz.cells))
            have hF : SubQ P w (.ok z j2) _ _ := sub_fin h hs (hE4.mono fun b hb => by omega)
            exact bodyPost_ret (v := rdVal z A4 c4) (by unfold rdVal; simp [results, Tryd.results149, go_sem, p0, p1, p2, p3, p4, pf]) rfl hF
        exact hwalk _ rfl
  rw [if_neg (by decide)]
  cases y1 : isT P.L i (⟨#[40]⟩ : ByteArray)
  · rw [if_neg (by decide)]
    go_enter Tryd.func149, Tryd.ntmps149
    go_wp2_with (first
      | (go_at_call 121; refine (hN _).mono ?_; rintro e w1 ⟨rfl, hb⟩; have hs := Stp.of_below h (below_alloc' ((below_alloc' (Below.refl _ _) _).trans' hb) (.cells #[.int .i64 kk, .int .i64 nn, .int .i64 aa, .string tt] 63)); have hz := ((Zero5.at w w.heap.size rfl).blw hb).blw (below_alloc' (Below.refl _ _) (.cells #[.int .i64 kk, .int .i64 nn, .int .i64 aa, .string tt] 63)); clear hb)
      | (go_at_call 122; (with_reducible refine (Took_no P _ i hs.rin (⟨#[116, 114, 117, 101]⟩ : ByteArray) xT).mono ?_); rintro e w2 ⟨rfl, hb2⟩; replace hz := hz.kb hb2.kb (by omega); replace hs := hs.trans hb2; clear hb2)
      | (go_at_call 122; (with_reducible refine (Took_no P _ i hs.rin (⟨#[102, 97, 108, 115, 101]⟩ : ByteArray) xF).mono ?_); rintro e w2 ⟨rfl, hb2⟩; replace hz := hz.kb hb2.kb (by omega); replace hs := hs.trans hb2; clear hb2)
      | (go_at_call 122; (with_reducible refine (Took_no P _ i hs.rin (⟨#[39]⟩ : ByteArray) xQ).mono ?_); rintro e w2 ⟨rfl, hb2⟩; replace hz := hz.kb hb2.kb (by omega); replace hs := hs.trans hb2; clear hb2)
      | (go_at_call 122; (with_reducible refine (Took_no P _ i hs.rin (⟨#[115, 101, 108, 102]⟩ : ByteArray) xS).mono ?_); rintro e w2 ⟨rfl, hb2⟩; replace hz := hz.kb hb2.kb (by omega); replace hs := hs.trans hb2; clear hb2)
      | (go_at_call 122; (with_reducible refine (Took_no P _ i hs.rin (⟨#[116, 105, 109, 101]⟩ : ByteArray) xM).mono ?_); rintro e w2 ⟨rfl, hb2⟩; replace hz := hz.kb hb2.kb (by omega); replace hs := hs.trans hb2; clear hb2)
      | (go_at_call 122; (with_reducible refine (Took_no P _ i hs.rin (⟨#[102, 97, 114]⟩ : ByteArray) xA).mono ?_); rintro e w2 ⟨rfl, hb2⟩; replace hz := hz.kb hb2.kb (by omega); replace hs := hs.trans hb2; clear hb2)
      | (go_at_call 75; (with_reducible refine (Must_no P _ i hs.rin (⟨#[40]⟩ : ByteArray) y1).mono ?_); rintro e w2 ⟨rfl, hb2⟩))
    exact ⟨rfl, rfl, hs.kb.trans hb2.kb⟩
  rw [if_pos rfl]
  have hi1 := isT_lt y1
  have hf := levP_fits hsg 5 (i + 1) (by omega)
  clear hi1
  cases hr : levP P.L sg 5 (i + 1) with
  | err x j =>
    go_enter Tryd.func149, Tryd.ntmps149
    go_wp2_with (first
      | (go_at_call 121; refine (hN _).mono ?_; rintro e w1 ⟨rfl, hb⟩; have hs := Stp.of_below h (below_alloc' ((below_alloc' (Below.refl _ _) _).trans' hb) (.cells #[.int .i64 kk, .int .i64 nn, .int .i64 aa, .string tt] 63)); have hz := ((Zero5.at w w.heap.size rfl).blw hb).blw (below_alloc' (Below.refl _ _) (.cells #[.int .i64 kk, .int .i64 nn, .int .i64 aa, .string tt] 63)); clear hb)
      | (go_at_call 122; (with_reducible refine (Took_no P _ i hs.rin (⟨#[116, 114, 117, 101]⟩ : ByteArray) xT).mono ?_); rintro e w2 ⟨rfl, hb2⟩; replace hz := hz.kb hb2.kb (by omega); replace hs := hs.trans hb2; clear hb2)
      | (go_at_call 122; (with_reducible refine (Took_no P _ i hs.rin (⟨#[102, 97, 108, 115, 101]⟩ : ByteArray) xF).mono ?_); rintro e w2 ⟨rfl, hb2⟩; replace hz := hz.kb hb2.kb (by omega); replace hs := hs.trans hb2; clear hb2)
      | (go_at_call 122; (with_reducible refine (Took_no P _ i hs.rin (⟨#[39]⟩ : ByteArray) xQ).mono ?_); rintro e w2 ⟨rfl, hb2⟩; replace hz := hz.kb hb2.kb (by omega); replace hs := hs.trans hb2; clear hb2)
      | (go_at_call 122; (with_reducible refine (Took_no P _ i hs.rin (⟨#[115, 101, 108, 102]⟩ : ByteArray) xS).mono ?_); rintro e w2 ⟨rfl, hb2⟩; replace hz := hz.kb hb2.kb (by omega); replace hs := hs.trans hb2; clear hb2)
      | (go_at_call 122; (with_reducible refine (Took_no P _ i hs.rin (⟨#[116, 105, 109, 101]⟩ : ByteArray) xM).mono ?_); rintro e w2 ⟨rfl, hb2⟩; replace hz := hz.kb hb2.kb (by omega); replace hs := hs.trans hb2; clear hb2)
      | (go_at_call 122; (with_reducible refine (Took_no P _ i hs.rin (⟨#[102, 97, 114]⟩ : ByteArray) xA).mono ?_); rintro e w2 ⟨rfl, hb2⟩; replace hz := hz.kb hb2.kb (by omega); replace hs := hs.trans hb2; clear hb2)
      | (go_at_call 75; (with_reducible refine (Must_yes P _ i hs.rin (⟨#[40]⟩ : ByteArray) y1).mono ?_); rintro e w2 ⟨rfl, hb2⟩; replace hz := hz.kb hb2.kb (by omega); replace hs := hs.trans hb2; clear hb2; have hLv := hL _ _ hs.rin; rw [hr] at hLv; have hlz := lt_of_block hz)
      | (go_at_call 62; (with_reducible refine hLv.mono ?_); intro e w3 hq; obtain ⟨rfl, hk⟩ := hq))
    exact ⟨rfl, rfl, hs.kb.trans hk⟩
  | ok x j =>
    rw [hr] at hf
    simp only
    cases y2 : isT P.L j (⟨#[44]⟩ : ByteArray)
    · rw [if_neg (by decide)]
      cases y3 : isT P.L j (⟨#[41]⟩ : ByteArray)
      · rw [if_neg (by decide)]
        go_enter Tryd.func149, Tryd.ntmps149
        go_wp2_with (first
          | (go_at_call 121; refine (hN _).mono ?_; rintro e w1 ⟨rfl, hb⟩; have hs := Stp.of_below h (below_alloc' ((below_alloc' (Below.refl _ _) _).trans' hb) (.cells #[.int .i64 kk, .int .i64 nn, .int .i64 aa, .string tt] 63)); have hz := ((Zero5.at w w.heap.size rfl).blw hb).blw (below_alloc' (Below.refl _ _) (.cells #[.int .i64 kk, .int .i64 nn, .int .i64 aa, .string tt] 63)); clear hb)
          | (go_at_call 122; (with_reducible refine (Took_no P _ i hs.rin (⟨#[116, 114, 117, 101]⟩ : ByteArray) xT).mono ?_); rintro e w2 ⟨rfl, hb2⟩; replace hz := hz.kb hb2.kb (by omega); replace hs := hs.trans hb2; clear hb2)
          | (go_at_call 122; (with_reducible refine (Took_no P _ i hs.rin (⟨#[102, 97, 108, 115, 101]⟩ : ByteArray) xF).mono ?_); rintro e w2 ⟨rfl, hb2⟩; replace hz := hz.kb hb2.kb (by omega); replace hs := hs.trans hb2; clear hb2)
          | (go_at_call 122; (with_reducible refine (Took_no P _ i hs.rin (⟨#[39]⟩ : ByteArray) xQ).mono ?_); rintro e w2 ⟨rfl, hb2⟩; replace hz := hz.kb hb2.kb (by omega); replace hs := hs.trans hb2; clear hb2)
          | (go_at_call 122; (with_reducible refine (Took_no P _ i hs.rin (⟨#[115, 101, 108, 102]⟩ : ByteArray) xS).mono ?_); rintro e w2 ⟨rfl, hb2⟩; replace hz := hz.kb hb2.kb (by omega); replace hs := hs.trans hb2; clear hb2)
          | (go_at_call 122; (with_reducible refine (Took_no P _ i hs.rin (⟨#[116, 105, 109, 101]⟩ : ByteArray) xM).mono ?_); rintro e w2 ⟨rfl, hb2⟩; replace hz := hz.kb hb2.kb (by omega); replace hs := hs.trans hb2; clear hb2)
          | (go_at_call 122; (with_reducible refine (Took_no P _ i hs.rin (⟨#[102, 97, 114]⟩ : ByteArray) xA).mono ?_); rintro e w2 ⟨rfl, hb2⟩; replace hz := hz.kb hb2.kb (by omega); replace hs := hs.trans hb2; clear hb2)
          | (go_at_call 75; (with_reducible refine (Must_yes P _ i hs.rin (⟨#[40]⟩ : ByteArray) y1).mono ?_); rintro e w2 ⟨rfl, hb2⟩; replace hz := hz.kb hb2.kb (by omega); replace hs := hs.trans hb2; clear hb2; have hLv := hL _ _ hs.rin; rw [hr] at hLv; have hlz := lt_of_block hz)
          | (go_at_call 62; (with_reducible refine hLv.mono ?_); intro e w3 hq; obtain ⟨A3, c3, rfl, hE3, hk⟩ := hq; unfold rdVal; replace hz := (hz.kb hk.kb (by omega)).blw (below_alloc' (Below.refl _ _) (.cells #[.int .i64 x.kind, .int .i64 x.n, .string x.name, .slice A3 x.kids.length c3, .int .i64 (x.depth : Nat)] 110)); have hw2 := hs.kb.size; replace hs := (hs.trans hk).below (below_alloc' (Below.refl _ _) (.cells #[.int .i64 x.kind, .int .i64 x.n, .string x.name, .slice A3 x.kids.length c3, .int .i64 (x.depth : Nat)] 110)); have hx := X5.new w3 x A3 c3; have hlx := hk.rin.lt; replace hE3 := hE3.lt.blw (below_alloc' (Below.refl _ _) (.cells #[.int .i64 x.kind, .int .i64 x.n, .string x.name, .slice A3 x.kids.length c3, .int .i64 (x.depth : Nat)] 110)))
          | (go_at_call 73; (with_reducible refine (Is_is P _ j hs.rin (⟨#[44]⟩ : ByteArray) false y2).mono ?_); rintro e w4 ⟨rfl, hb4⟩; replace hz := hz.kb hb4.kb (by omega); replace hx := hx.kb hb4.kb (by omega); replace hs := hs.trans hb4; replace hE3 := hE3.kb hb4.kb (fun b hb => by have hb' := hb.1; omega); obtain ⟨⟨x0, x1, x2, x3, x4⟩, xf⟩ := read_cells hx; clear hb4)
          | (go_at_call 75; (with_reducible refine (Must_no P _ j hs.rin (⟨#[41]⟩ : ByteArray) y3).mono ?_); rintro e w5 ⟨rfl, hb5⟩))
        exact ⟨rfl, rfl, hs.kb.trans hb5.kb⟩
      · rw [if_pos rfl]
        go_enter Tryd.func149, Tryd.ntmps149
        go_wp2_with (first
          | (go_at_call 121; refine (hN _).mono ?_; rintro e w1 ⟨rfl, hb⟩; have hs := Stp.of_below h (below_alloc' ((below_alloc' (Below.refl _ _) _).trans' hb) (.cells #[.int .i64 kk, .int .i64 nn, .int .i64 aa, .string tt] 63)); have hz := ((Zero5.at w w.heap.size rfl).blw hb).blw (below_alloc' (Below.refl _ _) (.cells #[.int .i64 kk, .int .i64 nn, .int .i64 aa, .string tt] 63)); clear hb)
          | (go_at_call 122; (with_reducible refine (Took_no P _ i hs.rin (⟨#[116, 114, 117, 101]⟩ : ByteArray) xT).mono ?_); rintro e w2 ⟨rfl, hb2⟩; replace hz := hz.kb hb2.kb (by omega); replace hs := hs.trans hb2; clear hb2)
          | (go_at_call 122; (with_reducible refine (Took_no P _ i hs.rin (⟨#[102, 97, 108, 115, 101]⟩ : ByteArray) xF).mono ?_); rintro e w2 ⟨rfl, hb2⟩; replace hz := hz.kb hb2.kb (by omega); replace hs := hs.trans hb2; clear hb2)
          | (go_at_call 122; (with_reducible refine (Took_no P _ i hs.rin (⟨#[39]⟩ : ByteArray) xQ).mono ?_); rintro e w2 ⟨rfl, hb2⟩; replace hz := hz.kb hb2.kb (by omega); replace hs := hs.trans hb2; clear hb2)
          | (go_at_call 122; (with_reducible refine (Took_no P _ i hs.rin (⟨#[115, 101, 108, 102]⟩ : ByteArray) xS).mono ?_); rintro e w2 ⟨rfl, hb2⟩; replace hz := hz.kb hb2.kb (by omega); replace hs := hs.trans hb2; clear hb2)
          | (go_at_call 122; (with_reducible refine (Took_no P _ i hs.rin (⟨#[116, 105, 109, 101]⟩ : ByteArray) xM).mono ?_); rintro e w2 ⟨rfl, hb2⟩; replace hz := hz.kb hb2.kb (by omega); replace hs := hs.trans hb2; clear hb2)
          | (go_at_call 122; (with_reducible refine (Took_no P _ i hs.rin (⟨#[102, 97, 114]⟩ : ByteArray) xA).mono ?_); rintro e w2 ⟨rfl, hb2⟩; replace hz := hz.kb hb2.kb (by omega); replace hs := hs.trans hb2; clear hb2)
          | (go_at_call 75; (with_reducible refine (Must_yes P _ i hs.rin (⟨#[40]⟩ : ByteArray) y1).mono ?_); rintro e w2 ⟨rfl, hb2⟩; replace hz := hz.kb hb2.kb (by omega); replace hs := hs.trans hb2; clear hb2; have hLv := hL _ _ hs.rin; rw [hr] at hLv; have hlz := lt_of_block hz)
          | (go_at_call 62; (with_reducible refine hLv.mono ?_); intro e w3 hq; obtain ⟨A3, c3, rfl, hE3, hk⟩ := hq; unfold rdVal; replace hz := (hz.kb hk.kb (by omega)).blw (below_alloc' (Below.refl _ _) (.cells #[.int .i64 x.kind, .int .i64 x.n, .string x.name, .slice A3 x.kids.length c3, .int .i64 (x.depth : Nat)] 110)); have hw2 := hs.kb.size; replace hs := (hs.trans hk).below (below_alloc' (Below.refl _ _) (.cells #[.int .i64 x.kind, .int .i64 x.n, .string x.name, .slice A3 x.kids.length c3, .int .i64 (x.depth : Nat)] 110)); have hx := X5.new w3 x A3 c3; have hlx := hk.rin.lt; replace hE3 := hE3.lt.blw (below_alloc' (Below.refl _ _) (.cells #[.int .i64 x.kind, .int .i64 x.n, .string x.name, .slice A3 x.kids.length c3, .int .i64 (x.depth : Nat)] 110)))
          | (go_at_call 73; (with_reducible refine (Is_is P _ j hs.rin (⟨#[44]⟩ : ByteArray) false y2).mono ?_); rintro e w4 ⟨rfl, hb4⟩; replace hz := hz.kb hb4.kb (by omega); replace hx := hx.kb hb4.kb (by omega); replace hs := hs.trans hb4; replace hE3 := hE3.kb hb4.kb (fun b hb => by have hb' := hb.1; omega); obtain ⟨⟨x0, x1, x2, x3, x4⟩, xf⟩ := read_cells hx; clear hb4)
          | (go_at_call 75; (with_reducible refine (Must_yes P _ j hs.rin (⟨#[41]⟩ : ByteArray) y3).mono ?_); rintro e w5 ⟨rfl, hb5⟩; clear x0 x1 x2 x3 x4 xf; replace hz := hz.kb hb5.kb (by omega); replace hx := hx.kb hb5.kb (by omega); replace hs := hs.trans hb5; replace hE3 := hE3.kb hb5.kb (fun b hb => by have hb' := hb.1; omega); obtain ⟨⟨x0, x1, x2, x3, x4⟩, xf⟩ := read_cells hx; obtain ⟨⟨p0, p1, p2, p3, p4⟩, pf⟩ := hz.cells))
        have hF : SubQ P w (.ok x (j + 1)) _ _ := sub_fin h hs (hE3.mono fun b hb => by have hb' := hb.1; omega)
        exact bodyPost_ret (v := rdVal x A3 c3) (by unfold rdVal; simp [results, Tryd.results149, go_sem, p0, p1, p2, p3, p4, pf]) rfl hF
    · rw [if_pos rfl]
      have hT : ∀ (A : Option Addr) (c : Nat) (S : Nat → Prop) (W : World), Rin P W j → (∀ b, S b → b ≠ P.rb) → RdE S W x A c → Calls Tryd.prog 175 #[.pointer (some ⟨P.rb, 0, none⟩), .int .i64 15, rdVal x A c, .int .i64 (wi + 1)] W (SubQS S P W (twoP P.L sg 15 x j)) := fun A c S W hW hS hE => etwo_any P sg hsg (wi + 1) hL 15 (by decide) x A c S W j hW hS hE
      have hwalk : ∀ r, twoP P.L sg 15 x j = r → Calls Tryd.prog 149 #[.pointer (some ⟨P.rb, 0, none⟩), .int .i64 wi] w (SubQ P w r) := by
        intro r hm
        rw [hm] at hT
        clear hm
        unfold rdVal at hT
        cases r with
        | err x2 j2 =>
          go_enter Tryd.func149, Tryd.ntmps149
          go_wp2_with (first
            | (go_at_call 121; refine (hN _).mono ?_; rintro e w1 ⟨rfl, hb⟩; have hs := Stp.of_below h (below_alloc' ((below_alloc' (Below.refl _ _) _).trans' hb) (.cells #[.int .i64 kk, .int .i64 nn, .int .i64 aa, .string tt] 63)); have hz := ((Zero5.at w w.heap.size rfl).blw hb).blw (below_alloc' (Below.refl _ _) (.cells #[.int .i64 kk, .int .i64 nn, .int .i64 aa, .string tt] 63)); clear hb)
            | (go_at_call 122; (with_reducible refine (Took_no P _ i hs.rin (⟨#[116, 114, 117, 101]⟩ : ByteArray) xT).mono ?_); rintro e w2 ⟨rfl, hb2⟩; replace hz := hz.kb hb2.kb (by omega); replace hs := hs.trans hb2; clear hb2)
            | (go_at_call 122; (with_reducible refine (Took_no P _ i hs.rin (⟨#[102, 97, 108, 115, 101]⟩ : ByteArray) xF).mono ?_); rintro e w2 ⟨rfl, hb2⟩; replace hz := hz.kb hb2.kb (by omega); replace hs := hs.trans hb2; clear hb2)
            | (go_at_call 122; (with_reducible refine (Took_no P _ i hs.rin (⟨#[39]⟩ : ByteArray) xQ).mono ?_); rintro e w2 ⟨rfl, hb2⟩; replace hz := hz.kb hb2.kb (by omega); replace hs := hs.trans hb2; clear hb2)
            | (go_at_call 122; (with_reducible refine (Took_no P _ i hs.rin (⟨#[115, 101, 108, 102]⟩ : ByteArray) xS).mono ?_); rintro e w2 ⟨rfl, hb2⟩; replace hz := hz.kb hb2.kb (by omega); replace hs := hs.trans hb2; clear hb2)
            | (go_at_call 122; (with_reducible refine (Took_no P _ i hs.rin (⟨#[116, 105, 109, 101]⟩ : ByteArray) xM).mono ?_); rintro e w2 ⟨rfl, hb2⟩; replace hz := hz.kb hb2.kb (by omega); replace hs := hs.trans hb2; clear hb2)
            | (go_at_call 122; (with_reducible refine (Took_no P _ i hs.rin (⟨#[102, 97, 114]⟩ : ByteArray) xA).mono ?_); rintro e w2 ⟨rfl, hb2⟩; replace hz := hz.kb hb2.kb (by omega); replace hs := hs.trans hb2; clear hb2)
            | (go_at_call 75; (with_reducible refine (Must_yes P _ i hs.rin (⟨#[40]⟩ : ByteArray) y1).mono ?_); rintro e w2 ⟨rfl, hb2⟩; replace hz := hz.kb hb2.kb (by omega); replace hs := hs.trans hb2; clear hb2; have hLv := hL _ _ hs.rin; rw [hr] at hLv; have hlz := lt_of_block hz)
            | (go_at_call 62; (with_reducible refine hLv.mono ?_); intro e w3 hq; obtain ⟨A3, c3, rfl, hE3, hk⟩ := hq; unfold rdVal; replace hz := (hz.kb hk.kb (by omega)).blw (below_alloc' (Below.refl _ _) (.cells #[.int .i64 x.kind, .int .i64 x.n, .string x.name, .slice A3 x.kids.length c3, .int .i64 (x.depth : Nat)] 110)); have hw2 := hs.kb.size; replace hs := (hs.trans hk).below (below_alloc' (Below.refl _ _) (.cells #[.int .i64 x.kind, .int .i64 x.n, .string x.name, .slice A3 x.kids.length c3, .int .i64 (x.depth : Nat)] 110)); have hx := X5.new w3 x A3 c3; have hlx := hk.rin.lt; replace hE3 := hE3.lt.blw (below_alloc' (Below.refl _ _) (.cells #[.int .i64 x.kind, .int .i64 x.n, .string x.name, .slice A3 x.kids.length c3, .int .i64 (x.depth : Nat)] 110)))
            | (go_at_call 73; (with_reducible refine (Is_is P _ j hs.rin (⟨#[44]⟩ : ByteArray) true y2).mono ?_); rintro e w4 ⟨rfl, hb4⟩; replace hz := hz.kb hb4.kb (by omega); replace hx := hx.kb hb4.kb (by omega); replace hs := hs.trans hb4; replace hE3 := hE3.kb hb4.kb (fun b hb => by have hb' := hb.1; omega); obtain ⟨⟨x0, x1, x2, x3, x4⟩, xf⟩ := read_cells hx; clear hb4)
            | (go_at_call 175; (with_reducible refine (hT A3 c3 _ _ hs.rin (fun b hb => by have hb' := hb.1; omega) hE3).mono ?_); intro e w5 hq; obtain ⟨rfl, hk5⟩ := hq))
          exact ⟨rfl, rfl, hs.kb.trans hk5⟩
        | ok z j2 =>
          go_enter Tryd.func149, Tryd.ntmps149
          go_wp2_with (first
            | (go_at_call 121; refine (hN _).mono ?_; rintro e w1 ⟨rfl, hb⟩; have hs := Stp.of_below h (below_alloc' ((below_alloc' (Below.refl _ _) _).trans' hb) (.cells #[.int .i64 kk, .int .i64 nn, .int .i64 aa, .string tt] 63)); have hz := ((Zero5.at w w.heap.size rfl).blw hb).blw (below_alloc' (Below.refl _ _) (.cells #[.int .i64 kk, .int .i64 nn, .int .i64 aa, .string tt] 63)); clear hb)
            | (go_at_call 122; (with_reducible refine (Took_no P _ i hs.rin (⟨#[116, 114, 117, 101]⟩ : ByteArray) xT).mono ?_); rintro e w2 ⟨rfl, hb2⟩; replace hz := hz.kb hb2.kb (by omega); replace hs := hs.trans hb2; clear hb2)
            | (go_at_call 122; (with_reducible refine (Took_no P _ i hs.rin (⟨#[102, 97, 108, 115, 101]⟩ : ByteArray) xF).mono ?_); rintro e w2 ⟨rfl, hb2⟩; replace hz := hz.kb hb2.kb (by omega); replace hs := hs.trans hb2; clear hb2)
            | (go_at_call 122; (with_reducible refine (Took_no P _ i hs.rin (⟨#[39]⟩ : ByteArray) xQ).mono ?_); rintro e w2 ⟨rfl, hb2⟩; replace hz := hz.kb hb2.kb (by omega); replace hs := hs.trans hb2; clear hb2)
            | (go_at_call 122; (with_reducible refine (Took_no P _ i hs.rin (⟨#[115, 101, 108, 102]⟩ : ByteArray) xS).mono ?_); rintro e w2 ⟨rfl, hb2⟩; replace hz := hz.kb hb2.kb (by omega); replace hs := hs.trans hb2; clear hb2)
            | (go_at_call 122; (with_reducible refine (Took_no P _ i hs.rin (⟨#[116, 105, 109, 101]⟩ : ByteArray) xM).mono ?_); rintro e w2 ⟨rfl, hb2⟩; replace hz := hz.kb hb2.kb (by omega); replace hs := hs.trans hb2; clear hb2)
            | (go_at_call 122; (with_reducible refine (Took_no P _ i hs.rin (⟨#[102, 97, 114]⟩ : ByteArray) xA).mono ?_); rintro e w2 ⟨rfl, hb2⟩; replace hz := hz.kb hb2.kb (by omega); replace hs := hs.trans hb2; clear hb2)
            | (go_at_call 75; (with_reducible refine (Must_yes P _ i hs.rin (⟨#[40]⟩ : ByteArray) y1).mono ?_); rintro e w2 ⟨rfl, hb2⟩; replace hz := hz.kb hb2.kb (by omega); replace hs := hs.trans hb2; clear hb2; have hLv := hL _ _ hs.rin; rw [hr] at hLv; have hlz := lt_of_block hz)
            | (go_at_call 62; (with_reducible refine hLv.mono ?_); intro e w3 hq; obtain ⟨A3, c3, rfl, hE3, hk⟩ := hq; unfold rdVal; replace hz := (hz.kb hk.kb (by omega)).blw (below_alloc' (Below.refl _ _) (.cells #[.int .i64 x.kind, .int .i64 x.n, .string x.name, .slice A3 x.kids.length c3, .int .i64 (x.depth : Nat)] 110)); have hw2 := hs.kb.size; replace hs := (hs.trans hk).below (below_alloc' (Below.refl _ _) (.cells #[.int .i64 x.kind, .int .i64 x.n, .string x.name, .slice A3 x.kids.length c3, .int .i64 (x.depth : Nat)] 110)); have hx := X5.new w3 x A3 c3; have hlx := hk.rin.lt; replace hE3 := hE3.lt.blw (below_alloc' (Below.refl _ _) (.cells #[.int .i64 x.kind, .int .i64 x.n, .string x.name, .slice A3 x.kids.length c3, .int .i64 (x.depth : Nat)] 110)))
            | (go_at_call 73; (with_reducible refine (Is_is P _ j hs.rin (⟨#[44]⟩ : ByteArray) true y2).mono ?_); rintro e w4 ⟨rfl, hb4⟩; replace hz := hz.kb hb4.kb (by omega); replace hx := hx.kb hb4.kb (by omega); replace hs := hs.trans hb4; replace hE3 := hE3.kb hb4.kb (fun b hb => by have hb' := hb.1; omega); obtain ⟨⟨x0, x1, x2, x3, x4⟩, xf⟩ := read_cells hx; clear hb4)
            | (go_at_call 175; (with_reducible refine (hT A3 c3 _ _ hs.rin (fun b hb => by have hb' := hb.1; omega) hE3).mono ?_); intro e w5 hq; obtain ⟨A5, c5, rfl, hE5, hk5⟩ := hq; unfold rdVal; have hlz3 := lt_of_block hz; replace hz := hz.kb hk5.kb (by omega); replace hs := hs.trans hk5; obtain ⟨⟨p0, p1, p2, p3, p4⟩, pf⟩ := hz.cells))
          have hF : SubQ P w (.ok z j2) _ _ := sub_fin h hs (hE5.mono fun b hb => by omega)
          exact bodyPost_ret (v := rdVal z A5 c5) (by unfold rdVal; simp [results, Tryd.results149, go_sem, p0, p1, p2, p3, p4, pf]) rfl hF
      exact hwalk _ rfl
end Go.Proofs.YtfdpkmpnfalggaaDoor
