/- check.key, check.plain, check.joined, check.kind, check.Kind by contracts. -/
import Derived.Test.YtfdpkmpnfalggaaDoorRight
import Derived.Deep.RegionHeld3
set_option linter.unusedVariables false
set_option linter.unusedSimpArgs false
namespace Go.Proofs.YtfdpkmpnfalggaaDoor
open Go.RowKit

structure Key where
  name : ByteArray
  kind : Int
  shared : Bool
def Key.d (k : Key) : List D := [.s k.name, .i .i64 k.kind, .b k.shared]
def Key.ds (l : List Key) : List (List D) := l.map Key.d
@[simp] theorem Key.ds_length (l : List Key) : (Key.ds l).length = l.length := by simp [Key.ds]
theorem key_at {S : Nat → Prop} {w : World} {l : List Key} {A : Option Addr} {n c : Nat} (h : RdV S w (.l 3 (Key.ds l)) (.slice A n c)) {k : Nat} (hk : k < l.length) :
    ∃ (b o : Nat), A = some ⟨b, o, none⟩ ∧ S b ∧ b < w.heap.size ∧ n = l.length ∧ w.cell? ⟨b, o + k * 3, none⟩ = some (.string l[k].name) ∧ w.cell? ⟨b, o + k * 3 + 1, none⟩ = some (.int .i64 l[k].kind) ∧
      w.cell? ⟨b, o + k * 3 + 2, none⟩ = some (.bool l[k].shared) ∧ l[k].name.size ≤ maxLen ∧ IntKind.i64.wrap l[k].kind = l[k].kind := by
  have hx : (Key.ds l)[k]? = some l[k].d := by rw [Key.ds, List.getElem?_map, List.getElem?_eq_getElem hk]; rfl
  obtain ⟨b, o, f, rfl, hs, hn, hi, hc, hr⟩ := h.at_ hx
  have r0 := (hr 0 _ rfl).str_inv
  have r1 := (hr 1 _ rfl).int_inv
  have r2 := (hr 2 _ rfl).bool_inv
  have c0 := hc 0 (by omega)
  have c1 := hc 1 (by omega)
  have c2 := hc 2 (by omega)
  rw [r0.1] at c0
  rw [r1.1] at c1
  rw [r2] at c2
  exact ⟨b, o, rfl, hs, World.block_lt_of_cell? w _ c0, by rw [hn, Key.ds_length], c0, c1, c2, r0.2, r1.2⟩

/-- The first place at which p holds, or -1. -/
def idxP {α : Type} (p : α → Bool) (l : List α) : Int := match l.findIdx? p with | some i => (i : Int) | none => -1
theorem idxP_hit {α : Type} {p : α → Bool} {l : List α} {k : Nat} (hk : k < l.length) (h : p l[k] = true) (hn : ∀ j (hj : j < l.length), j < k → p l[j] = false) : idxP p l = k := by
  unfold idxP
  rw [List.findIdx?_eq_some_iff_getElem.2 ⟨hk, h, fun j hj => by simpa using hn j (by omega) hj⟩]
theorem idxP_miss {α : Type} {p : α → Bool} {l : List α} (hn : ∀ j (hj : j < l.length), p l[j] = false) : idxP p l = -1 := by
  unfold idxP
  rw [List.findIdx?_eq_none_iff.2 fun x hx => by obtain ⟨j, hj, rfl⟩ := List.getElem_of_mem hx; exact hn j hj]

theorem ret_int {k : IntKind} {a b : Int} (h : a = b) : Ending.returned (.int k a) = .returned (.int k b) := by rw [h]

theorem ckey1_any (k : Key) (nm : ByteArray) (p : Nat) (w : World) (hp : w.cell? ⟨p, 0, none⟩ = some (.string nm)) :
    Calls Tryd.prog 146 #[.agg #[.string k.name, .int .i64 k.kind, .bool k.shared], .pointer (some ⟨p, 0, none⟩)] w fun e w' => e = .returned (.bool (k.name.toList == nm.toList)) ∧ Below w.heap.size w w' := by
  have hb := World.block_lt_of_cell? w _ hp
  go_enter Tryd.func146, Tryd.ntmps146
  go_wp2
  go_ret
  exact ⟨rfl, by with_reducible repeat (first | exact Below.refl _ _ | apply below_drewN' | apply below_alloc')⟩

theorem idxKey_any (g : Nat) (lb : Array Value) (eg : ∀ (args : Array Value) (w : World), (callFunc g args).run Tryd.prog w = .ok (.enter g args) w) (p : Key → Bool) (l : List Key) (A : Option Addr) (c : Nat) (S : Nat → Prop) (w : World)
    (hr : RdV S w (.l 3 (Key.ds l)) (.slice A l.length c))
    (hp : ∀ (k : Key) (W : World), Below w.heap.size w W → Calls Tryd.prog g (#[.agg #[.string k.name, .int .i64 k.kind, .bool k.shared]] ++ lb) W fun e W' => e = .returned (.bool (p k)) ∧ Below W.heap.size W W') :
    Calls Tryd.prog 145 #[.slice A l.length c, .func (.func g) #[] lb] w fun e w' => e = .returned (.int .i64 (idxP p l)) ∧ Below w.heap.size w w' := by
  have hlen := hr.len_le
  go_enter Tryd.func145, Tryd.ntmps145
  go_wp2
  go_loopw [8] (fun i wr => (∃ k : Nat, k ≤ l.length ∧ i = .int .i64 k ∧ ∀ j (hj : j < l.length), j < k → p l[j] = false) ∧ Below w.heap.size w wr) (fun i _ => l.length - (intOf i).toNat)
  case atStart => exact ⟨⟨0, Nat.zero_le _, rfl, fun j _ hj => absurd hj (Nat.not_lt_zero j)⟩, Below.refl _ _⟩
  case round =>
    obtain ⟨⟨k, hk, rfl, hall⟩, hB⟩ := hrel
    by_cases hlt : k < l.length
    · obtain ⟨b, o, rfl, _, hb, _, d0, d1, d2, hs', hk'⟩ := key_at (hr.blw hB) hlt
      have hI := hp l[k] wr hB
      cases hx : p l[k]
      all_goals
        go_wp2_with (refine hI.mono ?_; rw [hx]; rintro e w' ⟨rfl, hb'⟩)
      · go_roundw
        case rel => exact ⟨⟨k + 1, by omega, by go_num, fun j hj hj' => if h : j = k then by subst h; exact hx else hall j hj (by omega)⟩, hB.trans' hb'⟩
        case measure => simp only [intOf]; omega
      · go_ret
        exact ⟨ret_int (idxP_hit hlt hx hall).symm, hB.trans' hb'⟩
    · go_wp2
      go_ret
      exact ⟨ret_int (idxP_miss fun j hj => hall j hj (by omega)).symm, hB⟩

theorem toList_beq (a b : ByteArray) : (a.toList == b.toList) = decide (a = b) := by
  rw [Bool.eq_iff_iff]
  simp only [beq_iff_eq, decide_eq_true_eq, ByteArray.toList_eq]
  exact ⟨fun h => by cases a; cases b; simp only [ByteArray.mk.injEq]; exact Array.toList_inj.1 h, fun h => by rw [h]⟩
def findKey (l : List Key) (nm : ByteArray) : Int := idxP (fun k => decide (k.name = nm)) l
theorem ckey_any (l : List Key) (nm : ByteArray) (A : Option Addr) (c : Nat) (S : Nat → Prop) (w : World) (hr : RdV S w (.l 3 (Key.ds l)) (.slice A l.length c)) :
    Calls Tryd.prog 93 #[.slice A l.length c, .string nm] w fun e w' => e = .returned (.int .i64 (findKey l nm)) ∧ Below w.heap.size w w' := by
  have hmf : ∀ (fn : Fn) (first cap : Array Value) (w : World), (Instr.makeFunc fn first cap).run Tryd.prog w = .ok (.func fn first cap) w := fun _ _ _ _ => rfl
  have eg : ∀ (args : Array Value) (w : World), (callFunc 146 args).run Tryd.prog w = .ok (.enter 146 args) w := fun args w => enter_call Tryd.func146 (by kernel_rfl) rfl args w
  have hB : Below w.heap.size w (w.alloc (.cells #[.string nm] 9)) := below_alloc' (Below.refl _ _) _
  have hC : (w.alloc (.cells #[.string nm] 9)).cell? ⟨w.heap.size, 0, none⟩ = some (.string nm) := by simp [go_sem]
  have hI := idxKey_any 146 #[.pointer (some ⟨w.heap.size, 0, none⟩)] eg (fun k => decide (k.name = nm)) l A c S _ (hr.blw hB) (fun k W hW => by
    refine (ckey1_any k nm w.heap.size W ?_).mono ?_
    · rw [hW.cell (p := ⟨w.heap.size, 0, none⟩) (by simp)]; exact hC
    · rw [toList_beq]; exact fun e w' h => h)
  clear eg
  go_enter Tryd.func93, Tryd.ntmps93
  go_wp2_with (go_at_call 145; refine hI.mono ?_; rintro e w' ⟨rfl, hb⟩)
  go_ret
  exact ⟨rfl, hB.trans' hb⟩

theorem idxP_range {α : Type} (p : α → Bool) (l : List α) : idxP p l = -1 ∨ ∃ k, k < l.length ∧ idxP p l = (k : Int) := by
  unfold idxP
  cases h : l.findIdx? p with
  | none => exact .inl rfl
  | some k => exact .inr ⟨k, (List.findIdx?_eq_some_iff_getElem.1 h).1, rfl⟩
def keyAt (l : List Key) (i : Int) : Key := l.getD i.toNat ⟨ByteArray.empty, 0, false⟩

/-- The kind of an expression without Kids, and the error. -/
def plainP (l : List Key) (kind : Int) (name : ByteArray) : Int × Int :=
  if kind = 1 then (1, 0) else if kind = 4 then (2, 0) else if kind = 3 then (3, 0)
  else if kind = 2 then (if findKey l name < 0 then (0, 5) else ((keyAt l (findKey l name)).kind, 0)) else (0, 0)

theorem ret_two {k : IntKind} {a b c d : Int} (h1 : a = c) (h2 : b = d) : Ending.returned (.tuple #[.int k a, .int k b]) = .returned (.tuple #[.int k c, .int k d]) := by rw [h1, h2]

set_option maxHeartbeats 1000000 in
theorem cplain_any (kind n : Int) (name : ByteArray) (v : Value) (l : List Key) (A : Option Addr) (c : Nat) (S : Nat → Prop) (w : World) (hr : RdV S w (.l 3 (Key.ds l)) (.slice A l.length c)) (hv : v.oneCell' = true) :
    Calls Tryd.prog 53 #[.agg #[.int .i64 kind, .int .i64 n, .string name, v], .slice A l.length c] w fun e w' => e = .returned (.tuple #[.int .i64 (plainP l kind name).1, .int .i64 (plainP l kind name).2]) ∧ Below w.heap.size w w' := by
  unfold plainP
  have hB : ∀ o, Below w.heap.size w (w.alloc o) := fun o => below_alloc' (Below.refl _ _) _
  by_cases k1 : kind = 1
  · subst k1; go_enter Tryd.func53, Tryd.ntmps53; go_wp2; go_ret2; exact ⟨rfl, hB _⟩
  have g1 : (kind == 1) = false := by rw [beq_eq_false_iff_ne]; exact k1
  by_cases k4 : kind = 4
  · subst k4; go_enter Tryd.func53, Tryd.ntmps53; go_wp2; go_ret2; exact ⟨rfl, hB _⟩
  have g4 : (kind == 4) = false := by rw [beq_eq_false_iff_ne]; exact k4
  by_cases k3 : kind = 3
  · subst k3; go_enter Tryd.func53, Tryd.ntmps53; go_wp2; go_ret2; exact ⟨rfl, hB _⟩
  have g3 : (kind == 3) = false := by rw [beq_eq_false_iff_ne]; exact k3
  rw [if_neg k1, if_neg k4, if_neg k3]
  by_cases k2 : kind = 2
  · subst k2
    rw [if_pos rfl]
    have hK := fun W h => ckey_any l name A c S W h
    rcases idxP_range (fun k : Key => decide (k.name = name)) l with hi | ⟨k, hk, hi⟩
    · have hi' : findKey l name = -1 := hi
      rw [if_pos (by omega)]
      go_enter Tryd.func53, Tryd.ntmps53
      go_wp2_with (go_at_call 93; refine (hK _ (hr.blw (hB _))).mono ?_; rw [hi']; rintro e w' ⟨rfl, hb⟩)
      go_ret2
      exact ⟨rfl, (hB _).trans' hb⟩
    · have hi' : findKey l name = (k : Int) := hi
      rw [if_neg (by omega)]
      have hlen := hr.len_le
      have hK1 := hK _ (hr.blw (hB (.cells #[.int .i64 2, .int .i64 n, .string name, v] 24)))
      obtain ⟨b, o, rfl, _, hb0, _, d0, d1, d2, hs', hk'⟩ := key_at hr hk
      go_enter Tryd.func53, Tryd.ntmps53
      go_wp2_with (go_at_call 93; refine hK1.mono ?_; rw [hi']; rintro e w' ⟨rfl, hb⟩; have c1 : w'.cell? ⟨b, o + k * 3 + 1, none⟩ = some (.int .i64 l[k].kind) := by rw [((hB _).trans' hb).cell (p := ⟨b, o + k * 3 + 1, none⟩) hb0]; exact d1)
      go_ret2
      refine ⟨ret_two ?_ rfl, (hB _).trans' hb⟩
      unfold keyAt; rw [hi']; simp [hk]
  · have g2 : (kind == 2) = false := by rw [beq_eq_false_iff_ne]; exact k2
    rw [if_neg k2]
    go_enter Tryd.func53, Tryd.ntmps53; go_wp2; go_ret2; exact ⟨rfl, hB _⟩

/-- A call that its guard passes over, in a region that draws its order. -/
theorem skip_if {b : Bool} {A B : Prop} (hb : b = false) (h : B) : if b = true then A else B := by rw [hb]; simpa using h
/-! ### Rows of whole numbers -/
def intsD (l : List Int) : List (List D) := l.map fun n => [.i .i64 n]
@[simp] theorem intsD_length (l : List Int) : (intsD l).length = l.length := by simp [intsD]
theorem int_at {S : Nat → Prop} {w : World} {l : List Int} {A : Option Addr} {n c : Nat} (h : RdV S w (.l 1 (intsD l)) (.slice A n c)) {k : Nat} (hk : k < l.length) :
    ∃ (b o : Nat), A = some ⟨b, o, none⟩ ∧ S b ∧ b < w.heap.size ∧ n = l.length ∧ w.cell? ⟨b, o + k, none⟩ = some (.int .i64 l[k]) ∧ IntKind.i64.wrap l[k] = l[k] := by
  have hx : (intsD l)[k]? = some [.i .i64 l[k]] := by rw [intsD, List.getElem?_map, List.getElem?_eq_getElem hk]; rfl
  obtain ⟨b, o, f, rfl, hs, hn, hi, hc, hr⟩ := h.at_ hx
  have r0 := (hr 0 _ rfl).int_inv
  have c0 := hc 0 (by omega)
  rw [r0.1] at c0
  exact ⟨b, o, rfl, hs, World.block_lt_of_cell? w _ c0, by rw [hn, intsD_length], by simpa using c0, r0.2⟩

theorem idxInt_any (g : Nat) (lb : Array Value) (eg : ∀ (args : Array Value) (w : World), (callFunc g args).run Tryd.prog w = .ok (.enter g args) w) (p : Int → Bool) (l : List Int) (A : Option Addr) (c : Nat) (S : Nat → Prop) (w : World)
    (hr : RdV S w (.l 1 (intsD l)) (.slice A l.length c))
    (hp : ∀ (k : Int) (W : World), Below w.heap.size w W → Calls Tryd.prog g (#[.int .i64 k] ++ lb) W fun e W' => e = .returned (.bool (p k)) ∧ Below W.heap.size W W') :
    Calls Tryd.prog 147 #[.slice A l.length c, .func (.func g) #[] lb] w fun e w' => e = .returned (.int .i64 (idxP p l)) ∧ Below w.heap.size w w' := by
  have hlen := hr.len_le
  go_enter Tryd.func147, Tryd.ntmps147
  go_wp2
  go_loopw [8] (fun i wr => (∃ k : Nat, k ≤ l.length ∧ i = .int .i64 k ∧ ∀ j (hj : j < l.length), j < k → p l[j] = false) ∧ Below w.heap.size w wr) (fun i _ => l.length - (intOf i).toNat)
  case atStart => exact ⟨⟨0, Nat.zero_le _, rfl, fun j _ hj => absurd hj (Nat.not_lt_zero j)⟩, Below.refl _ _⟩
  case round =>
    obtain ⟨⟨k, hk, rfl, hall⟩, hB⟩ := hrel
    by_cases hlt : k < l.length
    · obtain ⟨b, o, rfl, _, hb, _, d0, hk'⟩ := int_at (hr.blw hB) hlt
      have hI := hp l[k] wr hB
      cases hx : p l[k]
      all_goals
        go_wp2_with (refine hI.mono ?_; rw [hx]; rintro e w' ⟨rfl, hb'⟩)
      · go_roundw
        case rel => exact ⟨⟨k + 1, by omega, by go_num, fun j hj hj' => if h : j = k then by subst h; exact hx else hall j hj (by omega)⟩, hB.trans' hb'⟩
        case measure => simp only [intOf]; omega
      · go_ret
        exact ⟨ret_int (idxP_hit hlt hx hall).symm, hB.trans' hb'⟩
    · go_wp2
      go_ret
      exact ⟨ret_int (idxP_miss fun j hj => hall j hj (by omega)).symm, hB⟩

theorem idxP_any {α : Type} (p : α → Bool) (l : List α) : decide (0 ≤ idxP p l) = l.any p := by
  unfold idxP
  cases h : l.findIdx? p with
  | none =>
    have := List.findIdx?_eq_none_iff.1 h
    symm
    simp only [show ¬ (0 : Int) ≤ -1 by omega, decide_false, List.any_eq_false]
    exact fun x hx => by simp [this x hx]
  | some k =>
    obtain ⟨hk, hp, _⟩ := List.findIdx?_eq_some_iff_getElem.1 h
    symm
    simp only [show (0 : Int) ≤ (k : Int) by omega, decide_true, List.any_eq_true]
    exact ⟨l[k], List.getElem_mem hk, hp⟩

theorem conInt_any (g : Nat) (lb : Array Value) (eg : ∀ (args : Array Value) (w : World), (callFunc g args).run Tryd.prog w = .ok (.enter g args) w) (p : Int → Bool) (l : List Int) (A : Option Addr) (c : Nat) (S : Nat → Prop) (w : World)
    (hr : RdV S w (.l 1 (intsD l)) (.slice A l.length c))
    (hp : ∀ (k : Int) (W : World), Below w.heap.size w W → Calls Tryd.prog g (#[.int .i64 k] ++ lb) W fun e W' => e = .returned (.bool (p k)) ∧ Below W.heap.size W W') :
    Calls Tryd.prog 95 #[.slice A l.length c, .func (.func g) #[] lb] w fun e w' => e = .returned (.bool (l.any p)) ∧ Below w.heap.size w w' := by
  have hI := idxInt_any g lb eg p l A c S w hr hp
  clear eg
  go_enter Tryd.func95, Tryd.ntmps95
  go_wp2_with (go_at_call 147; refine hI.mono ?_; rintro e w' ⟨rfl, hb⟩)
  go_ret
  exact ⟨ret_bool (idxP_any p l), hb⟩

theorem cjoined11_any (k want : Int) (p : Nat) (w : World) (hp : w.cell? ⟨p, 0, none⟩ = some (.int .i64 want)) :
    Calls Tryd.prog 96 #[.int .i64 k, .pointer (some ⟨p, 0, none⟩)] w fun e w' => e = .returned (.bool (k != want)) ∧ Below w.heap.size w w' := by
  go_enter Tryd.func96, Tryd.ntmps96
  go_wp2
  go_ret
  exact ⟨rfl, Below.refl _ _⟩

/-- Are they all this one? -/
def allEq (want : Int) (l : List Int) : Bool := !(l.any fun k => k != want)
theorem cjoined1_any (want : Int) (p : Nat) (l : List Int) (A : Option Addr) (c : Nat) (S : Nat → Prop) (w : World) (hp : w.cell? ⟨p, 0, none⟩ = some (.slice A l.length c)) (hr : RdV S w (.l 1 (intsD l)) (.slice A l.length c)) :
    Calls Tryd.prog 94 #[.int .i64 want, .pointer (some ⟨p, 0, none⟩)] w fun e w' => e = .returned (.bool (allEq want l)) ∧ Below w.heap.size w w' := by
  have hmf : ∀ (fn : Fn) (first cap : Array Value) (w : World), (Instr.makeFunc fn first cap).run Tryd.prog w = .ok (.func fn first cap) w := fun _ _ _ _ => rfl
  have eg : ∀ (args : Array Value) (w : World), (callFunc 96 args).run Tryd.prog w = .ok (.enter 96 args) w := fun args w => enter_call Tryd.func96 (by kernel_rfl) rfl args w
  have hb0 := World.block_lt_of_cell? w _ hp
  have hB : Below w.heap.size w (w.alloc (.cells #[.int .i64 want] 3)) := below_alloc' (Below.refl _ _) _
  have hC : (w.alloc (.cells #[.int .i64 want] 3)).cell? ⟨w.heap.size, 0, none⟩ = some (.int .i64 want) := by simp [go_sem]
  have hI := conInt_any 96 #[.pointer (some ⟨w.heap.size, 0, none⟩)] eg (fun k => k != want) l A c S _ (hr.blw hB) (fun k W hW => by
    refine cjoined11_any k want w.heap.size W ?_
    rw [hW.cell (p := ⟨w.heap.size, 0, none⟩) (by simp)]; exact hC)
  clear eg
  go_enter Tryd.func94, Tryd.ntmps94
  go_wp2_with (go_at_call 95; refine hI.mono ?_; rintro e w' ⟨rfl, hb⟩)
  go_ret
  exact ⟨rfl, hB.trans' hb⟩

/-- The kind of an expression whose Kids have these kinds; whether there is one. -/
def joinedP (kind : Int) (l : List Int) : Int × Bool :=
  if kind = 6 ∨ kind = 7 then (l.headD 0, allEq 0 l || allEq 4 l) else if kind = 8 ∨ kind = 9 then (0, allEq 0 l) else if kind = 10 then (1, allEq (l.headD 0) l)
  else if kind = 11 then (1, allEq 0 l) else if kind = 12 ∨ kind = 13 ∨ kind = 14 then (1, allEq 1 l) else if kind = 15 then (4, allEq 0 l) else if kind = 18 then (4, allEq 4 l) else (0, allEq 4 l)

theorem ret_ib {k : IntKind} {a c : Int} {b d : Bool} (h1 : a = c) (h2 : b = d) : Ending.returned (.tuple #[.int k a, .bool b]) = .returned (.tuple #[.int k c, .bool d]) := by rw [h1, h2]

set_option maxRecDepth 100000 in
set_option maxHeartbeats 4000000 in
theorem cjoined_any (kind : Int) (l : List Int) (A : Option Addr) (c : Nat) (S : Nat → Prop) (w : World) (hr : RdV S w (.l 1 (intsD l)) (.slice A l.length c)) (hl : 0 < l.length) :
    Calls Tryd.prog 54 #[.int .i64 kind, .slice A l.length c] w fun e w' => e = .returned (.tuple #[.int .i64 (joinedP kind l).1, .bool (joinedP kind l).2]) ∧ Below w.heap.size w w' := by
  have hmf : ∀ (fn : Fn) (first cap : Array Value) (w : World), (Instr.makeFunc fn first cap).run Tryd.prog w = .ok (.func fn first cap) w := fun _ _ _ _ => rfl
  obtain ⟨b, o, rfl, _, hb0, _, d0, _⟩ := int_at hr hl
  rw [Nat.add_zero] at d0
  have hhd : l.headD 0 = l[0] := by cases l with | nil => simp at hl | cons a t => rfl
  have hB : Below w.heap.size w (w.alloc (.cells #[.slice (some ⟨b, o, none⟩) l.length c] 57)) := below_alloc' (Below.refl _ _) _
  have hC : (w.alloc (.cells #[.slice (some ⟨b, o, none⟩) l.length c] 57)).cell? ⟨w.heap.size, 0, none⟩ = some (.slice (some ⟨b, o, none⟩) l.length c) := by simp [go_sem]
  have hall : ∀ (want : Int) (W : World), Below (w.alloc (.cells #[.slice (some ⟨b, o, none⟩) l.length c] 57)).heap.size (w.alloc (.cells #[.slice (some ⟨b, o, none⟩) l.length c] 57)) W →
      Calls Tryd.prog 94 #[.int .i64 want, .pointer (some ⟨w.heap.size, 0, none⟩)] W fun e w' => e = .returned (.bool (allEq want l)) ∧ Below W.heap.size W w' := fun want W hW =>
    cjoined1_any want w.heap.size l (some ⟨b, o, none⟩) c S W (by rw [hW.cell (p := ⟨w.heap.size, 0, none⟩) (by simp)]; exact hC) (hr.blw (hB.trans' hW))
  have hall' : ∀ (want : Int) (W : World), (W.cell? ⟨w.heap.size, 0, none⟩ = some (.slice (some ⟨b, o, none⟩) l.length c) ∧ W.cell? ⟨b, o, none⟩ = some (.int .i64 l[0]) ∧ Below (w.alloc (.cells #[.slice (some ⟨b, o, none⟩) l.length c] 57)).heap.size (w.alloc (.cells #[.slice (some ⟨b, o, none⟩) l.length c] 57)) W) →
      Calls Tryd.prog 94 #[.int .i64 want, .pointer (some ⟨w.heap.size, 0, none⟩)] W fun e w' => e = .returned (.bool (allEq want l)) ∧ w'.cell? ⟨w.heap.size, 0, none⟩ = some (.slice (some ⟨b, o, none⟩) l.length c) ∧ w'.cell? ⟨b, o, none⟩ = some (.int .i64 l[0]) ∧
        Below (w.alloc (.cells #[.slice (some ⟨b, o, none⟩) l.length c] 57)).heap.size (w.alloc (.cells #[.slice (some ⟨b, o, none⟩) l.length c] 57)) w' := fun want W ⟨_, _, hW⟩ =>
    (hall want W hW).mono fun e w' ⟨he, hb⟩ => ⟨he, by rw [(hW.trans' hb).cell (p := ⟨w.heap.size, 0, none⟩) (by simp)]; exact hC, by rw [(hB.trans' (hW.trans' hb)).cell (p := ⟨b, o, none⟩) hb0]; exact d0, hW.trans' hb⟩
  have d0' : (w.alloc (.cells #[.slice (some ⟨b, o, none⟩) l.length c] 57)).cell? ⟨b, o, none⟩ = some (.int .i64 l[0]) := by rw [hB.cell (p := ⟨b, o, none⟩) hb0]; exact d0
  have hlt := hr.len_le
  have hlp : (0 : Int) < (l.length : Int) := by omega
  by_cases k6 : kind = 6
  · subst k6
    cases ha : allEq 0 l
    · go_enter Tryd.func54, Tryd.ntmps54
      go_wp2_with fail
      go_region_held3 (fun w' => w'.cell? ⟨w.heap.size, 0, none⟩ = some (.slice (some ⟨b, o, none⟩) l.length c) ∧ w'.cell? ⟨b, o, none⟩ = some (.int .i64 l[0]) ∧ Below (w.alloc (.cells #[.slice (some ⟨b, o, none⟩) l.length c] 57)).heap.size (w.alloc (.cells #[.slice (some ⟨b, o, none⟩) l.length c] 57)) w') (first | assumption | exact ⟨by assumption, by assumption, by assumption⟩ | exact ⟨hC, d0', below_drew' (Below.refl _ _)⟩) (first | (go_at_call 94; refine (hall' 0 _ (by first | assumption | exact ⟨hC, d0', below_drew' (Below.refl _ _)⟩)).mono ?_; rw [ha]; rintro e w' ⟨rfl, q0, q1, q2⟩) | (go_at_call 94; refine (hall' 4 _ (by first | assumption | exact ⟨hC, d0', below_drew' (Below.refl _ _)⟩)).mono ?_; rintro e w' ⟨rfl, q0, q1, q2⟩))
      go_wp2
      go_ret2
      exact ⟨ret_ib (by rw [← hhd]; simp [joinedP]) (by simp [joinedP, ha]), hB.trans' (by assumption)⟩
    · go_enter Tryd.func54, Tryd.ntmps54
      go_wp2_with fail
      refine wp_region_noPanic ?_
      refine wp_region_held_drew (S := (fun w' => w'.cell? ⟨w.heap.size, 0, none⟩ = some (.slice (some ⟨b, o, none⟩) l.length c) ∧ w'.cell? ⟨b, o, none⟩ = some (.int .i64 l[0]) ∧ Below (w.alloc (.cells #[.slice (some ⟨b, o, none⟩) l.length c] 57)).heap.size (w.alloc (.cells #[.slice (some ⟨b, o, none⟩) l.length c] 57)) w')) (by kernel_rfl) ⟨hC, d0', below_drew' (Below.refl _ _)⟩ (fun hHeld => ?_)
      refine wpAnyH_take (i := 0) (v := ?_) rfl (by kernel_rfl) (by kernel_rfl) (by kernel_rfl) (fun _ _ _ h => h) (Or.inl ⟨by rfl, ?_⟩) (by assumption) ?_
      rotate_left
      · intro w0 hS0
        obtain ⟨s0, s1, _⟩ := hS0
        go_simp
        try with_reducible rfl
      (try simp only [Act.put, List.setIfInBounds_toArray, List.set_cons_zero, List.set_cons_succ])
      refine wpAnyH_take (i := 1) (v := ?_) rfl (by kernel_rfl) (by kernel_rfl) (by kernel_rfl) (fun _ _ _ h => h) (Or.inl ⟨by rfl, ?_⟩) (by assumption) ?_
      rotate_left
      · intro w0 hS0
        obtain ⟨s0, s1, _⟩ := hS0
        go_simp
        try with_reducible rfl
      (try simp only [Act.put, List.setIfInBounds_toArray, List.set_cons_zero, List.set_cons_succ])
      refine wpAnyH_take (i := 2) (v := ?_) rfl (by kernel_rfl) (by kernel_rfl) (by kernel_rfl) (fun _ _ _ h => h) (Or.inl ⟨by rfl, ?_⟩) (by assumption) ?_
      rotate_left
      · intro w0 hS0
        obtain ⟨s0, s1, _⟩ := hS0
        go_simp
        try with_reducible rfl
      (try simp only [Act.put, List.setIfInBounds_toArray, List.set_cons_zero, List.set_cons_succ])
      refine wpAnyH_take (i := 3) (v := ?_) rfl (by kernel_rfl) (by kernel_rfl) (by kernel_rfl) (fun _ _ _ h => h) (Or.inl ⟨by rfl, ?_⟩) (by assumption) ?_
      rotate_left
      · intro w0 hS0
        obtain ⟨s0, s1, _⟩ := hS0
        go_simp
        try with_reducible rfl
      (try simp only [Act.put, List.setIfInBounds_toArray, List.set_cons_zero, List.set_cons_succ])
      refine wpAnyH_ready (rs := [4]) (by kernel_rfl) (by simp) ?_
      refine AllReadyH.cons rfl (fun K hK => ?_) AllReadyH.nil
      go_simp
      go_at_call 94
      refine (hall' 0 _ hHeld).mono ?_
      rw [ha]
      rintro e w1 ⟨rfl, hq⟩
      refine hK.out _ _ hq (fun hHeld => ?_)
      clear hK K
      (try simp only [Act.put, List.setIfInBounds_toArray, List.set_cons_zero, List.set_cons_succ])
      refine wpAnyH_take (i := 5) (v := ?_) rfl (by kernel_rfl) (by kernel_rfl) (by kernel_rfl) (fun _ _ _ h => h) (Or.inl ⟨by rfl, ?_⟩) (by assumption) ?_
      rotate_left
      · intro w0 hS0
        obtain ⟨s0, s1, _⟩ := hS0
        go_simp
        try with_reducible rfl
      (try simp only [Act.put, List.setIfInBounds_toArray, List.set_cons_zero, List.set_cons_succ])
      refine wpAnyH_take (i := 6) (v := undef) rfl (by kernel_rfl) (by kernel_rfl) (by kernel_rfl) (fun _ _ _ h => h) (Or.inr ⟨by rfl, rfl⟩) (by assumption) ?_
      (try simp only [Act.put, List.setIfInBounds_toArray, List.set_cons_zero, List.set_cons_succ])
      refine wpAnyH_take (i := 7) (v := undef) rfl (by kernel_rfl) (by kernel_rfl) (by kernel_rfl) (fun _ _ _ h => h) (Or.inr ⟨by rfl, rfl⟩) (by assumption) ?_
      (try simp only [Act.put, List.setIfInBounds_toArray, List.set_cons_zero, List.set_cons_succ])
      refine wpAnyH_take (i := 8) (v := ?_) rfl (by kernel_rfl) (by kernel_rfl) (by kernel_rfl) (fun _ _ _ h => h) (Or.inl ⟨by rfl, ?_⟩) (by assumption) ?_
      rotate_left
      · intro w0 hS0
        obtain ⟨s0, s1, _⟩ := hS0
        go_simp
        try with_reducible rfl
      (try simp only [Act.put, List.setIfInBounds_toArray, List.set_cons_zero, List.set_cons_succ])
      refine wpAnyH_take (i := 9) (v := ?_) rfl (by kernel_rfl) (by kernel_rfl) (by kernel_rfl) (fun _ _ _ h => h) (Or.inl ⟨by rfl, ?_⟩) (by assumption) ?_
      rotate_left
      · intro w0 hS0
        obtain ⟨s0, s1, _⟩ := hS0
        go_simp
        try with_reducible rfl
      (try simp only [Act.put, List.setIfInBounds_toArray, List.set_cons_zero, List.set_cons_succ])
      refine wpAnyH_take (i := 10) (v := ?_) rfl (by kernel_rfl) (by kernel_rfl) (by kernel_rfl) (fun _ _ _ h => h) (Or.inl ⟨by rfl, ?_⟩) (by assumption) ?_
      rotate_left
      · intro w0 hS0
        obtain ⟨s0, s1, _⟩ := hS0
        go_simp
        try with_reducible rfl
      (try simp only [Act.put, List.setIfInBounds_toArray, List.set_cons_zero, List.set_cons_succ])
      refine wpAnyH_done (by kernel_rfl) ?_ _
      refine NoPanic.normal ?_
      simp only [Act.put, List.getElem_toArray, List.getElem_cons_succ, List.getElem_cons_zero, List.setIfInBounds_toArray, List.set_cons_zero, List.set_cons_succ]
      go_wp2
      go_ret2
      have e1 : joinedP 6 l = (l[0], true) := by simp only [joinedP, ha, hhd]; simp
      rw [e1]
      exact ⟨rfl, hB.trans' hq.2.2⟩
  by_cases k7 : kind = 7
  · subst k7
    cases ha : allEq 0 l
    · go_enter Tryd.func54, Tryd.ntmps54
      go_wp2_with fail
      go_region_held3 (fun w' => w'.cell? ⟨w.heap.size, 0, none⟩ = some (.slice (some ⟨b, o, none⟩) l.length c) ∧ w'.cell? ⟨b, o, none⟩ = some (.int .i64 l[0]) ∧ Below (w.alloc (.cells #[.slice (some ⟨b, o, none⟩) l.length c] 57)).heap.size (w.alloc (.cells #[.slice (some ⟨b, o, none⟩) l.length c] 57)) w') (first | assumption | exact ⟨by assumption, by assumption, by assumption⟩ | exact ⟨hC, d0', below_drew' (Below.refl _ _)⟩) (first | (go_at_call 94; refine (hall' 0 _ (by first | assumption | exact ⟨hC, d0', below_drew' (Below.refl _ _)⟩)).mono ?_; rw [ha]; rintro e w' ⟨rfl, q0, q1, q2⟩) | (go_at_call 94; refine (hall' 4 _ (by first | assumption | exact ⟨hC, d0', below_drew' (Below.refl _ _)⟩)).mono ?_; rintro e w' ⟨rfl, q0, q1, q2⟩))
      go_wp2
      go_ret2
      exact ⟨ret_ib (by rw [← hhd]; simp [joinedP]) (by simp [joinedP, ha]), hB.trans' (by assumption)⟩
    · go_enter Tryd.func54, Tryd.ntmps54
      go_wp2_with fail
      refine wp_region_noPanic ?_
      refine wp_region_held_drew (S := (fun w' => w'.cell? ⟨w.heap.size, 0, none⟩ = some (.slice (some ⟨b, o, none⟩) l.length c) ∧ w'.cell? ⟨b, o, none⟩ = some (.int .i64 l[0]) ∧ Below (w.alloc (.cells #[.slice (some ⟨b, o, none⟩) l.length c] 57)).heap.size (w.alloc (.cells #[.slice (some ⟨b, o, none⟩) l.length c] 57)) w')) (by kernel_rfl) ⟨hC, d0', below_drew' (Below.refl _ _)⟩ (fun hHeld => ?_)
      refine wpAnyH_take (i := 0) (v := ?_) rfl (by kernel_rfl) (by kernel_rfl) (by kernel_rfl) (fun _ _ _ h => h) (Or.inl ⟨by rfl, ?_⟩) (by assumption) ?_
      rotate_left
      · intro w0 hS0
        obtain ⟨s0, s1, _⟩ := hS0
        go_simp
        try with_reducible rfl
      (try simp only [Act.put, List.setIfInBounds_toArray, List.set_cons_zero, List.set_cons_succ])
      refine wpAnyH_take (i := 1) (v := ?_) rfl (by kernel_rfl) (by kernel_rfl) (by kernel_rfl) (fun _ _ _ h => h) (Or.inl ⟨by rfl, ?_⟩) (by assumption) ?_
      rotate_left
      · intro w0 hS0
        obtain ⟨s0, s1, _⟩ := hS0
        go_simp
        try with_reducible rfl
      (try simp only [Act.put, List.setIfInBounds_toArray, List.set_cons_zero, List.set_cons_succ])
      refine wpAnyH_take (i := 2) (v := ?_) rfl (by kernel_rfl) (by kernel_rfl) (by kernel_rfl) (fun _ _ _ h => h) (Or.inl ⟨by rfl, ?_⟩) (by assumption) ?_
      rotate_left
      · intro w0 hS0
        obtain ⟨s0, s1, _⟩ := hS0
        go_simp
        try with_reducible rfl
      (try simp only [Act.put, List.setIfInBounds_toArray, List.set_cons_zero, List.set_cons_succ])
      refine wpAnyH_take (i := 3) (v := ?_) rfl (by kernel_rfl) (by kernel_rfl) (by kernel_rfl) (fun _ _ _ h => h) (Or.inl ⟨by rfl, ?_⟩) (by assumption) ?_
      rotate_left
      · intro w0 hS0
        obtain ⟨s0, s1, _⟩ := hS0
        go_simp
        try with_reducible rfl
      (try simp only [Act.put, List.setIfInBounds_toArray, List.set_cons_zero, List.set_cons_succ])
      refine wpAnyH_ready (rs := [4]) (by kernel_rfl) (by simp) ?_
      refine AllReadyH.cons rfl (fun K hK => ?_) AllReadyH.nil
      go_simp
      go_at_call 94
      refine (hall' 0 _ hHeld).mono ?_
      rw [ha]
      rintro e w1 ⟨rfl, hq⟩
      refine hK.out _ _ hq (fun hHeld => ?_)
      clear hK K
      (try simp only [Act.put, List.setIfInBounds_toArray, List.set_cons_zero, List.set_cons_succ])
      refine wpAnyH_take (i := 5) (v := ?_) rfl (by kernel_rfl) (by kernel_rfl) (by kernel_rfl) (fun _ _ _ h => h) (Or.inl ⟨by rfl, ?_⟩) (by assumption) ?_
      rotate_left
      · intro w0 hS0
        obtain ⟨s0, s1, _⟩ := hS0
        go_simp
        try with_reducible rfl
      (try simp only [Act.put, List.setIfInBounds_toArray, List.set_cons_zero, List.set_cons_succ])
      refine wpAnyH_take (i := 6) (v := undef) rfl (by kernel_rfl) (by kernel_rfl) (by kernel_rfl) (fun _ _ _ h => h) (Or.inr ⟨by rfl, rfl⟩) (by assumption) ?_
      (try simp only [Act.put, List.setIfInBounds_toArray, List.set_cons_zero, List.set_cons_succ])
      refine wpAnyH_take (i := 7) (v := undef) rfl (by kernel_rfl) (by kernel_rfl) (by kernel_rfl) (fun _ _ _ h => h) (Or.inr ⟨by rfl, rfl⟩) (by assumption) ?_
      (try simp only [Act.put, List.setIfInBounds_toArray, List.set_cons_zero, List.set_cons_succ])
      refine wpAnyH_take (i := 8) (v := ?_) rfl (by kernel_rfl) (by kernel_rfl) (by kernel_rfl) (fun _ _ _ h => h) (Or.inl ⟨by rfl, ?_⟩) (by assumption) ?_
      rotate_left
      · intro w0 hS0
        obtain ⟨s0, s1, _⟩ := hS0
        go_simp
        try with_reducible rfl
      (try simp only [Act.put, List.setIfInBounds_toArray, List.set_cons_zero, List.set_cons_succ])
      refine wpAnyH_take (i := 9) (v := ?_) rfl (by kernel_rfl) (by kernel_rfl) (by kernel_rfl) (fun _ _ _ h => h) (Or.inl ⟨by rfl, ?_⟩) (by assumption) ?_
      rotate_left
      · intro w0 hS0
        obtain ⟨s0, s1, _⟩ := hS0
        go_simp
        try with_reducible rfl
      (try simp only [Act.put, List.setIfInBounds_toArray, List.set_cons_zero, List.set_cons_succ])
      refine wpAnyH_take (i := 10) (v := ?_) rfl (by kernel_rfl) (by kernel_rfl) (by kernel_rfl) (fun _ _ _ h => h) (Or.inl ⟨by rfl, ?_⟩) (by assumption) ?_
      rotate_left
      · intro w0 hS0
        obtain ⟨s0, s1, _⟩ := hS0
        go_simp
        try with_reducible rfl
      (try simp only [Act.put, List.setIfInBounds_toArray, List.set_cons_zero, List.set_cons_succ])
      refine wpAnyH_done (by kernel_rfl) ?_ _
      refine NoPanic.normal ?_
      simp only [Act.put, List.getElem_toArray, List.getElem_cons_succ, List.getElem_cons_zero, List.setIfInBounds_toArray, List.set_cons_zero, List.set_cons_succ]
      go_wp2
      go_ret2
      have e1 : joinedP 7 l = (l[0], true) := by simp only [joinedP, ha, hhd]; simp
      rw [e1]
      exact ⟨rfl, hB.trans' hq.2.2⟩
  by_cases k8 : kind = 8
  · subst k8
    go_enter Tryd.func54, Tryd.ntmps54
    go_wp2_with (go_at_call 94; refine (hall 0 _ (Below.refl _ _)).mono ?_; rintro e w' ⟨rfl, hb⟩)
    go_ret2
    exact ⟨ret_ib (by simp [joinedP]) (by simp [joinedP]), hB.trans' hb⟩
  by_cases k9 : kind = 9
  · subst k9
    go_enter Tryd.func54, Tryd.ntmps54
    go_wp2_with (go_at_call 94; refine (hall 0 _ (Below.refl _ _)).mono ?_; rintro e w' ⟨rfl, hb⟩)
    go_ret2
    exact ⟨ret_ib (by simp [joinedP]) (by simp [joinedP]), hB.trans' hb⟩
  by_cases k11 : kind = 11
  · subst k11
    go_enter Tryd.func54, Tryd.ntmps54
    go_wp2_with (go_at_call 94; refine (hall 0 _ (Below.refl _ _)).mono ?_; rintro e w' ⟨rfl, hb⟩)
    go_ret2
    exact ⟨ret_ib (by simp [joinedP]) (by simp [joinedP]), hB.trans' hb⟩
  by_cases k12 : kind = 12
  · subst k12
    go_enter Tryd.func54, Tryd.ntmps54
    go_wp2_with (go_at_call 94; refine (hall 1 _ (Below.refl _ _)).mono ?_; rintro e w' ⟨rfl, hb⟩)
    go_ret2
    exact ⟨ret_ib (by simp [joinedP]) (by simp [joinedP]), hB.trans' hb⟩
  by_cases k13 : kind = 13
  · subst k13
    go_enter Tryd.func54, Tryd.ntmps54
    go_wp2_with (go_at_call 94; refine (hall 1 _ (Below.refl _ _)).mono ?_; rintro e w' ⟨rfl, hb⟩)
    go_ret2
    exact ⟨ret_ib (by simp [joinedP]) (by simp [joinedP]), hB.trans' hb⟩
  by_cases k14 : kind = 14
  · subst k14
    go_enter Tryd.func54, Tryd.ntmps54
    go_wp2_with (go_at_call 94; refine (hall 1 _ (Below.refl _ _)).mono ?_; rintro e w' ⟨rfl, hb⟩)
    go_ret2
    exact ⟨ret_ib (by simp [joinedP]) (by simp [joinedP]), hB.trans' hb⟩
  by_cases k15 : kind = 15
  · subst k15
    go_enter Tryd.func54, Tryd.ntmps54
    go_wp2_with (go_at_call 94; refine (hall 0 _ (Below.refl _ _)).mono ?_; rintro e w' ⟨rfl, hb⟩)
    go_ret2
    exact ⟨ret_ib (by simp [joinedP]) (by simp [joinedP]), hB.trans' hb⟩
  by_cases k18 : kind = 18
  · subst k18
    go_enter Tryd.func54, Tryd.ntmps54
    go_wp2_with (go_at_call 94; refine (hall 4 _ (Below.refl _ _)).mono ?_; rintro e w' ⟨rfl, hb⟩)
    go_ret2
    exact ⟨ret_ib (by simp [joinedP]) (by simp [joinedP]), hB.trans' hb⟩
  by_cases k10 : kind = 10
  · subst k10
    go_enter Tryd.func54, Tryd.ntmps54
    go_wp2_with (go_at_call 94; refine (hall l[0] _ (Below.refl _ _)).mono ?_; rintro e w' ⟨rfl, hb⟩)
    go_ret2
    exact ⟨ret_ib (by simp [joinedP]) (by rw [← hhd]; simp [joinedP]), hB.trans' hb⟩
  have e6 : (kind == 6) = false := by rw [beq_eq_false_iff_ne]; exact k6
  have e7 : (kind == 7) = false := by rw [beq_eq_false_iff_ne]; exact k7
  have e8 : (kind == 8) = false := by rw [beq_eq_false_iff_ne]; exact k8
  have e9 : (kind == 9) = false := by rw [beq_eq_false_iff_ne]; exact k9
  have e10 : (kind == 10) = false := by rw [beq_eq_false_iff_ne]; exact k10
  have e11 : (kind == 11) = false := by rw [beq_eq_false_iff_ne]; exact k11
  have e12 : (kind == 12) = false := by rw [beq_eq_false_iff_ne]; exact k12
  have e13 : (kind == 13) = false := by rw [beq_eq_false_iff_ne]; exact k13
  have e14 : (kind == 14) = false := by rw [beq_eq_false_iff_ne]; exact k14
  have e15 : (kind == 15) = false := by rw [beq_eq_false_iff_ne]; exact k15
  have e18 : (kind == 18) = false := by rw [beq_eq_false_iff_ne]; exact k18
  go_enter Tryd.func54, Tryd.ntmps54
  go_wp2_with (go_at_call 94; refine (hall 4 _ (Below.refl _ _)).mono ?_; rintro e w' ⟨rfl, hb⟩)
  go_ret2
  exact ⟨ret_ib (by simp [joinedP, *]) (by simp [joinedP, *]), hB.trans' hb⟩
end Go.Proofs.YtfdpkmpnfalggaaDoor
