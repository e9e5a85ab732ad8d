/- The law ReflectAnswers of bailifflaw22 holds: the given function answers true for any name, arguments and answer, and turns nothing. No condition. -/
import Derived.Test.YtaecedlhiclkdaaGreatDoorRfS
import Derived.WideShapes
import Derived.Lib.Hide
import Derived.WalkKit
import Derived.ProofKit
import Derived.OpenShut
import Derived.HandedShaped
import Derived.Deep.Slices
import Derived.Test.YtaecedlhiclkdaaGreatDoorCards
import Derived.Test.YtaecedlhiclkdaaGreatDoorTie
import Derived.Test.YtaecedlhiclkdaaGreatDoorRfW04
import Derived.Test.YtaecedlhiclkdaaGreatDoorRfW10
import Derived.Test.YtaecedlhiclkdaaGreatDoorRfW11
import Derived.Test.YtaecedlhiclkdaaGreatDoorRfW12
import Derived.Test.YtaecedlhiclkdaaGreatDoorRfW13
import Derived.Test.YtaecedlhiclkdaaGreatDoorRfW15
import Derived.Test.YtaecedlhiclkdaaGreatDoorRfW02
import Derived.Test.YtaecedlhiclkdaaGreatDoorRfW01
import Derived.Test.YtaecedlhiclkdaaGreatDoorRfW00
import Derived.Deep.DeepHandedRow
import Derived.Lib.LaidTab
namespace Go.Proofs.YtaecedlhiclkdaaGreatDoor.Rf
open Go Vx Con
set_option linter.unusedVariables false
set_option linter.constructorNameAsVariable false
set_option maxRecDepth 100000

def frontL (k1 k2 : Value) (o : OutV) (N C : Nat) : List Value := [k1, k2, .int .u8 o.k, .int .u8 o.v.k, .float .f64 o.v.x, .string o.v.s, .int .i64 o.v.r, bI o.b1, bI o.b2, .int .u8 o.has,
  .int .u8 o.d1.k, .float .f64 o.d1.x, .string o.d1.s, .int .i64 o.d1.r, .int .u8 o.d2.k, .float .f64 o.d2.x, .string o.d2.s, .int .i64 o.d2.r, .int .u8 o.d3.k, .float .f64 o.d3.x, .string o.d3.s, .int .i64 o.d3.r,
  bI o.b3, bI o.b4, bI o.b5, .int .i64 N, .int .i64 C, .int .u8 o.er, .string o.tx]
def argsV (M : Nat) (g : Nat → Value) : List Value := (List.range 256).map fun i => if i < 4 * M then g i else .int .i64 0
def vsL (k1 k2 : Value) (o : OutV) (N C M : Nat) (g : Nat → Value) : List Value := frontL k1 k2 o N C ++ argsV M g
theorem vsL_len (k1 k2 : Value) (o : OutV) (N C M : Nat) (g : Nat → Value) : (vsL k1 k2 o N C M g).length = 285 := by
  unfold vsL argsV
  rw [List.length_append, List.length_map, List.length_range]; rfl
noncomputable def EG1 (k1 k2 : Value) (o : OutV) (N C M : Nat) (g : Nat → Value) : Env := symEV [] 7 (vsL k1 k2 o N C M g)
noncomputable def EG (k1 k2 : Value) (o : OutV) (N C M : Nat) (g : Nat → Value) (L Q : Spot) : Env := addAt (addAt (EG1 k1 k2 o N C M g) 6 L) 5 Q
section
variable {k1 k2 : Value} {o : OutV} {N C M : Nat} {g : Nat → Value}
theorem EG1_six : EG1 k1 k2 o N C M g 6 = none := rfl
theorem den_g1 (i : Nat) {V : Value} (hi : (frontL k1 k2 o N C)[i]? = some V) (ok : symOK V) : den (EG1 k1 k2 o N C M g) (.sy (7 + i)) = some V := by
  refine den_sym (gl := []) (n0 := 7) (Vs := vsL k1 k2 o N C M g) i ?_ ok
  unfold vsL
  rw [List.getElem?_append_left (List.getElem?_eq_some_iff.1 hi).1]; exact hi
theorem den_a1 (i : Nat) (hi : i < 4 * M) (h2 : i < 256) (ok : symOK (g i)) : den (EG1 k1 k2 o N C M g) (.sy (36 + i)) = some (g i) := by
  have hl : (frontL k1 k2 o N C).length = 29 := rfl
  have := den_sym (gl := []) (n0 := 7) (Vs := vsL k1 k2 o N C M g) (29 + i) (V := g i) (by
    unfold vsL argsV
    rw [List.getElem?_append_right (by rw [hl]; omega), hl, Nat.add_sub_cancel_left, List.getElem?_map, List.getElem?_range h2]
    show some (if i < 4 * M then g i else .int .i64 0) = some (g i)
    rw [if_pos hi]) ok
  rw [show 7 + (29 + i) = 36 + i from by omega] at this
  exact this
theorem dens_g1 {i : Nat} {v : V4} (a : (frontL k1 k2 o N C)[i]? = some (.int .u8 v.k) ∧ (frontL k1 k2 o N C)[i + 1]? = some (.float .f64 v.x) ∧ (frontL k1 k2 o N C)[i + 2]? = some (.string v.s) ∧ (frontL k1 k2 o N C)[i + 3]? = some (.int .i64 v.r)) : Dens (EG1 k1 k2 o N C M g) (7 + i) v :=
  ⟨den_g1 i a.1 (sok_i _ _), den_g1 (i + 1) a.2.1 (sok_f _), den_g1 (i + 2) a.2.2.1 (sok_s _), den_g1 (i + 3) a.2.2.2 (sok_i _ _)⟩
/-- the cells are told by their symbols, wherever these stand for them -/
theorem rv_outL {E : Env} (hE : (EG1 k1 k2 o N C M g).le E) (ok : o.ok) {ka : AV} {kv : Value} (hk : Rv E ka kv) : RvL E (outS ka) (o.cells kv) := by
  have d := fun i {V} h k => den_mono hE _ _ (den_g1 (k1 := k1) (k2 := k2) (o := o) (N := N) (C := C) (M := M) (g := g) i (V := V) h k)
  have dv := fun {i v} a => Dens.mono hE (dens_g1 (k1 := k1) (k2 := k2) (o := o) (N := N) (C := C) (M := M) (g := g) (i := i) (v := v) a)
  have r4 : RvL E (vS 10) o.v.cells := rv_vS ok.v (dv (i := 3) ⟨rfl, rfl, rfl, rfl⟩)
  have r17 : RvL E (vS 17) o.d1.cells := rv_vS ok.d1 (dv (i := 10) ⟨rfl, rfl, rfl, rfl⟩)
  have r21 : RvL E (vS 21) o.d2.cells := rv_vS ok.d2 (dv (i := 14) ⟨rfl, rfl, rfl, rfl⟩)
  have r25 : RvL E (vS 25) o.d3.cells := rv_vS ok.d3 (dv (i := 18) ⟨rfl, rfl, rfl, rfl⟩)
  have i8 : ∀ {n : Nat} {z : Int}, den E (.sy n) = some (.int .u8 z) → 0 ≤ z ∧ z ≤ 255 → Rv E (.x (.i .u8) (.sy n)) (.int .u8 z) := fun h hz => by rw [Rv]; exact ⟨h, _, rfl, hz⟩
  have bb : ∀ b : Bool, symOK (bI b) := fun b => sok_i _ _
  unfold outS OutV.cells
  refine rvl_app (rvl_app (rvl_app (rvl_app (rvl_app (rvl_app (a := [.x (.i .u8) (.sy 9)]) (vs := [.int .u8 o.k]) (rvl_cons (i8 (d 2 rfl (sok_i _ _)) ok.k) rvl_nil) r4) ?_) r17) r21) r25) ?_
  · exact rvl_cons (rv_b (d 7 rfl (bb _))) (rvl_cons (rv_b (d 8 rfl (bb _))) (rvl_cons (i8 (d 9 rfl (sok_i _ _)) ok.has) rvl_nil))
  · exact rvl_cons (rv_b (d 22 rfl (bb _))) (rvl_cons (rv_b (d 23 rfl (bb _))) (rvl_cons (rv_b (d 24 rfl (bb _))) (rvl_cons hk (rvl_cons (i8 (d 27 rfl (sok_i _ _)) ok.er) (rvl_cons (by rw [Rv]; exact ⟨d 28 rfl (sok_s _), _, rfl, ok.tx⟩) rvl_nil)))))
end
/-- arguments that are given -/
structure ArgsW (w : World) (L : Spot) (M : Nat) (a : Nat → V4) (g : Nat → Value) : Prop where
  blk : L.blk < w.heap.size
  ok : ∀ k, k < M → (a k).ok
  row : ∃ arr el fr, w.heap[L.blk]? = some (.cells arr el fr) ∧ L.base + 4 * M ≤ arr.size ∧ (∀ j, j < 4 * M → g j = arr.getD (L.base + j) undef) ∧ ∀ k, k < M → ∀ i V, (a k).cells[i]? = some V → g (4 * k + i) = V
section
variable {k1 k2 : Value} {o : OutV} {N C M : Nat} {g : Nat → Value} {L Q : Spot} {w : World} {a : Nat → V4}
theorem le_EG : (EG1 k1 k2 o N C M g).le (EG k1 k2 o N C M g L Q) := Env.le_trans (le_addAt EG1_six) (le_addAt rfl)
theorem dens_arg (A : ArgsW w L M a g) {k : Nat} (hk : k < M) (h64 : k < 64) : Dens (EG k1 k2 o N C M g L Q) (aN k) (a k) := by
  obtain ⟨arr, el, fr, _, _, _, hc⟩ := A.row
  have e0 := hc k hk 0 _ rfl
  have e1 := hc k hk 1 _ rfl
  have e2 := hc k hk 2 _ rfl
  have e3 := hc k hk 3 _ rfl
  have d := fun i (hi : i < 4) {V} (e : g (4 * k + i) = V) (ok : symOK V) => den_mono (le_EG (L := L) (Q := Q)) _ _ (by
    have := den_a1 (k1 := k1) (k2 := k2) (o := o) (N := N) (C := C) (M := M) (g := g) (4 * k + i) (by omega) (by omega) (by rw [e]; exact ok)
    rw [e] at this
    exact this)
  have s : ∀ i, 36 + (4 * k + i) = 36 + 4 * k + i := fun i => by omega
  have f0 := d 0 (by decide) e0 (sok_i _ _)
  have f1 := d 1 (by decide) e1 (sok_f _)
  have f2 := d 2 (by decide) e2 (sok_s _)
  have f3 := d 3 (by decide) e3 (sok_i _ _)
  rw [s] at f0 f1 f2 f3
  exact ⟨f0, f1, f2, f3⟩
theorem baseG0 (hL : L.blk < w.heap.size) (hQ : Q.blk < w.heap.size) : HR (EG k1 k2 o N C M g L Q) (startH [] 7) 292 w := by
  have hs : 0 < w.heap.size := by omega
  have hr := symG_ok (m := 285) (Ls := (vsL k1 k2 o N C M g).map spotOf) (gl := []) (n0 := 7) (w := w) rfl rfl rfl (fun p hp => by cases hp) (by rw [List.length_map, vsL_len]) (fun X hX => by obtain ⟨V, _, rfl⟩ := List.mem_map.1 hX; exact spot_blk V) hs
  exact HR.addAt (HR.addAt hr (by decide) EG1_six (startN_live 6 (by decide)) hL) (by decide) rfl (startN_live 5 (by decide)) hQ
theorem baseG (hL : L.blk < w.heap.size) (hQ : Q.blk < w.heap.size) {fs : Facts} (hf : Holds (EG k1 k2 o N C M g L Q) fs) : HR (EG k1 k2 o N C M g L Q) (hF0 fs) 292 w ∧ (∀ b, ¬ fp (EG k1 k2 o N C M g L Q) (hF0 fs) b) ∧ flr (hF0 fs) = 7 := by
  obtain ⟨q1, fk⟩ := facts_ok (by kernel_rfl) (by kernel_rfl) (baseG0 hL hQ) hf
  have hfl : flr (hF0 fs) = 7 := fk.flr.trans startN_flr
  exact ⟨q1, start_fp hfl fun i hi => by rw [show (T.get .gone (hF0 fs) i).live = _ from fk.live i]; exact startN_live i (by omega), hfl⟩
/-- a row at its place, and what is known -/
theorem baseRow (hL : L.blk < w.heap.size) (hQ : Q.blk < w.heap.size) {id gn m : Nat} {c : T AV} {X : Spot} {arr : Array Value} {el : TypeId} {fr : Nat × Nat} (hid : 0 < id ∧ id < 7) (hgn : 1000000 ≤ gn) (hE : EG k1 k2 o N C M g L Q id = some X) (hb : w.heap[X.blk]? = some (.cells arr el fr)) (hsz : X.base + m ≤ arr.size)
    (hc : ∀ j, j < m → Rv (EG k1 k2 o N C M g L Q) (T.get .no c j) (arr.getD (X.base + j) undef)) (ht : TypB (EG k1 k2 o N C M g L Q) id gn X arr) {fs : Facts} (hf : Holds (EG k1 k2 o N C M g L Q) fs) :
    HR (EG k1 k2 o N C M g L Q) (T.set (.facts fs) (T.set (.glob gn m c) (startH [] 7) id) fplace) 292 w ∧ (∀ b, ¬ fp (EG k1 k2 o N C M g L Q) (T.set (.facts fs) (T.set (.glob gn m c) (startH [] 7) id) fplace) b) ∧ flr (T.set (.facts fs) (T.set (.glob gn m c) (startH [] 7) id) fplace) = 7 := by
  obtain ⟨g1, g2⟩ := HR.setGlob (baseG0 hL hQ) (i := id) (g := gn) (m := m) (c := c) (L := X) hgn (by omega) (by rw [startN_flr]; exact hid.2) hE hb hsz hc
    (fun j Y hj hl _ _ => by
      cases j with
      | zero => rw [startH_zero] at hl; cases hl
      | succ j => rw [startN_live (j + 1) (by omega)] at hl; cases hl) ht
  rw [startN_flr] at g2
  obtain ⟨q1, fk⟩ := facts_ok (h := T.set (.glob gn m c) (startH [] 7) id) (by rw [T.get_set_ne _ _ _ _ _ (by have : fplace = 1048574 := rfl; omega)]; kernel_rfl) (by rw [g2]; kernel_rfl) g1 hf
  have hfl : flr (T.set (.facts fs) (T.set (.glob gn m c) (startH [] 7) id) fplace) = 7 := fk.flr.trans g2
  refine ⟨q1, start_fp hfl fun i hi => ?_, hfl⟩
  rw [show (T.get .gone (T.set (.facts fs) (T.set (.glob gn m c) (startH [] 7) id) fplace) i).live = _ from fk.live i, T.get_set_ne _ _ _ _ _ (by omega)]
  exact startN_live i (by omega)
theorem rv_arg (A : ArgsW w L M a g) {k : Nat} (hk : k < M) (h64 : k < 64) : ∀ i x, (vS (aN k))[i]? = some x → Rv (EG k1 k2 o N C M g L Q) x (g (4 * k + i)) := fun i x hi => by
  obtain ⟨arr, el, fr, _, _, _, hc⟩ := A.row
  obtain ⟨V, hV, r⟩ := rvl_at (rv_vS (A.ok k hk) (dens_arg (k1 := k1) (k2 := k2) (o := o) (N := N) (C := C) (Q := Q) A hk h64)) i x hi
  rw [hc k hk i V hV]; exact r
theorem argCells_len : ∀ n : Nat, (argCells n).length = 4 * n
  | 0 => rfl
  | n + 1 => by
    show (argCells n ++ vS (aN n)).length = _
    rw [List.length_append, argCells_len n]; rfl
theorem rv_args (A : ArgsW w L M a g) : ∀ n : Nat, n ≤ M → n ≤ 64 → ∀ i x, (argCells n)[i]? = some x → Rv (EG k1 k2 o N C M g L Q) x (g i)
  | 0, _, _, i, x, h => by cases h
  | n + 1, h1, h2, i, x, h => by
    have h : (argCells n ++ vS (aN n))[i]? = some x := h
    rcases Nat.lt_or_ge i (4 * n) with hi | hi
    · rw [List.getElem?_append_left (by rw [argCells_len]; exact hi)] at h
      exact rv_args A n (by omega) (by omega) i x h
    · rw [List.getElem?_append_right (by rw [argCells_len]; exact hi), argCells_len] at h
      have := rv_arg (k1 := k1) (k2 := k2) (o := o) (N := N) (C := C) (Q := Q) A (k := n) (by omega) (by omega) _ x h
      rw [show 4 * n + (i - 4 * n) = i from by omega] at this
      exact this
theorem six_EG : EG k1 k2 o N C M g L Q 6 = some L := rfl
theorem five_EG : EG k1 k2 o N C M g L Q 5 = some Q := rfl
theorem baseAll (A : ArgsW w L M a g) (hQ : Q.blk < w.heap.size) (h64 : M ≤ 64) {fs : Facts} (hf : Holds (EG k1 k2 o N C M g L Q) fs) : HR (EG k1 k2 o N C M g L Q) (hA M fs) 292 w ∧ (∀ b, ¬ fp (EG k1 k2 o N C M g L Q) (hA M fs) b) ∧ flr (hA M fs) = 7 := by
  obtain ⟨arr, el, fr, hb, hsz, hg, _⟩ := A.row
  refine baseRow A.blk hQ (by decide) (by decide) six_EG hb hsz (fun j hj => ?_) (TypB.of_small (by decide)) hf
  rw [← hg j hj]
  refine wrLs_rv (g := g) _ _ _ (fun i x hi => ?_) (fun i => by unfold big; rw [T.get_full]; simp [Rv]) j
  rw [Nat.zero_add]
  exact rv_args A M (Nat.le_refl _) h64 i x hi
theorem baseOne (A : ArgsW w L M a g) (hQ : Q.blk < w.heap.size) {k : Nat} (hk : k < M) (h64 : k < 64) {fs : Facts} (hf : Holds (EG k1 k2 o N C M g L Q) fs) : HR (EG k1 k2 o N C M g L Q) (hA1 k fs) 292 w ∧ (∀ b, ¬ fp (EG k1 k2 o N C M g L Q) (hA1 k fs) b) ∧ flr (hA1 k fs) = 7 := by
  obtain ⟨arr, el, fr, hb, hsz, hg, _⟩ := A.row
  refine baseRow A.blk hQ (by decide) (by decide) six_EG hb (by show L.base + 4 * (k + 1) ≤ _; omega) (fun j hj => ?_) (TypB.of_small (by decide)) hf
  have hj : j < 4 * (k + 1) := hj
  rw [← hg j (by omega)]
  exact wrLs_rv (g := g) _ _ _ (fun i x hi => rv_arg A hk h64 i x hi) (fun i => by unfold big; rw [T.get_full]; simp [Rv]) j
/-- the answer's keys: none, or a row -/
def KeysV (w : World) (Q : Spot) (N C : Nat) (q : Bool) (kv : Value) : Prop := match q with
  | false => kv = .slice none 0 0
  | true => kv = .slice (some ⟨Q.blk, Q.base, none⟩) N C ∧ ∃ g0, KeysW w Q N g0
theorem baseCut (hL : L.blk < w.heap.size) (hQ : Q.blk < w.heap.size) {q : Bool} {kv : Value} (hK : KeysV w Q N C q kv) {fs : Facts} (hf : Holds (EG k1 k2 o N C M g L Q) fs) : HR (EG k1 k2 o N C M g L Q) (hC q fs) 292 w ∧ (∀ b, ¬ fp (EG k1 k2 o N C M g L Q) (hC q fs) b) ∧ flr (hC q fs) = 7 := by
  cases q with
  | false => exact baseG hL hQ hf
  | true =>
    obtain ⟨_, g0, K⟩ := hK
    obtain ⟨arr, el, fr, hb, hsz, hty, _⟩ := K.row
    refine baseRow hL hQ (id := 5) (gn := 2000065) (by decide) (by decide) five_EG hb (Nat.le_trans (Nat.le_add_right _ _) hsz) (fun j hj => absurd hj (Nat.not_lt_zero _)) (fun _ => ?_) hf
    exact ⟨N, den_mono le_EG _ _ (den_g1 25 rfl (sok_i _ _)), hsz, hty⟩
end
end Go.Proofs.YtaecedlhiclkdaaGreatDoor.Rf

namespace Go.Proofs.YtaecedlhiclkdaaGreatDoor.Rf
open Go Vx Con
set_option linter.unusedVariables false
set_option linter.constructorNameAsVariable false
set_option maxRecDepth 100000

/-- the runs -/
structure RunsOK : Prop where
  rp : ∀ q i k N, i < 6 → k < 64 → rlP q i k N = true
  rl : ∀ q i k, i < 6 → 2 ≤ k → k ≤ 64 → rlL q i k = true
  fst : ∀ q i n C, i < 6 → 2 ≤ n → n ≤ 64 → fstL q i n C = true
  few : ∀ i, i < 6 → offR i [(.cmp .leq (.sy 8) (.li .i64 1), true)] = true
  many : ∀ i, i < 6 → offR i [(.cmp .leq (.sy 8) (.li .i64 64), false)] = true
  nil : ∀ i, i < 6 → nilA i = true
  name : nameR = true
theorem den_ieq {E : Env} {e : SE} {n : Int} (d : den E e = some (.int .i64 n)) : den E (.cmp .eql e e) = some (.bool true) := by
  simp only [den, d, cmpV, if_true]
  show some (Value.bool (n == n)) = _
  rw [beq_self_eq_true]
theorem finB_is {E : Env} {v : AV} {V : Value} {h : Heap} (hf : Holds E (factsOf h)) (he : finB v h = true) (r : Rv E v V) : Ending.returned V = .returned (.bool true) := by rw [finB_ok hf he r]
theorem atAnyG_one {F m t : Nat} {gw : GWk} {cans : Nat → Vx.Can} {needs needs' : Nat → Facts} (h : needs t = needs' t) : atAnyG F m gw cans needs [t] = atAnyG F m gw cans needs' [t] := by
  funext regs hp nxt
  show bc (atG F m (fltG (factsOf hp) gw) (cans t) (needs t) regs hp nxt) true false = bc (atG F m (fltG (factsOf hp) gw) (cans t) (needs' t) regs hp nxt) true false
  rw [h]
theorem headX_one {F m t id : Nat} {cans canX : Nat → Vx.Can} {needs needs' : Nat → Facts} {xs : List Nat} {hX : Nat → Heap} (h : needs t = needs' t) : headX F m cans needs [t] xs canX hX id = headX F m cans needs' [t] xs canX hX id := by
  funext kn kx kr regs hp nxt
  show bc (bc (atG F m [] (cans t) (needs t) regs hp nxt) true false) _ false = bc (bc (atG F m [] (cans t) (needs' t) regs hp nxt) true false) _ false
  rw [h]
theorem regsLA {E : Env} {q : Bool} {i k m : Nat} (hm : ∀ V, Rv E (LA 0) V → Rv E (LA m) V) (t : Nat) (V : Value) (r : Rv E (T.get .no (regsOf (canL q i 0 k).rs) t) V) : Rv E (T.get .no (regsOf (canL q i m k).rs) t) V := by
  have e : ∀ m, regsOf (canL q i m k).rs = T.set (LA m) (regsOf (canL q i 0 k).rs.tail) 1 := fun m => rfl
  rw [e] at r ⊢
  by_cases h4 : t = 1
  · subst h4
    have g : ∀ m, T.get .no (T.set (LA m) (regsOf (canL q i 0 k).rs.tail) 1) 1 = LA m := fun m => rfl
    rw [g] at r ⊢
    exact hm V r
  · rw [T.get_set_ne _ _ _ _ _ h4] at r ⊢
    exact r
theorem regsLX {E : Env} {q : Bool} {i : Nat} {a b : AV} (hm : ∀ V, Rv E a V → Rv E b V) (t : Nat) (V : Value) (r : Rv E (T.get .no (regsOf (canX q i a).rs) t) V) : Rv E (T.get .no (regsOf (canX q i b).rs) t) V := by
  have e : ∀ a, regsOf (canX q i a).rs = T.set a (regsOf (canX q i .sn).rs.tail) 1 := fun a => rfl
  rw [e] at r ⊢
  by_cases h4 : t = 1
  · subst h4
    have g : ∀ a, T.get .no (T.set a (regsOf (canX q i .sn).rs.tail) 1) 1 = a := fun a => rfl
    rw [g] at r ⊢
    exact hm V r
  · rw [T.get_set_ne _ _ _ _ _ h4] at r ⊢
    exact r
section
variable {o : OutV} {N C M CA : Nat} {g : Nat → Value} {L Q : Spot} {w : World} {a : Nat → V4} {q : Bool} {kv : Value}
theorem told_may (A : ArgsW w L M a g) {x0 : Value} (h64 : M ≤ 64) : ∀ n : Nat, n ≤ M → Vx.Told (EG x0 (.int .i64 M) o N C M g L Q) (mayN n)
  | 0, _ => fun p hp => by cases hp
  | n + 1, h => fun p hp => by
    rcases List.mem_cons.1 hp with rfl | hp
    · exact ⟨_, den_mA (dens_arg A (k := n) (by omega) (by omega))⟩
    · exact told_may A h64 n (by omega) p hp
theorem may_at (A : ArgsW w L M a g) {x0 : Value} (h64 : M ≤ 64) : ∀ n : Nat, n ≤ M → Holds (EG x0 (.int .i64 M) o N C M g L Q) (mayN n) → ∀ k, k < n → (a k).may = true
  | 0, _, _, k, hk => by omega
  | n + 1, h, hf, k, hk => by
    have h0 := hf _ List.mem_cons_self
    by_cases e : k = n
    · subst e
      rw [den_mA (dens_arg A (k := k) (by omega) (by omega))] at h0
      injection h0 with h0
      injection h0
    · exact may_at A h64 n (by omega) (fun p hp => hf p (List.mem_cons_of_mem _ hp)) k (by omega)
theorem holds_mayFs (A : ArgsW w L M a g) {x0 : Value} (h64 : M ≤ 64) : ∀ n : Nat, n ≤ M → (∀ k, k < n → (a k).may = true) → Holds (EG x0 (.int .i64 M) o N C M g L Q) (mayFs n)
  | 0, _, _ => holds_nil
  | n + 1, h, hm => by
    have d := dens_arg (k1 := x0) (k2 := .int .i64 M) (o := o) (N := N) (C := C) (Q := Q) A (k := n) (by omega) (by omega)
    have hn := hm n (by omega)
    exact holds_cons ((den_mA d).trans (by rw [hn])) (holds_cons ((fact_le d.1).trans (by rw [decide_eq_true (may_le hn)])) (holds_mayFs A h64 n (by omega) fun k hk => hm k (by omega)))
theorem holds_facX (A : ArgsW w L M a g) {x0 : Value} (h2 : 2 ≤ M) (h64 : M ≤ 64) (hm : ∀ k, k < M → (a k).may = true) : Holds (EG x0 (.int .i64 M) o N C M g L Q) (facX M) := by
  have d := dens_arg (k1 := x0) (k2 := .int .i64 M) (o := o) (N := N) (C := C) (Q := Q) A (k := 1) (by omega) (by omega)
  refine holds_app ?_ (holds_mayFs A h64 M (Nat.le_refl _) hm)
  have h0 : 0 ≤ (a 1).r := by
    have := hm 1 (by omega)
    unfold V4.may mayV at this
    simp only [Bool.and_eq_true, decide_eq_true_eq] at this
    exact this.1.1.2
  refine holds_cons (den_seq d.2.2.1) (holds_cons (den_ieq d.2.2.2) (holds_cons ((fact_le d.2.2.2).trans (by rw [decide_eq_false (by omega)])) holds_nil))
theorem holds_numJ (A : ArgsW w L M a g) {x0 : Value} (h2 : 2 ≤ M) (h64 : M ≤ 64) {i j : Nat} (hk : Holds (EG x0 (.int .i64 M) o N C M g L Q) (kdF i j)) (hm : ∀ k, k < M → (a k).may = true) : Holds (EG x0 (.int .i64 M) o N C M g L Q) (numJ i j) := by
  have d := dens_arg (k1 := x0) (k2 := .int .i64 M) (o := o) (N := N) (C := C) (Q := Q) A (k := 1) (by omega) (by omega)
  have hv := A.ok 1 (by omega)
  have h0 : 0 ≤ (a 1).r := by
    have := hm 1 (by omega)
    unfold V4.may mayV at this
    simp only [Bool.and_eq_true, decide_eq_true_eq] at this
    exact this.1.1.2
  unfold numJ
  split <;> try exact holds_nil
  rename_i n2 n3 n5 n0
  have e : kdF i j = [(.cmp .eql (.sy (aN 1)) (.li .u8 5), true), (.cmp .eql (.sy (Nat.add (aN 1) 3)) (.li .i64 9223372036854775807), false)] := by
    unfold kdF
    split <;> first | rfl | (exfalso; simp_all; done)
  have := hk (.cmp .eql (.sy (Nat.add (aN 1) 3)) (.li .i64 9223372036854775807), false) (by rw [e]; exact List.mem_cons_of_mem _ List.mem_cons_self)
  have hne : (a 1).r ≠ 9223372036854775807 := by
    have d3 := fact_eq (k := .i64) (c := 9223372036854775807) d.2.2.2
    have e2 : den (EG x0 (.int .i64 M) o N C M g L Q) (.cmp .eql (.sy (Nat.add (aN 1) 3)) (.li .i64 9223372036854775807)) = some (.bool false) := this
    have d3 : den (EG x0 (.int .i64 M) o N C M g L Q) (.cmp .eql (.sy (Nat.add (aN 1) 3)) (.li .i64 9223372036854775807)) = some (.bool (decide ((a 1).r = 9223372036854775807))) := d3
    rw [d3] at e2
    injection e2 with e2
    injection e2 with e2
    exact of_decide_eq_false e2
  exact holds_cons ((fact_le d.2.2.2).trans (by rw [decide_eq_true (by have := hv.2.2.2.2; omega)])) (holds_cons ((fact_le d.2.2.2).trans (by rw [decide_eq_false (by omega)])) holds_nil)
theorem told_need (A : ArgsW w L M a g) {x0 : Value} (h2 : 2 ≤ M) (h64 : M ≤ 64) (i j : Nat) : Vx.Told (EG x0 (.int .i64 M) o N C M g L Q) (needC i M j) := by
  have d0 := dens_arg (k1 := x0) (k2 := .int .i64 M) (o := o) (N := N) (C := C) (Q := Q) A (k := 0) (by omega) (by omega)
  have d1 := dens_arg (k1 := x0) (k2 := .int .i64 M) (o := o) (N := N) (C := C) (Q := Q) A (k := 1) (by omega) (by omega)
  intro p hp
  rcases List.mem_append.1 hp with hp | hp
  · unfold kdF at hp
    split at hp <;> first | (cases hp; done) | (rcases List.mem_singleton.1 hp with rfl; exact ⟨_, fact_le d1.1⟩) | (rcases List.mem_singleton.1 hp with rfl; exact ⟨_, fact_eq d1.1⟩) | (rcases List.mem_cons.1 hp with rfl | hp; exact ⟨_, fact_eq d1.1⟩; rcases List.mem_singleton.1 hp with rfl; exact ⟨_, fact_eq d1.2.2.2⟩)
  · rcases List.mem_cons.1 hp with rfl | hp
    · exact ⟨_, fact_le d0.1⟩
    · exact told_may A h64 M (Nat.le_refl _) p hp
theorem law_i (R : RunsOK) {i : Nat} (hi : i < 6) (ok : o.ok) (hN : N ≤ 9223372036854775807) (A : ArgsW w L M a g) (hQ : Q.blk < w.heap.size) (hK : KeysV w Q N C q kv) (h2 : 2 ≤ M) (h64 : M ≤ 64) (hCA : CA ≤ 9223372036854775807) {nm : Value} (hnm : ∀ E, Rv E (nmA i) nm) :
    Calls P 4 #[nm, .slice (some ⟨L.blk, L.base, none⟩) M CA, .agg (o.cells kv).toArray] w fun e w' => e = .returned (.bool true) ∧ RowKit.Below w.heap.size w w' := by
  have d7 : den (EG (.int .i64 CA) (.int .i64 M) o N C M g L Q) (.sy 7) = some (.int .i64 CA) := den_mono le_EG _ _ (den_g1 0 rfl (sok_i _ _))
  have d8 : den (EG (.int .i64 CA) (.int .i64 M) o N C M g L Q) (.sy 8) = some (.int .i64 M) := den_mono le_EG _ _ (den_g1 1 rfl (sok_i _ _))
  have d32 : den (EG (.int .i64 CA) (.int .i64 M) o N C M g L Q) (.sy 32) = some (.int .i64 N) := den_mono le_EG _ _ (den_g1 25 rfl (sok_i _ _))
  have d33 : den (EG (.int .i64 CA) (.int .i64 M) o N C M g L Q) (.sy 33) = some (.int .i64 C) := den_mono le_EG _ _ (den_g1 26 rfl (sok_i _ _))
  have rL : ∀ m, m ≤ M → Rv (EG (.int .i64 CA) (.int .i64 M) o N C M g L Q) (LA m) (.slice (some ⟨L.blk, L.base, none⟩) M CA) := fun m hm => by
    unfold LA
    rw [Rv]
    exact ⟨L, M, CA, six_EG, d8, d7, hm, by omega, rfl⟩
  have rK : Rv (EG (.int .i64 CA) (.int .i64 M) o N C M g L Q) (kyA q) kv := by
    cases q with
    | false => rw [show kv = .slice none 0 0 from hK]; show Rv _ .sn _; rw [Rv]
    | true =>
      obtain ⟨e, _⟩ := hK
      rw [e]
      show Rv _ LQ _
      unfold LQ
      rw [Rv]
      exact ⟨Q, N, C, five_EG, d32, d33, Nat.zero_le _, by omega, rfl⟩
  have ra : RvL (EG (.int .i64 CA) (.int .i64 M) o N C M g L Q) (argL q (nmA i) (LA 0)) (#[nm, .slice (some ⟨L.blk, L.base, none⟩) M CA, .agg (o.cells kv).toArray] : Array Value).toList :=
    rvl_cons (hnm _) (rvl_cons (rL 0 (Nat.zero_le _)) (rvl_cons (by rw [Rv]; exact ⟨_, rfl, rv_outL le_EG ok rK⟩) rvl_nil))
  have lenN : ∀ k, den (EG (.int .i64 CA) (.int .i64 M) o N C M g L Q) (lenA k true).1 = some (.bool (decide ((M : Int) ≤ Int.ofNat k))) := fun k => fact_le d8
  have tm := fun n hn => told_may (x0 := Value.int .i64 CA) (o := o) (N := N) (C := C) (Q := Q) A h64 n hn
  have f0 : Holds (EG (.int .i64 CA) (.int .i64 M) o N C M g L Q) fsL := holds_cons ((fact_le d8).trans (by rw [decide_eq_false (by omega)])) (holds_cons ((fact_le d8).trans (by rw [decide_eq_true (by omega)])) holds_nil)
  have b0 := baseG (k1 := .int .i64 CA) (k2 := .int .i64 M) (o := o) (N := N) (C := C) (M := M) (g := g) A.blk hQ f0
  have mays : ∀ E, (EG (.int .i64 CA) (.int .i64 M) o N C M g L Q).le E → Holds E (mayN M) → ∀ k, k < M → (a k).may = true := fun E hE hf => may_at A h64 M (Nat.le_refl _) (told_holds hE (tm M (Nat.le_refl _)) hf)
  have hlaw := lawG3 cL_ok DL_ok (calls := fun _ => cL) (draws := fun _ => DL) (fun _ => cL_ok) XT_ok (fun _ => DL_ok) Tryz.func4 hbL hcL hnL (h0 := hF0 fsL) (w0 := w)
    (h0s := fun s => if s < M then hA1 s (lenA s false :: mayN s) else if s = M then hF0 (lenA s true :: mayN s) else hF0 []) (K := M + 1) (cans := canL q i 0) (cans' := fun s => canL q i (if s < M then s + 1 else 0) s) (needs := fun s => mayN (min s M)) (starts := [0])
    (nexts := fun s => if s < M then [s + 1] else []) (gws := fun s => if s < M then gwL s else []) (xs := [0]) (canX := fun _ => canX q i (LA 0)) (canX' := fun _ => canX q i (LN M CA)) (needX := fun _ => mayN M) (hX := fun _ => hA M (mayN M ++ facX M)) (id := 0) (fin := finB) (m := 292) (F := 7) (W := cutW q i M)
    (cut_ok (by decide) (fun E hE => gw_nil) (fun j => told_need A h2 h64 i j) (fun j E hE hn => ?_)) ra (by show 3 ≤ _; exact of_decide_eq_true (by kernel_rfl)) (by decide) b0.1 b0.2.1 b0.2.2 (fun s E hE hn => ?_) (fun s E hE => ?_) (fun s => tm _ (Nat.min_le_right _ _)) (fun s E hE hn => ?_) (fun _ => tm M (Nat.le_refl _)) (fun _ E hE hn => ?_) (fun _ E hE hn => ?_) (fun s hs => ?_) (fun s hs t ht => ?_) ?_ (fun s hs hn => ?_)
  · refine hlaw.mono ?_
    rintro e w' ⟨⟨V, v, h', E', rfl, rv, hf, hE, hk⟩, hb⟩
    exact ⟨finB_is hf hk rv, hb⟩
  · have hm : Holds E (mayN M) := fun p hp => hn p (List.mem_append_right _ (List.mem_cons_of_mem _ hp))
    have hn0 := told_holds hE (told_need A h2 h64 i j) hn
    exact baseCut A.blk hQ hK (holds_app (holds_app hn0 (holds_numJ A h2 h64 (fun p hp => hn0 p (List.mem_append_left _ hp)) (mays E hE hm))) (holds_facX A h2 h64 (mays E hE hm)))
  · split
    · rename_i hs
      have hmin : min s M = s := Nat.min_eq_left (by omega)
      rw [hmin] at hn
      refine baseOne A hQ hs (by omega) (holds_cons ((lenN _).trans ?_) (told_holds hE (tm s (by omega)) hn))
      rw [decide_eq_false (by have e : Int.ofNat s = (s : Int) := rfl; omega)]; rfl
    · rename_i hs
      have hmin : min s M = M := Nat.min_eq_right (by omega)
      rw [hmin] at hn
      split
      · rename_i hsM
        subst hsM
        refine baseG A.blk hQ (holds_cons ((lenN _).trans ?_) (told_holds hE (tm _ (Nat.le_refl _)) hn))
        rw [decide_eq_true (by have e : Int.ofNat s = (s : Int) := rfl; omega)]; rfl
      · exact baseG A.blk hQ holds_nil
  · split
    · refine gw_cons (fun p hp => by cases hp) (fun _ V r => ?_) gw_nil
      dsimp only at r ⊢
      unfold LA at r ⊢
      rw [Rv] at r ⊢
      obtain ⟨X, n, c, a1, a2, a3, _, a5, a6⟩ := r
      exact ⟨X, n, c, a1, a2, a3, Nat.zero_le _, a5, a6⟩
    · exact gw_nil
  · refine ⟨rfl, rfl, fun t V r => ?_⟩
    split
    · rename_i hs
      refine regsLA (fun V r => ?_) t V r
      unfold LA at r ⊢
      rw [Rv] at r ⊢
      obtain ⟨X, n, cp, a1, a2, a3, _, a5, a6⟩ := r
      refine ⟨X, n, cp, a1, a2, a3, ?_, a5, a6⟩
      have hl := den_mono hE _ _ d8
      rw [a2] at hl
      have hl : (n : Int) = M := by injection hl with hl; injection hl
      omega
    · exact r
  · refine ⟨rfl, rfl, fun t V r => regsLX (fun V r => ?_) t V r⟩
    unfold LA at r
    unfold LN
    simp only [Rv] at r ⊢
    obtain ⟨X, n, c, a1, a2, a3, _, a5, a6⟩ := r
    rw [den_mono hE _ _ d8] at a2
    rw [den_mono hE _ _ d7] at a3
    have e2 : (M : Int) = n := by injection a2 with a2; injection a2
    have e3 : (CA : Int) = c := by injection a3 with a3; injection a3
    have e2 : M = n := by omega
    have e3 : CA = c := by omega
    subst e2 e3
    exact ⟨X, a1, a6⟩
  · have hm := mays E hE hn
    exact baseAll A hQ h64 (holds_app (told_holds hE (tm M (Nat.le_refl _)) hn) (holds_facX A h2 h64 hm))
  · rcases List.mem_singleton.1 hs with rfl
    omega
  · split at ht
    · rcases List.mem_singleton.1 ht with rfl
      omega
    · cases ht
  · have := R.fst q i M CA hi h2 h64
    unfold fstL at this
    rw [headX_one (needs' := mayN) (t := 0) (by show mayN (min 0 M) = mayN 0; rw [Nat.min_eq_left (Nat.zero_le _)])]
    exact this
  · by_cases hsM : s < M
    · rw [if_pos hsM, if_pos hsM, if_pos hsM, if_pos hsM]
      have := R.rp q i s M hi (by omega)
      unfold rlP at this
      rw [atAnyG_one (needs' := mayN) (t := s + 1) (by show mayN (min (s + 1) M) = mayN (s + 1); rw [Nat.min_eq_left (by omega)])]
      exact this
    · obtain rfl : s = M := by omega
      rw [if_neg hsM, if_neg hsM, if_neg hsM, if_neg hsM, if_pos rfl]
      exact R.rl q i s hi h2 h64
end
end Go.Proofs.YtaecedlhiclkdaaGreatDoor.Rf

namespace Go.Proofs.YtaecedlhiclkdaaGreatDoor.Rf
open Go Vx Con
set_option linter.unusedVariables false
set_option linter.constructorNameAsVariable false
set_option maxRecDepth 100000

def nmS (i : Nat) : ByteArray := match i with
  | 0 => str 14 2463397432817095070742700851225956
  | 1 => str 3 7561576
  | 2 => str 12 31389014717615377969513329513
  | 3 => str 17 39279265759193974485341313937393999770224
  | 4 => str 3 7628147
  | _ => str 14 2075096198370335216509268027270515
theorem nm_rv (E : Env) : ∀ i, Rv E (nmA i) (.string (nmS i))
  | 0 => by show Rv E (.s 14 2463397432817095070742700851225956) (.string (str 14 2463397432817095070742700851225956)); rw [Rv]
  | 1 => by show Rv E (.s 3 7561576) (.string (str 3 7561576)); rw [Rv]
  | 2 => by show Rv E (.s 12 31389014717615377969513329513) (.string (str 12 31389014717615377969513329513)); rw [Rv]
  | 3 => by show Rv E (.s 17 39279265759193974485341313937393999770224) (.string (str 17 39279265759193974485341313937393999770224)); rw [Rv]
  | 4 => by show Rv E (.s 3 7628147) (.string (str 3 7628147)); rw [Rv]
  | _ + 5 => by show Rv E (.s 14 2075096198370335216509268027270515) (.string (str 14 2075096198370335216509268027270515)); rw [Rv]
theorem ne_str {E : Env} {e : SE} {l x : Nat} {s : ByteArray} (d : den E e = some (.string s)) (h : s ≠ str l x) : den E (.cmp .eql e (.ls l x)) = some (.bool false) := by
  have hne : (s.toList == (str l x).toList) = false := by
    rw [beq_eq_false_iff_ne]
    intro e
    rw [ByteArray.toList_eq, ByteArray.toList_eq] at e
    exact h (Go.WideShapes.bytes_inj e)
  simp only [den, d, cmpV, cmpS, Option.map_some, hne]
section
variable {o : OutV} {N C : Nat} {w : World} {kv : Value}
theorem other_name (R : RunsOK) {nm : ByteArray} {l : Value} (hnm : (nm.size : Int) ≤ 9223372036854775807) (ok : o.ok) (hl : ∀ E : Env, Rv E .any l) (hk : ∀ E : Env, Rv E .any kv) (hs : 0 < w.heap.size) (h : ∀ i, i < 6 → nm ≠ nmS i) :
    Calls P 4 #[.string nm, l, .agg (o.cells kv).toArray] w fun e w' => e = .returned (.bool true) ∧ RowKit.Below w.heap.size w w' := by
  have d7 : den (EG1 (.string nm) (.int .i64 0) o 0 0 0 fun _ => undef) (.sy 7) = some (.string nm) := den_g1 0 rfl (sok_s _)
  have hf : Holds (EG1 (.string nm) (.int .i64 0) o 0 0 0 fun _ => undef) nameF :=
    holds_cons (ne_str d7 (h 0 (by decide))) (holds_cons (ne_str d7 (h 1 (by decide))) (holds_cons (ne_str d7 (h 2 (by decide))) (holds_cons (ne_str d7 (h 3 (by decide))) (holds_cons (ne_str d7 (h 4 (by decide))) (holds_cons (ne_str d7 (h 5 (by decide))) (holds_nil))))))
  have ra : RvL (EG1 (.string nm) (.int .i64 0) o 0 0 0 fun _ => undef) (argO (.x .s (.sy 7)) .any .any) (#[.string nm, l, .agg (o.cells kv).toArray] : Array Value).toList :=
    rvl_cons (by rw [Rv]; exact ⟨d7, _, rfl, hnm⟩) (rvl_cons (hl _) (rvl_cons (by rw [Rv]; exact ⟨_, rfl, rv_outL (Env.le_refl _) ok (hk _)⟩) rvl_nil))
  refine (closedXG cL_ok (gl := []) (n0 := 7) (nn := 292) (fin := finB) rfl rfl rfl (by rw [vsL_len]) hf ra (fun _ _ => rfl) R.name w hs (fun p hp => by cases hp)).mono ?_
  rintro e w' ⟨⟨V, v, h', E', rfl, rv, hf, hk⟩, hb⟩
  exact ⟨finB_is hf hk rv, hb⟩
theorem no_args (R : RunsOK) {i : Nat} (hi : i < 6) (ok : o.ok) (hk : ∀ E : Env, Rv E .any kv) (hs : 0 < w.heap.size) :
    Calls P 4 #[.string (nmS i), .slice none 0 0, .agg (o.cells kv).toArray] w fun e w' => e = .returned (.bool true) ∧ RowKit.Below w.heap.size w w' := by
  have ra : RvL (EG1 (.int .i64 0) (.int .i64 0) o 0 0 0 fun _ => undef) (argO (nmA i) .sn .any) (#[.string (nmS i), .slice none 0 0, .agg (o.cells kv).toArray] : Array Value).toList :=
    rvl_cons (nm_rv _ i) (rvl_cons (by rw [Rv]) (rvl_cons (by rw [Rv]; exact ⟨_, rfl, rv_outL (Env.le_refl _) ok (hk _)⟩) rvl_nil))
  refine (closedXG cL_ok (gl := []) (n0 := 7) (nn := 292) (fin := finB) rfl rfl rfl (by rw [vsL_len]) holds_nil ra (fun _ _ => rfl) (R.nil i hi) w hs (fun p hp => by cases hp)).mono ?_
  rintro e w' ⟨⟨V, v, h', E', rfl, rv, hf, hk⟩, hb⟩
  exact ⟨finB_is hf hk rv, hb⟩
theorem off_args {i : Nat} {fs : Facts} (hR : offR i fs = true) (ok : o.ok) (hk : ∀ E : Env, Rv E .any kv) {L : Spot} {M CA : Nat} (hL : L.blk < w.heap.size) (hM : M ≤ 9223372036854775807) (hCA : CA ≤ 9223372036854775807)
    (hf : ∀ E : Env, den E (.sy 8) = some (.int .i64 M) → Holds E fs) :
    Calls P 4 #[.string (nmS i), .slice (some ⟨L.blk, L.base, none⟩) M CA, .agg (o.cells kv).toArray] w fun e w' => e = .returned (.bool true) ∧ RowKit.Below w.heap.size w w' := by
  have d7 : den (EG (.int .i64 CA) (.int .i64 M) o 0 0 0 (fun _ => undef) L L) (.sy 7) = some (.int .i64 CA) := den_mono le_EG _ _ (den_g1 0 rfl (sok_i _ _))
  have d8 : den (EG (.int .i64 CA) (.int .i64 M) o 0 0 0 (fun _ => undef) L L) (.sy 8) = some (.int .i64 M) := den_mono le_EG _ _ (den_g1 1 rfl (sok_i _ _))
  have ra : RvL (EG (.int .i64 CA) (.int .i64 M) o 0 0 0 (fun _ => undef) L L) (argO (nmA i) (LA 0) .any) (#[.string (nmS i), .slice (some ⟨L.blk, L.base, none⟩) M CA, .agg (o.cells kv).toArray] : Array Value).toList :=
    rvl_cons (nm_rv _ i) (rvl_cons (by unfold LA; rw [Rv]; exact ⟨L, M, CA, six_EG, d8, d7, Nat.zero_le _, by omega, rfl⟩) (rvl_cons (by rw [Rv]; exact ⟨_, rfl, rv_outL le_EG ok (hk _)⟩) rvl_nil))
  have b0 := baseG (k1 := .int .i64 CA) (k2 := .int .i64 M) (o := o) (N := 0) (C := 0) (M := 0) (g := fun _ => undef) hL hL (hf _ d8)
  have bn := fun (E : Env) => baseG (k1 := .int .i64 CA) (k2 := .int .i64 M) (o := o) (N := 0) (C := 0) (M := 0) (g := fun _ => undef) (fs := []) hL hL holds_nil
  have hlaw := lawG3 cL_ok DL_ok (calls := fun _ => cL) (draws := fun _ => DL) (fun _ => cL_ok) XT_ok (fun _ => DL_ok) Tryz.func4 hbL hcL hnL (h0 := hF0 fs) (w0 := w)
    (h0s := fun _ => hF0 []) (K := 0) (cans := canL true i 0) (cans' := canL true i 0) (needs := fun _ => []) (starts := [])
    (nexts := fun _ => []) (gws := fun _ => []) (xs := []) (canX := fun _ => canX true i .sn) (canX' := fun _ => canX true i .sn) (needX := fun _ => []) (hX := fun _ => hF0 []) (id := 0) (fin := finB) (m := 292) (F := 7) (W := fun _ S0 => S0)
    cut_none ra (by show 3 ≤ _; exact of_decide_eq_true (by kernel_rfl)) (by decide) b0.1 b0.2.1 b0.2.2 (fun s E hE hn => bn E) (fun s E hE => gw_nil) (fun s p hp => by cases hp) (fun s E hE hn => ⟨rfl, rfl, fun t V r => r⟩) (fun _ p hp => by cases hp) (fun _ E hE hn => ⟨rfl, rfl, fun t V r => r⟩) (fun _ E hE hn => bn E) (fun s hs => by cases hs) (fun s hs => by cases hs) hR (fun s hs => by cases hs)
  refine hlaw.mono ?_
  rintro e w' ⟨⟨V, v, h', E', rfl, rv, hf, hE, hk⟩, hb⟩
  exact ⟨finB_is hf hk rv, hb⟩
end
end Go.Proofs.YtaecedlhiclkdaaGreatDoor.Rf

namespace Go.Proofs.YtaecedlhiclkdaaGreatDoor.Rf
open Go.ChangeShapes Go.WideShapes Go.ChangeAt Go.RowKit
set_option linter.unusedVariables false
set_option linter.constructorNameAsVariable false
set_option maxRecDepth 100000

def kindsV : List TypeDesc := [.int .u8, .float .f64, .string, .int .i64]
def kindsK : List TypeDesc := [.string, .int .i64]
theorem world_pos {W : World} (h : W.ShapedOpen Tryz.prog) : 0 < W.heap.size := by
  have e : ∃ z t, ((begin Tryz.prog (fun _ _ => 0) default).world.heap[0]?).bind Obj.row? = some (z, t) := by
    have e1 : (((begin Tryz.prog (fun _ _ => 0) default).world.heap[0]?).bind Obj.row?).isSome = true := by kernel_rfl
    cases h0 : ((begin Tryz.prog (fun _ _ => 0) default).world.heap[0]?).bind Obj.row? with
    | none => rw [h0] at e1; cases e1
    | some p => exact ⟨p.1, p.2, rfl⟩
  obtain ⟨z, t, e⟩ := e
  exact Vx.heap_pos h (of_decide_eq_true (by kernel_rfl)) e
theorem val_cells {cs : List Value} (h : Vx.All2 Vx.leafOk kindsV cs) : ∃ (c : Int) (x : Nat) (s : ByteArray) (r : Int), cs = [.int .u8 c, .float .f64 x, .string s, .int .i64 r] ∧ (0 ≤ c ∧ c ≤ 255) ∧ x < 18446744073709551616 ∧ (s.size : Int) ≤ 9223372036854775807 ∧ (-9223372036854775808 ≤ r ∧ r ≤ 9223372036854775807) := by
  obtain ⟨v0, cs1, e0, h0, k1⟩ := Vx.all2_cons h
  obtain ⟨v1, cs2, e1, h1, k2⟩ := Vx.all2_cons k1
  obtain ⟨v2, cs3, e2, h2, k3⟩ := Vx.all2_cons k2
  obtain ⟨v3, cs4, e3, h3, k4⟩ := Vx.all2_cons k3
  have e4 : cs4 = [] := by cases cs4 with | nil => rfl | cons => exact k4.elim
  obtain ⟨c, rfl, w0⟩ := h0
  obtain ⟨x, rfl, w1⟩ := h1
  obtain ⟨s, rfl, w2⟩ := h2
  obtain ⟨r, rfl, w3⟩ := h3
  exact ⟨c, x, s, r, by rw [e0, e1, e2, e3, e4], Vx.wf_int w0, Vx.wf_f64 w1, by have : s.size ≤ 9223372036854775807 := w2; omega, Vx.wf_int w3⟩
theorem key_cells' {cs : List Value} (h : Vx.All2 Vx.leafOk kindsK cs) : ∃ (s : ByteArray) (r : Int), cs = [.string s, .int .i64 r] ∧ (s.size : Int) ≤ 9223372036854775807 ∧ (-9223372036854775808 ≤ r ∧ r ≤ 9223372036854775807) := by
  obtain ⟨v0, cs1, e0, h0, k1⟩ := Vx.all2_cons h
  obtain ⟨v1, cs2, e1, h1, k2⟩ := Vx.all2_cons k1
  have e2 : cs2 = [] := by cases cs2 with | nil => rfl | cons => exact k2.elim
  obtain ⟨s, rfl, w0⟩ := h0
  obtain ⟨r, rfl, w1⟩ := h1
  exact ⟨s, r, by rw [e0, e1, e2], by have : s.size ≤ 9223372036854775807 := w0; omega, Vx.wf_int w1⟩
/-! ### Where a slice may lie -/
theorem rowAt_le {P : Program} {fits : TypeId → Bool} {e : TypeId} {count off n : Nat} : ∀ {d : Nat}, rowAt P fits d e count off n = true → off ≤ count * P.cellsOf e
  | 0, h => by cases h
  | d + 1, h => by
    unfold rowAt at h
    dsimp only at h
    split at h
    · cases h
    · rename_i hs
      have hd := Nat.div_add_mod off (P.cellsOf e)
      have hlt := Nat.mod_lt off (Nat.pos_of_ne_zero hs)
      rw [Bool.or_eq_true] at h
      rcases h with h | h
      · simp only [Bool.and_eq_true, beq_iff_eq, decide_eq_true_eq] at h
        obtain ⟨⟨h1, h2⟩, _⟩ := h
        have := Nat.mul_le_mul_right (P.cellsOf e) (show off / P.cellsOf e ≤ count by omega)
        rw [Nat.mul_comm (P.cellsOf e)] at hd
        omega
      · rw [Bool.and_eq_true, decide_eq_true_eq] at h
        have := Nat.mul_le_mul_right (P.cellsOf e) (Nat.succ_le_of_lt h.1)
        rw [Nat.succ_mul] at this
        rw [Nat.mul_comm (P.cellsOf e)] at hd
        omega
theorem liesAt_le {P : Program} {e : TypeId} {count off : Nat} : ∀ {d : Nat} {u : TypeId} {n : Nat}, liesAt P d e count off u n = true → off ≤ count * P.cellsOf e
  | 0, _, _, h => by cases h
  | d + 1, _, _, h => by
    unfold liesAt at h
    rw [Bool.or_eq_true] at h
    rcases h with h | h
    · exact rowAt_le h
    · split at h
      · exact liesAt_le h
      · cases h
section
variable {P : Program} {W : World} {b0 : Nat} {t : TypeId} {v : Value}
theorem cw_slice {e : TypeId} {a : Addr} {len cap : Nat} (hu : P.underlying t = some (.slice e)) (h : Cell.okWide P W .any b0 t (.slice (some a) len cap)) : len ≤ cap ∧ (cap : Int) ≤ IntKind.i64.max ∧ a.spot = none ∧ ∃ arr el fr, W.heap[a.block]? = some (.cells arr el fr) ∧ a.off ≤ arr.size := by
  unfold Cell.okWide at h
  rw [hu] at h
  dsimp only at h
  unfold Cell.ok at h
  rw [hu] at h
  obtain ⟨h1, h2, _, h3, row, cells, h4, h5⟩ := h
  refine ⟨h1, h2, h3, ?_⟩
  unfold World.shape? at h4
  cases hb : W.heap[a.block]? with
  | none => rw [hb] at h4; cases h4
  | some o =>
    rw [hb] at h4
    cases o <;> try (cases h4; done)
    cases h4
    have h6 := liesAt_le h5
    exact ⟨_, _, _, rfl, Nat.le_trans h6 (Nat.div_mul_le_self _ _)⟩
theorem cw_int {k : IntKind} (hu : P.underlying t = some (.int k)) (h : Cell.okWide P W .any b0 t v) : ∃ n, v = .int k n ∧ k.min ≤ n ∧ n ≤ k.max := by
  unfold Cell.okWide at h
  rw [hu] at h
  cases v <;> simp only at h <;> unfold Cell.ok at h <;> rw [hu] at h <;> try (cases h; done)
  obtain ⟨rfl, h⟩ := h
  exact ⟨_, rfl, h⟩
theorem cw_f64 (hu : P.underlying t = some (.float .f64)) (h : Cell.okWide P W .any b0 t v) : ∃ x, v = .float .f64 x ∧ x < 18446744073709551616 := by
  unfold Cell.okWide at h
  rw [hu] at h
  cases v <;> simp only at h <;> unfold Cell.ok at h <;> rw [hu] at h <;> try (cases h; done)
  obtain ⟨rfl, h⟩ := h
  exact ⟨_, rfl, h⟩
theorem cw_str (hu : P.underlying t = some .string) (h : Cell.okWide P W .any b0 t v) : ∃ s : ByteArray, v = .string s ∧ (s.size : Int) ≤ 9223372036854775807 := by
  unfold Cell.okWide at h
  rw [hu] at h
  cases v <;> simp only at h <;> unfold Cell.ok at h <;> rw [hu] at h <;> try (cases h; done)
  exact ⟨_, rfl, h⟩
theorem cw_bool (hu : P.underlying t = some .bool) (h : Cell.okWide P W .any b0 t v) : ∃ b, v = .bool b := by
  unfold Cell.okWide at h
  rw [hu] at h
  cases v <;> simp only at h <;> unfold Cell.ok at h <;> rw [hu] at h <;> try (cases h; done)
  exact ⟨_, rfl⟩
end
theorem all2_of {R : TypeId → Value → Prop} : ∀ {ts : List TypeId} {cs : List Value}, cs.length = ts.length → (∀ (i : Nat) u v, ts[i]? = some u → cs[i]? = some v → R u v) → Vx.All2 R ts cs
  | [], [], _, _ => trivial
  | [], _ :: _, h, _ => by cases h
  | _ :: _, [], h, _ => by cases h
  | t :: ts, c :: cs, h, hr => ⟨hr 0 t c rfl rfl, all2_of (by simpa using h) fun i u v h1 h2 => hr (i + 1) u v h1 h2⟩
theorem cell_at {W : World} {a : Addr} {V : Value} (h : W.cell? a = some V) : ∃ arr el fr, W.heap[a.block]? = some (.cells arr el fr) ∧ arr[a.off]? = some V := by
  unfold World.cell? at h
  split at h
  · rename_i c el fr hb
    split at h
    · cases h
    · exact ⟨c, el, fr, hb, h⟩
  · cases h
theorem add_off {a : Addr} (n : Nat) : (a.add n).off = a.off + n ∧ (a.add n).block = a.block := by
  unfold Addr.add
  by_cases e : n = 0
  · rw [if_pos e]; exact ⟨by omega, rfl⟩
  · rw [if_neg e]; exact ⟨rfl, rfl⟩
/-- a slice's cells -/
def RowV (W : World) (n : Nat) (kinds : List TypeDesc) (l : Value) : Prop := l = .slice none 0 0 ∨ ∃ (L : Vx.Spot) (len cap : Nat) (arr : Array Value) (el : TypeId) (fr : Nat × Nat), l = .slice (some ⟨L.blk, L.base, none⟩) len cap ∧ len ≤ 9223372036854775807 ∧ cap ≤ 9223372036854775807 ∧
  W.heap[L.blk]? = some (.cells arr el fr) ∧ L.base + n * len ≤ arr.size ∧ ∀ k, k < len → ∃ cs, Vx.All2 Vx.leafOk kinds cs ∧ ∀ (i : Nat) (V : Value), cs[i]? = some V → arr.getD (L.base + (n * k + i)) undef = V
section
variable {H : Type} {enc : TypeId × Value → H}
theorem open_row {W : World} {b0 : Nat} {sp : Nat → Bool} {hd : Bool} {fuel n : Nat} {tS tE : TypeId} {kinds : List TypeDesc} {l : Value} {x : DataW H × List MemPlace} (hu : Tryz.prog.underlying tS = some (.slice tE)) (hn : Tryz.prog.cellsOf tE = n) (hpos : 0 < n) (hkl : kinds.length = n) (hfl : Vx.flatT Tryz.prog 4 tE = some kinds)
    (hs : ∃ a len cap, l = .slice a len cap) (hv : Cell.okWide Tryz.prog W .any b0 tS l) (h : DataW.trod enc Tryz.prog W 0 sp hd fuel tS [l] = some x) : RowV W n kinds l := by
  rcases Deep.open_slice hu h with ⟨h0, _⟩ | ⟨a, len, cap, q, m, D, Pl, h0, _, hlc, _, hq, _, hel⟩
  · injection h0 with h0 _
    exact .inl h0
  injection h0 with h0 _
  subst h0
  obtain ⟨_, hcap, hspot, arr, el, fr, hb, hoff⟩ := cw_slice hu hv
  have hlq : len ≤ q := by rw [hq]; split <;> omega
  have each : ∀ k, k < len → ∃ cs, Vx.All2 Vx.leafOk kinds cs ∧ a.off + n * (k + 1) ≤ arr.size ∧ ∀ (i : Nat) (V : Value), cs[i]? = some V → arr.getD (a.off + (n * k + i)) undef = V := fun k hk => by
    obtain ⟨cs, hc, ht⟩ := hel k (by omega)
    obtain ⟨hcs, _⟩ := Vx.flatT_ok 4 tE kinds _ _ _ hfl ht
    have hlen : cs.length = n := by rw [← hkl]; exact hcs.length.symm
    rw [hn] at hc
    unfold World.cells? at hc
    rw [if_pos (Nat.zero_le _)] at hc
    have cell : ∀ (i : Nat) V, cs[i]? = some V → arr[a.off + (n * k + i)]? = some V := fun i V hi => by
      have hin : i < n := by have := (List.getElem?_eq_some_iff.1 hi).1; omega
      have := mapM_some_get hc i i (by rw [List.getElem?_range hin])
      rw [hi, Deep.add_add] at this
      obtain ⟨arr', el', fr', g1, g2⟩ := cell_at this
      rw [(add_off _).1] at g2
      rw [(add_off _).2, hb] at g1
      cases g1
      rw [Nat.mul_comm k n] at g2
      exact g2
    refine ⟨cs, hcs, ?_, fun i V hi => ?_⟩
    · obtain ⟨V, hV⟩ : ∃ V, cs[n - 1]? = some V := ⟨cs[n - 1]'(by omega), List.getElem?_eq_getElem (by omega)⟩
      have := (Array.getElem?_eq_some_iff.1 (cell _ V hV)).1
      rw [Nat.mul_succ]
      omega
    · rw [Array.getD_eq_getD_getElem?, cell i V hi]; rfl
  have hc : cap ≤ 9223372036854775807 := by
    have e : IntKind.i64.max = 9223372036854775807 := rfl
    omega
  obtain ⟨ab, ao, asp⟩ := a
  have : asp = none := hspot
  subst this
  refine .inr ⟨⟨ab, ao, 0⟩, len, cap, arr, el, fr, rfl, by omega, hc, hb, ?_, fun k hk => ?_⟩
  · cases len with
    | zero => exact hoff
    | succ m => exact (each m (Nat.lt_succ_self _)).choose_spec.2.1
  · obtain ⟨cs, h1, _, h3⟩ := each k hk
    exact ⟨cs, h1, h3⟩
theorem open_args {W : World} {b0 : Nat} {sp : Nat → Bool} {hd : Bool} {l : Value} {d : DataW H} {p : List MemPlace} (hv : Value.okWide Tryz.prog W .any b0 25 l) (h : DataW.Trod enc Tryz.prog W 0 sp hd 25 l d p) : RowV W 4 kindsV l := by
  have hs := okWide_slice Tryz.underlying25 hv
  obtain ⟨fuel, hf⟩ := h
  obtain ⟨a0, len0, cap0, rfl⟩ := hs
  unfold Value.okWide at hv
  rw [Tryz.underlying25] at hv
  exact open_row Tryz.underlying25 (by kernel_rfl) (by decide) rfl (by kernel_rfl) ⟨_, _, _, rfl⟩ hv hf
theorem open_out {W : World} {b0 : Nat} {sp : Nat → Bool} {hd : Bool} {v : Value} {d : DataW H} {p : List MemPlace} (hv : Value.okWide Tryz.prog W .any b0 44 v) (h : DataW.Trod enc Tryz.prog W 0 sp hd 44 v d p) :
    ∃ (o : OutV) (kv : Value), o.ok ∧ v = .agg (o.cells kv).toArray ∧ RowV W 2 kindsK kv := by
  unfold Value.okWide at hv
  rw [Tryz.underlying44] at hv
  obtain ⟨cs, rfl, hsz, ts, hts, _, hall⟩ := hv
  have ets : Tryz.prog.cellTypes Tryz.prog.depth 44 = some [5, 5, 22, 9, 3, 4, 4, 5, 5, 22, 9, 3, 5, 22, 9, 3, 5, 22, 9, 3, 4, 4, 4, 42, 5, 9] := by kernel_rfl
  rw [ets] at hts
  cases hts
  have hsz : cs.size = 26 := by rw [hsz]; kernel_rfl
  have k0 : Vx.All2 (fun t v => Cell.okWide Tryz.prog W .any b0 t v) [5, 5, 22, 9, 3, 4, 4, 5, 5, 22, 9, 3, 5, 22, 9, 3, 5, 22, 9, 3, 4, 4, 4, 42, 5, 9] cs.toList := all2_of (by rw [Array.length_toList, hsz]; rfl) fun i u v h1 h2 => by
    have hi : i < 26 := (List.getElem?_eq_some_iff.1 h1).1
    obtain ⟨u', h3, h4⟩ := hall i v (by rw [← Array.getElem?_toList]; exact h2)
    have e : i % [5, 5, 22, 9, 3, 4, 4, 5, 5, 22, 9, 3, 5, 22, 9, 3, 5, 22, 9, 3, 4, 4, 4, 42, 5, 9].length = i := Nat.mod_eq_of_lt hi
    rw [e, h1] at h3
    cases h3
    exact h4
  obtain ⟨c0, l1, e0, h0, k1⟩ := Vx.all2_cons k0
  obtain ⟨c1, l2, e1, h1, k2⟩ := Vx.all2_cons k1
  obtain ⟨c2, l3, e2, h2, k3⟩ := Vx.all2_cons k2
  obtain ⟨c3, l4, e3, h3, k4⟩ := Vx.all2_cons k3
  obtain ⟨c4, l5, e4, h4, k5⟩ := Vx.all2_cons k4
  obtain ⟨c5, l6, e5, h5, k6⟩ := Vx.all2_cons k5
  obtain ⟨c6, l7, e6, h6, k7⟩ := Vx.all2_cons k6
  obtain ⟨c7, l8, e7, h7, k8⟩ := Vx.all2_cons k7
  obtain ⟨c8, l9, e8, h8, k9⟩ := Vx.all2_cons k8
  obtain ⟨c9, l10, e9, h9, k10⟩ := Vx.all2_cons k9
  obtain ⟨c10, l11, e10, h10, k11⟩ := Vx.all2_cons k10
  obtain ⟨c11, l12, e11, h11, k12⟩ := Vx.all2_cons k11
  obtain ⟨c12, l13, e12, h12, k13⟩ := Vx.all2_cons k12
  obtain ⟨c13, l14, e13, h13, k14⟩ := Vx.all2_cons k13
  obtain ⟨c14, l15, e14, h14, k15⟩ := Vx.all2_cons k14
  obtain ⟨c15, l16, e15, h15, k16⟩ := Vx.all2_cons k15
  obtain ⟨c16, l17, e16, h16, k17⟩ := Vx.all2_cons k16
  obtain ⟨c17, l18, e17, h17, k18⟩ := Vx.all2_cons k17
  obtain ⟨c18, l19, e18, h18, k19⟩ := Vx.all2_cons k18
  obtain ⟨c19, l20, e19, h19, k20⟩ := Vx.all2_cons k19
  obtain ⟨c20, l21, e20, h20, k21⟩ := Vx.all2_cons k20
  obtain ⟨c21, l22, e21, h21, k22⟩ := Vx.all2_cons k21
  obtain ⟨c22, l23, e22, h22, k23⟩ := Vx.all2_cons k22
  obtain ⟨c23, l24, e23, h23, k24⟩ := Vx.all2_cons k23
  obtain ⟨c24, l25, e24, h24, k25⟩ := Vx.all2_cons k24
  obtain ⟨c25, l26, e25, h25, k26⟩ := Vx.all2_cons k25
  have e26 : l26 = [] := by cases l26 with | nil => rfl | cons => exact k26.elim
  have hl : cs.toList = [c0, c1, c2, c3, c4, c5, c6, c7, c8, c9, c10, c11, c12, c13, c14, c15, c16, c17, c18, c19, c20, c21, c22, c23, c24, c25] := by rw [e0, e1, e2, e3, e4, e5, e6, e7, e8, e9, e10, e11, e12, e13, e14, e15, e16, e17, e18, e19, e20, e21, e22, e23, e24, e25, e26]
  obtain ⟨fuel, hf⟩ := h
  have hf : DataW.trod enc Tryz.prog W 0 sp hd fuel 44 cs.toList = some (d, p) := hf
  rw [hl] at hf
  obtain ⟨xs, n, rfl, ex, hlen0, hlen, hfld⟩ := DataW.trod_struct Tryz.underlying44 hf
  have f5 := hfld 5 _ rfl
  have hlen : xs.length = 8 := hlen
  rw [List.getElem?_eq_getElem (show 5 < xs.length by omega)] at f5
  have c42 : Tryz.prog.cellsOf 42 = 1 := by kernel_rfl
  have f5 : DataW.trod enc Tryz.prog W 0 sp hd n 42 [c23] = some (xs[5]'(by omega)) := by
    rw [← f5]
    show _ = DataW.trod enc Tryz.prog W 0 sp hd n 42 (List.take (Tryz.prog.cellsOf 42) [c23, c24, c25])
    rw [c42]
    rfl
  have hsl : ∃ a len cap, c23 = .slice a len cap := by
    unfold Cell.okWide at h23
    rw [Tryz.underlying42] at h23
    cases c23 <;> simp only at h23 <;> unfold Cell.ok at h23 <;> rw [Tryz.underlying42] at h23 <;> first | (cases h23; done) | exact ⟨_, _, _, rfl⟩
  have hrow : RowV W 2 kindsK c23 := open_row Tryz.underlying42 (by kernel_rfl) (by decide) rfl (by kernel_rfl) hsl h23 f5
  obtain ⟨x0, rfl, y0⟩ := cw_int Tryz.underlying5 h0
  obtain ⟨x1, rfl, y1⟩ := cw_int Tryz.underlying5 h1
  obtain ⟨x2, rfl, y2⟩ := cw_f64 Tryz.underlying22 h2
  obtain ⟨x3, rfl, y3⟩ := cw_str Tryz.underlying9 h3
  obtain ⟨x4, rfl, y4⟩ := cw_int Tryz.underlying3 h4
  obtain ⟨x5, rfl⟩ := cw_bool Tryz.underlying4 h5
  obtain ⟨x6, rfl⟩ := cw_bool Tryz.underlying4 h6
  obtain ⟨x7, rfl, y7⟩ := cw_int Tryz.underlying5 h7
  obtain ⟨x8, rfl, y8⟩ := cw_int Tryz.underlying5 h8
  obtain ⟨x9, rfl, y9⟩ := cw_f64 Tryz.underlying22 h9
  obtain ⟨x10, rfl, y10⟩ := cw_str Tryz.underlying9 h10
  obtain ⟨x11, rfl, y11⟩ := cw_int Tryz.underlying3 h11
  obtain ⟨x12, rfl, y12⟩ := cw_int Tryz.underlying5 h12
  obtain ⟨x13, rfl, y13⟩ := cw_f64 Tryz.underlying22 h13
  obtain ⟨x14, rfl, y14⟩ := cw_str Tryz.underlying9 h14
  obtain ⟨x15, rfl, y15⟩ := cw_int Tryz.underlying3 h15
  obtain ⟨x16, rfl, y16⟩ := cw_int Tryz.underlying5 h16
  obtain ⟨x17, rfl, y17⟩ := cw_f64 Tryz.underlying22 h17
  obtain ⟨x18, rfl, y18⟩ := cw_str Tryz.underlying9 h18
  obtain ⟨x19, rfl, y19⟩ := cw_int Tryz.underlying3 h19
  obtain ⟨x20, rfl⟩ := cw_bool Tryz.underlying4 h20
  obtain ⟨x21, rfl⟩ := cw_bool Tryz.underlying4 h21
  obtain ⟨x22, rfl⟩ := cw_bool Tryz.underlying4 h22
  obtain ⟨x24, rfl, y24⟩ := cw_int Tryz.underlying5 h24
  obtain ⟨x25, rfl, y25⟩ := cw_str Tryz.underlying9 h25
  refine ⟨⟨x0, ⟨x1, x2, x3, x4⟩, x5, x6, x7, ⟨x8, x9, x10, x11⟩, ⟨x12, x13, x14, x15⟩, ⟨x16, x17, x18, x19⟩, x20, x21, x22, x24, x25⟩, c23, ⟨y0, ⟨y1, y2, y3, y4⟩, y7, ⟨y8, y9, y10, y11⟩, ⟨y12, y13, y14, y15⟩, ⟨y16, y17, y18, y19⟩, y24, y25⟩, ?_, hrow⟩
  congr 1
  apply Array.ext'
  rw [hl]
  rfl
end
/-! ### The law -/
theorem row_any {W : World} {n : Nat} {kinds : List TypeDesc} {l : Value} (h : RowV W n kinds l) (E : Vx.Env) : Vx.Rv E .any l := by
  rw [Vx.Rv]
  rcases h with rfl | ⟨L, len, cap, arr, el, fr, rfl, _⟩ <;> exact ⟨rfl, rfl⟩
theorem row_keys {W : World} {l : Value} (h : RowV W 2 kindsK l) (hs : 0 < W.heap.size) : ∃ (Q : Vx.Spot) (N C : Nat) (q : Bool), N ≤ 9223372036854775807 ∧ Q.blk < W.heap.size ∧ KeysV W Q N C q l := by
  rcases h with rfl | ⟨L, len, cap, arr, el, fr, rfl, h1, h2, h3, h4, h5⟩
  · exact ⟨⟨0, 0, 0⟩, 0, 0, false, by decide, hs, rfl⟩
  · have hb := (Array.getElem?_eq_some_iff.1 h3).1
    refine ⟨L, len, cap, true, h1, hb, rfl, fun j => arr.getD (L.base + j) undef, hb, arr, el, fr, h3, h4, fun j hj => ?_, fun j _ => rfl⟩
    obtain ⟨cs, hc, hat⟩ := h5 (j / 2) (by omega)
    obtain ⟨s, r, rfl, hs', hr⟩ := key_cells' hc
    unfold Vx.kTy
    rw [if_neg (by decide)]
    have hm := Nat.mod_two_eq_zero_or_one j
    rcases hm with hm | hm
    · have := hat 0 _ rfl
      rw [show L.base + (2 * (j / 2) + 0) = L.base + j by omega] at this
      rw [hm, this]
      exact ⟨s, rfl, hs'⟩
    · have := hat 1 _ rfl
      rw [show L.base + (2 * (j / 2) + 1) = L.base + j by omega] at this
      rw [hm, this]
      exact ⟨r, rfl, hr.1, hr.2⟩
theorem walk (R : RunsOK) {nm : ByteArray} {l kv : Value} {o : OutV} {W : World} (hnm : (nm.size : Int) ≤ 9223372036854775807) (hl : RowV W 4 kindsV l) (ok : o.ok) (hk : RowV W 2 kindsK kv) (hs : 0 < W.heap.size) :
    Calls Tryz.prog 4 #[.string nm, l, .agg (o.cells kv).toArray] W fun e w' => e = .returned (.bool true) ∧ Below W.heap.size W w' := by
  obtain ⟨Q, N, C, q, hN, hQ, hK⟩ := row_keys hk hs
  by_cases h : ∃ i, i < 6 ∧ nm = nmS i
  case neg => exact other_name R hnm ok (row_any hl) (row_any hk) hs fun i hi e => h ⟨i, hi, e⟩
  obtain ⟨i, hi, rfl⟩ := h
  rcases hl with rfl | ⟨L, M, CA, arr, el, fr, rfl, h1, h2, h3, h4, h5⟩
  · exact no_args R hi ok (row_any hk) hs
  have hb := (Array.getElem?_eq_some_iff.1 h3).1
  by_cases m1 : M ≤ 1
  · exact off_args (R.few i hi) ok (row_any hk) hb h1 h2 fun E d => Vx.holds_cons ((Vx.fact_le d).trans (by rw [decide_eq_true (by omega)])) Vx.holds_nil
  by_cases m64 : M ≤ 64
  case neg => exact off_args (R.many i hi) ok (row_any hk) hb h1 h2 fun E d => Vx.holds_cons ((Vx.fact_le d).trans (by rw [decide_eq_false (by omega)])) Vx.holds_nil
  have each : ∀ k, ∃ v : V4, k < M → v.ok ∧ ∀ (i : Nat) V, v.cells[i]? = some V → arr.getD (L.base + (4 * k + i)) undef = V := fun k => by
    by_cases hk : k < M
    · obtain ⟨cs, hc, hat⟩ := h5 k hk
      obtain ⟨c, x, s, r, rfl, p1, p2, p3, p4⟩ := val_cells hc
      exact ⟨⟨c, x, s, r⟩, fun _ => ⟨⟨p1, p2, p3, p4⟩, hat⟩⟩
    · exact ⟨z4, fun h => absurd h hk⟩
  obtain ⟨a, ha⟩ := Classical.axiomOfChoice each
  have A' : ArgsW W L M a fun j => arr.getD (L.base + j) undef := ⟨hb, fun k hk => (ha k hk).1, arr, el, fr, h3, h4, fun j _ => rfl, fun k hk i V hi => (ha k hk).2 i V hi⟩
  exact law_i R hi ok hN A' hQ hK (by omega) m64 h2 fun E => nm_rv E i
end Go.Proofs.YtaecedlhiclkdaaGreatDoor.Rf

namespace Go.Proofs.YtaecedlhiclkdaaGreatDoor.Rf
open Go.ChangeShapes Go.WideShapes Go.ChangeAt Go.RowKit
set_option linter.unusedVariables false
set_option linter.constructorNameAsVariable false
set_option maxRecDepth 100000

theorem own : ownKnob Tryz.prog.godebug = none := by kernel_rfl
theorem runs : RunsOK where
  rp := fun q i k N hi hk => by
    match q, i, hi with
    | false, 0, _ => exact rlp00 k N hk
    | false, 1, _ => exact rlp01 k N hk
    | false, 2, _ => exact rlp02 k N hk
    | false, 3, _ => exact rlp03 k N hk
    | false, 4, _ => exact rlp04 k N hk
    | false, 5, _ => exact rlp05 k N hk
    | true, 0, _ => exact rlp10 k N hk
    | true, 1, _ => exact rlp11 k N hk
    | true, 2, _ => exact rlp12 k N hk
    | true, 3, _ => exact rlp13 k N hk
    | true, 4, _ => exact rlp14 k N hk
    | true, 5, _ => exact rlp15 k N hk
    | _, _ + 6, h => exact absurd h (by omega)
  rl := fun q i k hi h2 h64 => by
    match q, i, hi with
    | false, 0, _ => exact rll00 k h2 h64
    | false, 1, _ => exact rll01 k h2 h64
    | false, 2, _ => exact rll02 k h2 h64
    | false, 3, _ => exact rll03 k h2 h64
    | false, 4, _ => exact rll04 k h2 h64
    | false, 5, _ => exact rll05 k h2 h64
    | true, 0, _ => exact rll10 k h2 h64
    | true, 1, _ => exact rll11 k h2 h64
    | true, 2, _ => exact rll12 k h2 h64
    | true, 3, _ => exact rll13 k h2 h64
    | true, 4, _ => exact rll14 k h2 h64
    | true, 5, _ => exact rll15 k h2 h64
    | _, _ + 6, h => exact absurd h (by omega)
  fst := fun q i n C hi h2 h64 => by
    match q, i, hi with
    | false, 0, _ => exact fst00 n C h2 h64
    | false, 1, _ => exact fst01 n C h2 h64
    | false, 2, _ => exact fst02 n C h2 h64
    | false, 3, _ => exact fst03 n C h2 h64
    | false, 4, _ => exact fst04 n C h2 h64
    | false, 5, _ => exact fst05 n C h2 h64
    | true, 0, _ => exact fst10 n C h2 h64
    | true, 1, _ => exact fst11 n C h2 h64
    | true, 2, _ => exact fst12 n C h2 h64
    | true, 3, _ => exact fst13 n C h2 h64
    | true, 4, _ => exact fst14 n C h2 h64
    | true, 5, _ => exact fst15 n C h2 h64
    | _, _ + 6, h => exact absurd h (by omega)
  few := fun i hi => by
    match i, hi with
    | 0, _ => exact few0
    | 1, _ => exact few1
    | 2, _ => exact few2
    | 3, _ => exact few3
    | 4, _ => exact few4
    | 5, _ => exact few5
    | _ + 6, h => exact absurd h (by omega)
  many := fun i hi => by
    match i, hi with
    | 0, _ => exact many0
    | 1, _ => exact many1
    | 2, _ => exact many2
    | 3, _ => exact many3
    | 4, _ => exact many4
    | 5, _ => exact many5
    | _ + 6, h => exact absurd h (by omega)
  nil := fun i hi => by
    match i, hi with
    | 0, _ => exact nil0
    | 1, _ => exact nil1
    | 2, _ => exact nil2
    | 3, _ => exact nil3
    | 4, _ => exact nil4
    | 5, _ => exact nil5
    | _ + 6, h => exact absurd h (by omega)
  name := name0
set_option maxRecDepth 100000 in
theorem contract (H : Type) (enc : TypeId × Value → H) (W : World) (base : Nat) (args : Array Value) (ds gs : List (DataW H)) (before : List MemPlace)
    (hval0 : ∀ (j : Nat) t v, Tryz.f4.params[j]? = some t → args[j]? = some v → Value.okWide Tryz.prog W .any base t v)
    (hW : DataW.Whole enc Tryz.prog Tryz.f4.params.toList Rows.reflectAnswersSpec.vars false W args.toList ds gs before) (hsh : W.ShapedOpen Tryz.prog) :
    Calls Tryz.prog 4 args W fun e W' => ∃ v, e = .returned v ∧ Rows.reflectAnswersSpec.post enc Tryz.prog Tryz.f4 false true false false W args v W' := by
  have hval : ∀ (j : Nat) t v, Tryz.f4.params[j]? = some t → args[j]? = some v → Value.okWide Tryz.prog W .any base t v := hval0
  have hW' := hW
  obtain ⟨p, q, hA0, hV, rfl, hfz, hnd⟩ := hW
  have hA : DataW.TrodAll enc Tryz.prog W 0 (fun _ => true) true Tryz.f4.params.toList args.toList ds p := hA0
  rw [Tryz.params4] at hA hval
  obtain ⟨v0, r0, d0, s0, p0, q0, e0, rfl, rfl, h0, hA⟩ := trodAll_cons hA
  obtain ⟨v1, r1, d1, s1, p1, q1, rfl, rfl, rfl, h1, hA⟩ := trodAll_cons hA
  obtain ⟨v2, r2, d2, s2, p2, q2, rfl, rfl, rfl, h2, hA⟩ := trodAll_cons hA
  obtain ⟨rfl, rfl, rfl⟩ := trodAll_nil hA
  obtain rfl : args = #[v0, v1, v2] := by apply Array.ext'; exact e0
  obtain ⟨S, rfl, rfl, rfl, hS⟩ := _root_.Go.ChangeMaps.open_string Tryz.underlying9 (hval 0 9 _ rfl rfl) h0
  have hl := open_args (hval 1 25 _ rfl rfl) h1
  obtain ⟨o, kv, ok, ho, hk⟩ := open_out (hval 2 44 _ rfl rfl) h2
  obtain ⟨rfl, rfl⟩ := trodVars_none hV
  simp only [List.append_nil, List.nil_append] at hW'
  have hlt : ∀ y ∈ p1 ++ p2, y.block < W.heap.size := fun y hy => hW'.lt y hy
  have hw := walk runs (nm := S) (l := v1) (o := o) (kv := kv) (W := W) (by have : S.size ≤ 9223372036854775807 := hS; omega) hl ok hk (world_pos hsh)
  rw [← ho] at hw
  refine hw.mono fun e W' ⟨he, hg⟩ => ?_
  subst he
  have hlaid : laidOutB Tryz.prog = true := by kernel_rfl
  have hr9 : Tryz.prog.readableRec 9 = true := by kernel_rfl
  have hr25 : Tryz.prog.readableRec 25 = true := by kernel_rfl
  have hr44 : Tryz.prog.readableRec 44 = true := by kernel_rfl
  have hrow9 : 9 < Tryz.prog.types.size := of_decide_eq_true (by kernel_rfl)
  have hrow25 : 25 < Tryz.prog.types.size := of_decide_eq_true (by kernel_rfl)
  have hrow44 : 44 < Tryz.prog.types.size := of_decide_eq_true (by kernel_rfl)
  exact ⟨_, rfl, Vx.post_below (pa := p1 ++ p2) (pv := []) hW' (fun _ _ _ => (trodAll_cons_mk (shut_bool Tryz.underlying4 _) trodAll_mk0))
    (fun sp hsp => by
      have a2 := trodAll_cons_mk (WideElems.Trod_stays (sp' := sp) hlaid hr44 hrow44 h2 (fun y hy => hg.same (hlt y (List.mem_append_right _ hy))) (fun y hy => hsp y (List.mem_append_right _ hy))) trodAll_mk0
      rw [List.append_nil] at a2
      have a1 := trodAll_cons_mk (WideElems.Trod_stays (sp' := sp) hlaid hr25 hrow25 h1 (fun y hy => hg.same (hlt y (List.mem_append_left _ hy))) (fun y hy => hsp y (List.mem_append_left _ hy))) a2
      have a0 := trodAll_cons_mk (WideElems.Trod_stays (sp' := sp) (W' := W') hlaid hr9 hrow9 h0 (fun _ hx => by cases hx) (fun _ hx => by cases hx)) a1
      rw [List.nil_append] at a0
      exact a0)
    (fun _ _ => rfl) (List.append_nil _).symm hg (ok_one (by kernel_rfl) rfl (okWide_bool_mk Tryz.underlying4 _))⟩

def cells0 : DataW Unit → List Value
  | .lit (.int k n) => [.int k n]
  | _ => []
def cells1 : DataW Unit → List Value
  | .agg ps => ps.flatMap cells0
  | d => cells0 d
def cells2 : DataW Unit → List Value
  | .agg ps => ps.flatMap cells1
  | d => cells0 d
def argsZ : Array Value := #[.string ByteArray.empty, .slice none 0 0, .agg #[.int .u8 0, .int .u8 0, .float .f64 0, .string ByteArray.empty, .int .i64 0, .bool false, .bool false, .int .u8 0, .int .u8 0, .float .f64 0, .string ByteArray.empty, .int .i64 0, .int .u8 0, .float .f64 0, .string ByteArray.empty, .int .i64 0, .int .u8 0, .float .f64 0, .string ByteArray.empty, .int .i64 0, .bool false, .bool false, .bool false, .slice none 0 0, .int .u8 0, .string ByteArray.empty]]
noncomputable def laidWorld (os : Os) : World :=
  { World.holding Tryz.prog os ⟨#[], argsZ, []⟩ with heap := ((((World.holding Tryz.prog os ⟨#[], argsZ, []⟩).heap.modify 3 fun | .cells _ t fr => .cells (cells2 (Rows.laid_math_bits_deBruijn32tab (H := Unit))).toArray t fr | o => o).modify 4 fun | .cells _ t fr => .cells (cells2 (Rows.laid_math_bits_deBruijn64tab (H := Unit))).toArray t fr | o => o).modify 2 fun | .cells _ t fr => .cells (cells2 (Rows.laid_internal_strconv_uint64pow10 (H := Unit))).toArray t fr | o => o) }
theorem laid_met (os : Os) : laidMet Tryz.prog Rows.reflectAnswersRow.laid ((laidWorld os).forCall (fun _ _ => 0) ⟨#[], argsZ, []⟩).memory :=
  laidMet_of_run' 8 (by kernel_rfl) (by kernel_rfl)
theorem reads (os : Os) {H : Type} (enc : TypeId × Value → H) : ∃ ds places, DataW.whole enc Tryz.prog ((laidWorld os).forCall (fun _ _ => 0) ⟨#[], argsZ, []⟩).memory Tryz.f4.params.toList Rows.reflectAnswersSpec.vars false argsZ.toList 8 = some (ds, [], places) :=
  ⟨[.lit (.string []), .nil, .agg [.lit (.int .u8 0), .agg [.lit (.int .u8 0), .lit (.float .f64 0), .lit (.string []), .lit (.int .i64 0)], .lit (.bool false), .lit (.bool false), .agg [.lit (.int .u8 0), .agg [.lit (.int .u8 0), .lit (.float .f64 0), .lit (.string []), .lit (.int .i64 0)], .agg [.lit (.int .u8 0), .lit (.float .f64 0), .lit (.string []), .lit (.int .i64 0)], .agg [.lit (.int .u8 0), .lit (.float .f64 0), .lit (.string []), .lit (.int .i64 0)], .lit (.bool false), .lit (.bool false), .lit (.bool false)], .nil, .lit (.int .u8 0), .lit (.string [])]], [], by kernel_rfl⟩

set_option maxRecDepth 100000 in
theorem lifted (os : Os) (started : os.Started) (H : Type) (enc : TypeId × Value → H) (F : Stop.Interp) :
    ReturnsInHanded {} Tryz.checked os 4 .any ((OpenSpec.ofChange Rows.reflectAnswersSpec).preRow enc Tryz.prog Tryz.f4 Rows.reflectAnswersRow.domain false Rows.reflectAnswersRow.laid) (((OpenSpec.ofChange Rows.reflectAnswersSpec).at F).post enc Tryz.prog Tryz.f4 false true false false) := by
  obtain ⟨ds, places, hx⟩ := reads os enc
  refine returnsInHanded_of_row (C := Tryz.checked) (s := OpenSpec.ofChange Rows.reflectAnswersSpec) own started (by kernel_rfl) Tryz.func4
    (witness_row_at (enc := enc) (C := Tryz.checked) false (laidWorld os) argsZ rfl (by kernel_rfl) (by kernel_rfl) (by kernel_rfl)
      (OpenSpec.preRow_of_cond 8 hx (by kernel_rfl) (fun k hk => by cases hk) (by kernel_rfl) (laid_met os))) ?_
  intro W base args ds gs before hval hW _ _ _ hL hsh _
  exact contract H enc W base args ds gs before hval hW hsh

theorem said : Rows.ReflectAnswersSaid :=
  OpenClaim.holds_of_cond 4 Tryz.f4 rfl rfl rfl rfl rfl rfl rfl ⟨rfl, rfl, rfl, rfl, rfl⟩ rfl rfl rfl rfl rfl (by kernel_rfl) Tryz.func4 (by kernel_rfl)
    (of_decide_eq_true (by kernel_rfl)) (by unfold Func.isWrapper; first | (rw [if_pos (by decide +kernel)]; kernel_rfl) | (rw [if_neg (by decide +kernel)]; exact ⟨rfl, rfl⟩))
    (fun os started H enc _ F => by rw [OpenClaim.pre_eq_preRow]; exact lifted os started H enc F)

theorem plain (f : FuncId) (fn : Func) (hf : Tryz.pinned.checked.prog.funcNamed "bailiff/bailifflaw22.ReflectAnswers" = some f) (hfn : Tryz.pinned.checked.prog.funcs[f]? = some fn) :
    false = Tryz.pinned.checked.prog.looks [] ∧ ∀ (j : Nat) t, fn.params[j]? = some t → Tryz.pinned.checked.prog.wantsStandIn t = false := by
  obtain rfl : f = 4 := Option.some.inj ((show Tryz.prog.funcNamed "bailiff/bailifflaw22.ReflectAnswers" = some 4 by kernel_rfl).symm.trans hf) |>.symm
  obtain rfl : fn = Tryz.f4 := (Option.some.inj (Tryz.func4.symm.trans hfn)).symm
  have st9 : Tryz.prog.wantsStandIn 9 = false := by kernel_rfl
  have st25 : Tryz.prog.wantsStandIn 25 = false := by kernel_rfl
  have st44 : Tryz.prog.wantsStandIn 44 = false := by kernel_rfl
  refine ⟨by kernel_rfl, fun j t ht => ?_⟩
  rw [Tryz.params4] at ht
  match j, ht with
  | 0, ht => cases ht; exact st9
  | 1, ht => cases ht; exact st25
  | 2, ht => cases ht; exact st44
  | j + 3, ht => simp at ht
end Go.Proofs.YtaecedlhiclkdaaGreatDoor.Rf
namespace Go.Proofs.YtaecedlhiclkdaaGreatDoor.reflectAnswers
theorem proved : Rows.ReflectAnswersCardSaid :=
  Claim7.holds_tied_plain_at .later [] _ _ _ _ Rf.said (fun _ h => by cases h) (by kernel_rfl) (fun _ h => by cases h) reflectAnswers_row_tie rfl ⟨rfl, rfl⟩ (by kernel_rfl) rfl Rf.plain (by kernel_rfl)
end Go.Proofs.YtaecedlhiclkdaaGreatDoor.reflectAnswers
