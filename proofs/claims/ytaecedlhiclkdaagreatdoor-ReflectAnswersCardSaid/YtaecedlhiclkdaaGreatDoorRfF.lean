/- ReflectAnswers: inner.Fits as a contract: whatever keys an answer has. No condition. -/
import Derived.Test.YtaecedlhiclkdaaGreatDoorRfR0
import Derived.Test.YtaecedlhiclkdaaGreatDoorRfR1
import Derived.Test.YtaecedlhiclkdaaGreatDoorRfR2
import Derived.Test.YtaecedlhiclkdaaGreatDoorRfR3
namespace Go.Proofs.YtaecedlhiclkdaaGreatDoor.Rf
open Go Vx Con
set_option linter.unusedVariables false
set_option linter.constructorNameAsVariable false
set_option maxRecDepth 100000

theorem rfP_all (k : Nat) (hk : k < 1024) : rfP k = true := by
  have key : ∀ j, ((List.range' (64 * j) 64).all fun k => rfP k) = true → 64 * j ≤ k → k < 64 * j + 64 → rfP k = true := fun j h h1 h2 => List.all_eq_true.1 h k (List.mem_range'_1.2 ⟨h1, h2⟩)
  rcases Nat.lt_or_ge k 64 with h | h
  · exact key 0 p0 (by omega) (by omega)
  rcases Nat.lt_or_ge k 128 with h | h
  · exact key 1 p1 (by omega) (by omega)
  rcases Nat.lt_or_ge k 192 with h | h
  · exact key 2 p2 (by omega) (by omega)
  rcases Nat.lt_or_ge k 256 with h | h
  · exact key 3 p3 (by omega) (by omega)
  rcases Nat.lt_or_ge k 320 with h | h
  · exact key 4 p4 (by omega) (by omega)
  rcases Nat.lt_or_ge k 384 with h | h
  · exact key 5 p5 (by omega) (by omega)
  rcases Nat.lt_or_ge k 448 with h | h
  · exact key 6 p6 (by omega) (by omega)
  rcases Nat.lt_or_ge k 512 with h | h
  · exact key 7 p7 (by omega) (by omega)
  rcases Nat.lt_or_ge k 576 with h | h
  · exact key 8 p8 (by omega) (by omega)
  rcases Nat.lt_or_ge k 640 with h | h
  · exact key 9 p9 (by omega) (by omega)
  rcases Nat.lt_or_ge k 704 with h | h
  · exact key 10 p10 (by omega) (by omega)
  rcases Nat.lt_or_ge k 768 with h | h
  · exact key 11 p11 (by omega) (by omega)
  rcases Nat.lt_or_ge k 832 with h | h
  · exact key 12 p12 (by omega) (by omega)
  rcases Nat.lt_or_ge k 896 with h | h
  · exact key 13 p13 (by omega) (by omega)
  rcases Nat.lt_or_ge k 960 with h | h
  · exact key 14 p14 (by omega) (by omega)
  rcases Nat.lt_or_ge k 1024 with h | h
  · exact key 15 p15 (by omega) (by omega)
  omega
theorem rfL_all (k : Nat) (hk : k ≤ 1024) : rfL k = true := by
  have key : ∀ j, ((List.range' (64 * j) 64).all fun k => rfL k) = true → 64 * j ≤ k → k < 64 * j + 64 → rfL k = true := fun j h h1 h2 => List.all_eq_true.1 h k (List.mem_range'_1.2 ⟨h1, h2⟩)
  rcases Nat.lt_or_ge k 64 with h | h
  · exact key 0 l0 (by omega) (by omega)
  rcases Nat.lt_or_ge k 128 with h | h
  · exact key 1 l1 (by omega) (by omega)
  rcases Nat.lt_or_ge k 192 with h | h
  · exact key 2 l2 (by omega) (by omega)
  rcases Nat.lt_or_ge k 256 with h | h
  · exact key 3 l3 (by omega) (by omega)
  rcases Nat.lt_or_ge k 320 with h | h
  · exact key 4 l4 (by omega) (by omega)
  rcases Nat.lt_or_ge k 384 with h | h
  · exact key 5 l5 (by omega) (by omega)
  rcases Nat.lt_or_ge k 448 with h | h
  · exact key 6 l6 (by omega) (by omega)
  rcases Nat.lt_or_ge k 512 with h | h
  · exact key 7 l7 (by omega) (by omega)
  rcases Nat.lt_or_ge k 576 with h | h
  · exact key 8 l8 (by omega) (by omega)
  rcases Nat.lt_or_ge k 640 with h | h
  · exact key 9 l9 (by omega) (by omega)
  rcases Nat.lt_or_ge k 704 with h | h
  · exact key 10 l10 (by omega) (by omega)
  rcases Nat.lt_or_ge k 768 with h | h
  · exact key 11 l11 (by omega) (by omega)
  rcases Nat.lt_or_ge k 832 with h | h
  · exact key 12 l12 (by omega) (by omega)
  rcases Nat.lt_or_ge k 896 with h | h
  · exact key 13 l13 (by omega) (by omega)
  rcases Nat.lt_or_ge k 960 with h | h
  · exact key 14 l14 (by omega) (by omega)
  rcases Nat.lt_or_ge k 1024 with h | h
  · exact key 15 l15 (by omega) (by omega)
  obtain rfl : k = 1024 := by omega
  exact l16
/-! ### What is given -/
structure V4 where
  k : Int
  x : Nat
  s : ByteArray
  r : Int
def V4.cells (v : V4) : List Value := [.int .u8 v.k, .float .f64 v.x, .string v.s, .int .i64 v.r]
def V4.ok (v : V4) : Prop := (0 ≤ v.k ∧ v.k ≤ 255) ∧ v.x < 18446744073709551616 ∧ (v.s.size : Int) ≤ 9223372036854775807 ∧ (-9223372036854775808 ≤ v.r ∧ v.r ≤ 9223372036854775807)
def V4.may (v : V4) : Bool := mayV v.k v.x v.s v.r
def z4 : V4 := ⟨0, 0, ByteArray.empty, 0⟩
theorem z4_may : z4.may = true := by kernel_rfl
theorem z4_ok : z4.ok := ⟨⟨by decide, by decide⟩, by decide, by decide, by decide, by decide⟩
/-- a value's cells from symbol n on -/
def Dens (E : Env) (n : Nat) (v : V4) : Prop := den E (.sy n) = some (.int .u8 v.k) ∧ den E (.sy (n + 1)) = some (.float .f64 v.x) ∧ den E (.sy (n + 2)) = some (.string v.s) ∧ den E (.sy (n + 3)) = some (.int .i64 v.r)
theorem rv_vS {E : Env} {n : Nat} {v : V4} (ok : v.ok) (d : Dens E n v) : RvL E (vS n) v.cells :=
  rvl_cons (by rw [Rv]; exact ⟨d.1, _, rfl, ok.1⟩) (rvl_cons (by rw [Rv]; exact ⟨d.2.1, _, rfl, ok.2.1⟩) (rvl_cons (by rw [Rv]; exact ⟨d.2.2.1, _, rfl, ok.2.2.1⟩) (rvl_cons (by rw [Rv]; exact ⟨d.2.2.2, _, rfl, ok.2.2.2⟩) rvl_nil)))
theorem den_mA {E : Env} {n : Nat} {v : V4} (d : Dens E n v) : den E (mA n) = some (.bool v.may) := den_may d.1 d.2.1 d.2.2.1 d.2.2.2
theorem may_le {v : V4} (hm : v.may = true) : v.k ≤ 8 := by
  rcases Int.lt_or_le 8 v.k with h | h
  · unfold V4.may at hm; rw [mayV_great h] at hm; cases hm
  · exact h
theorem told_holds {E E' : Env} (hle : E.le E') {fs : Facts} (td : Vx.Told E fs) (hf : Holds E' fs) : Holds E fs := fun p hp => by
  obtain ⟨b, hb⟩ := td p hp
  have := den_mono hle _ _ hb
  rw [hf p hp] at this
  cases this; exact hb

theorem gw_nil {E : Env} : GWkOK E [] := fun _ h => by cases h
theorem gw_cons {E : Env} {p : Facts × AV × AV} {l : GWk} (h1 : Vx.Told E p.1) (h2 : Holds E p.1 → ∀ V, Rv E p.2.1 V → Rv E p.2.2 V) (h : GWkOK E l) : GWkOK E (p :: l) := fun q hq => by
  rcases List.mem_cons.1 hq with rfl | hq
  · exact ⟨h1, h2⟩
  · exact h q hq
theorem wrLs_rv {E : Env} {g : Nat → Value} : ∀ (l : List AV) (c : T AV) (off : Nat), (∀ i a, l[i]? = some a → Rv E a (g (off + i))) → (∀ j, Rv E (T.get .no c j) (g j)) → ∀ j, Rv E (T.get .no (wrLs l c off) j) (g j)
  | [], c, off, _, hc, j => hc j
  | v :: l, c, off, h, hc, j => by
    show Rv E (T.get .no (wrLs l (T.set v c off) (off + 1)) j) (g j)
    refine wrLs_rv l _ _ (fun i a hi => ?_) (fun i => ?_) j
    · rw [show off + 1 + i = off + (i + 1) from by omega]
      exact h (i + 1) a hi
    · by_cases e : i = off
      · subst e
        rcases T.get_set_eq AV.no v c i with q | q <;> rw [q]
        · exact h 0 v rfl
        · simp [Rv]
      · rw [T.get_set_ne _ _ _ _ _ e]; exact hc i
theorem rvl_at {E : Env} : ∀ {l : List AV} {vs : List Value}, RvL E l vs → ∀ (i : Nat) (a : AV), l[i]? = some a → ∃ V, vs[i]? = some V ∧ Rv E a V
  | [], _, _, i, a, h => by cases h
  | v :: l, vs, r, i, a, h => by
    rw [RvL] at r
    obtain ⟨V, vs', rfl, r1, r2⟩ := r
    cases i with
    | zero => cases h; exact ⟨V, rfl, r1⟩
    | succ i => exact rvl_at r2 i a h
theorem facts_ok {E : Env} {h : Heap} {n : Nat} {w : World} {fs : Facts} (e : T.get .gone h fplace = .gone) (e2 : Nat.ble (flr h) fplace = true) (hr : HR E h n w) (hf : Holds E fs) : HR E (T.set (.facts fs) h fplace) n w ∧ Fk h (T.set (.facts fs) h fplace) := by
  have he : setF fs h (fun h' => @decide (h' = T.set (.facts fs) h fplace) (Classical.propDecidable _)) = true := by
    unfold setF
    rw [e]
    show bc (Nat.ble (flr h) fplace) (T.setK (.facts fs) h fplace _) false = true
    rw [e2, T.setK_eq]
    exact @decide_eq_true _ (Classical.propDecidable _) rfl
  obtain ⟨h1, k1, hr1, fk⟩ := setF_ok he hr hf
  obtain rfl := @of_decide_eq_true _ (Classical.propDecidable _) k1
  exact ⟨hr1, fk⟩
theorem start_fp {E : Env} {h : Heap} (hfl : flr h = 7) (hl : ∀ i, 7 ≤ i → (T.get .gone h i).live = false) (b : Nat) : ¬ fp E h b := by
  rintro ⟨i, L, a1, a2, _, _⟩
  rw [hfl] at a1
  rw [hl i a1] at a2; cases a2
/-- an answer but for its keys -/
structure OutV where
  k : Int
  v : V4
  b1 : Bool
  b2 : Bool
  has : Int
  d1 : V4
  d2 : V4
  d3 : V4
  b3 : Bool
  b4 : Bool
  b5 : Bool
  er : Int
  tx : ByteArray
def OutV.cells (o : OutV) (keys : Value) : List Value := .int .u8 o.k :: o.v.cells ++ [.bool o.b1, .bool o.b2, .int .u8 o.has] ++ o.d1.cells ++ o.d2.cells ++ o.d3.cells ++ [.bool o.b3, .bool o.b4, .bool o.b5, keys, .int .u8 o.er, .string o.tx]
structure OutV.ok (o : OutV) : Prop where
  k : 0 ≤ o.k ∧ o.k ≤ 255
  v : o.v.ok
  has : 0 ≤ o.has ∧ o.has ≤ 255
  d1 : o.d1.ok
  d2 : o.d2.ok
  d3 : o.d3.ok
  er : 0 ≤ o.er ∧ o.er ≤ 255
  tx : (o.tx.size : Int) ≤ 9223372036854775807
def bI (b : Bool) : Value := .int .u8 (if b then 1 else 0)
def frontV (k1 k2 : Int) (o : OutV) (N C : Nat) : List Value := [.int .u8 k1, .int .u8 k2, .int .u8 o.k, .int .u8 o.v.k, .float .f64 o.v.x, .string o.v.s, .int .i64 o.v.r, bI o.b1, bI o.b2, .int .u8 o.has,
  .int .u8 o.d1.k, .float .f64 o.d1.x, .string o.d1.s, .int .i64 o.d1.r, .int .u8 o.d2.k, .float .f64 o.d2.x, .string o.d2.s, .int .i64 o.d2.r, .int .u8 o.d3.k, .float .f64 o.d3.x, .string o.d3.s, .int .i64 o.d3.r,
  bI o.b3, bI o.b4, bI o.b5, .int .i64 N, .int .i64 C, .int .u8 o.er, .string o.tx]
def keysV (N : Nat) (g : Nat → Value) : List Value := (List.range 2048).map fun i => if i < 2 * N then g i else .int .i64 0
def vsF (k1 k2 : Int) (o : OutV) (N C : Nat) (g : Nat → Value) : List Value := frontV k1 k2 o N C ++ keysV N g
theorem vsF_len (k1 k2 : Int) (o : OutV) (N C : Nat) (g : Nat → Value) : (vsF k1 k2 o N C g).length = 2077 := by
  unfold vsF keysV
  rw [List.length_append, List.length_map, List.length_range]; rfl
noncomputable def EF1 (k1 k2 : Int) (o : OutV) (N C : Nat) (g : Nat → Value) : Env := symEV [] 7 (vsF k1 k2 o N C g)
noncomputable def EF (k1 k2 : Int) (o : OutV) (N C : Nat) (g : Nat → Value) (L : Spot) : Env := addAt (EF1 k1 k2 o N C g) 6 L
section
variable {k1 k2 : Int} {o : OutV} {N C : Nat} {g : Nat → Value}
theorem EF1_six : EF1 k1 k2 o N C g 6 = none := rfl
theorem den_f1 (i : Nat) {V : Value} (hi : (frontV k1 k2 o N C)[i]? = some V) (ok : symOK V) : den (EF1 k1 k2 o N C g) (.sy (7 + i)) = some V := by
  refine den_sym (gl := []) (n0 := 7) (Vs := vsF k1 k2 o N C g) i ?_ ok
  unfold vsF
  rw [List.getElem?_append_left (List.getElem?_eq_some_iff.1 hi).1]; exact hi
theorem den_k1 (i : Nat) (hi : i < 2 * N) (h2 : i < 2048) (ok : symOK (g i)) : den (EF1 k1 k2 o N C g) (.sy (36 + i)) = some (g i) := by
  have hl : (frontV k1 k2 o N C).length = 29 := rfl
  have := den_sym (gl := []) (n0 := 7) (Vs := vsF k1 k2 o N C g) (29 + i) (V := g i) (by
    unfold vsF keysV
    rw [List.getElem?_append_right (by rw [hl]; omega), hl, Nat.add_sub_cancel_left, List.getElem?_map, List.getElem?_range h2]
    show some (if i < 2 * N then g i else .int .i64 0) = some (g i)
    rw [if_pos hi]) ok
  rw [show 7 + (29 + i) = 36 + i from by omega] at this
  exact this
theorem dens_f1 {i : Nat} {v : V4} (a : (frontV k1 k2 o N C)[i]? = some (.int .u8 v.k) ∧ (frontV k1 k2 o N C)[i + 1]? = some (.float .f64 v.x) ∧ (frontV k1 k2 o N C)[i + 2]? = some (.string v.s) ∧ (frontV k1 k2 o N C)[i + 3]? = some (.int .i64 v.r)) : Dens (EF1 k1 k2 o N C g) (7 + i) v :=
  ⟨den_f1 i a.1 (sok_i _ _), den_f1 (i + 1) a.2.1 (sok_f _), den_f1 (i + 2) a.2.2.1 (sok_s _), den_f1 (i + 3) a.2.2.2 (sok_i _ _)⟩
theorem Dens.mono {E E' : Env} (h : E.le E') {n : Nat} {v : V4} (d : Dens E n v) : Dens E' n v := ⟨den_mono h _ _ d.1, den_mono h _ _ d.2.1, den_mono h _ _ d.2.2.1, den_mono h _ _ d.2.2.2⟩
theorem rv_b {E : Env} {n : Nat} {b : Bool} (d : den E (.sy n) = some (bI b)) : Rv E (bS n) (.bool b) := by
  have : den E (.cmp .eql (.sy n) (.li .u8 1)) = some (.bool b) := (fact_eq (k := .u8) (c := 1) d).trans (by cases b <;> rfl)
  unfold bS
  rw [Rv]; exact ⟨this, b, rfl⟩
theorem rvl_app {E : Env} : ∀ {a : List AV} {vs : List Value} {b : List AV} {us : List Value}, RvL E a vs → RvL E b us → RvL E (a ++ b) (vs ++ us)
  | [], vs, b, us, h, k => by rw [RvL] at h; subst h; exact k
  | v :: a, vs, b, us, h, k => by
    rw [RvL] at h
    obtain ⟨V, vs', rfl, h1, h2⟩ := h
    exact rvl_cons h1 (rvl_app h2 k)
/-- the cells are told by their symbols, wherever these stand for them -/
theorem rv_out {E : Env} (hE : (EF1 k1 k2 o N C g).le E) (ok : o.ok) {ka : AV} {kv : Value} (hk : Rv E ka kv) : RvL E (outS ka) (o.cells kv) := by
  have d := fun i {V} h k => den_mono hE _ _ (den_f1 (k1 := k1) (k2 := k2) (o := o) (N := N) (C := C) (g := g) i (V := V) h k)
  have dv := fun {i v} a => Dens.mono hE (dens_f1 (k1 := k1) (k2 := k2) (o := o) (N := N) (C := C) (g := g) (i := i) (v := v) a)
  have r4 : RvL E (vS 10) o.v.cells := rv_vS ok.v (dv (i := 3) ⟨rfl, rfl, rfl, rfl⟩)
  have r17 : RvL E (vS 17) o.d1.cells := rv_vS ok.d1 (dv (i := 10) ⟨rfl, rfl, rfl, rfl⟩)
  have r21 : RvL E (vS 21) o.d2.cells := rv_vS ok.d2 (dv (i := 14) ⟨rfl, rfl, rfl, rfl⟩)
  have r25 : RvL E (vS 25) o.d3.cells := rv_vS ok.d3 (dv (i := 18) ⟨rfl, rfl, rfl, rfl⟩)
  have i8 : ∀ {n : Nat} {z : Int}, den E (.sy n) = some (.int .u8 z) → 0 ≤ z ∧ z ≤ 255 → Rv E (.x (.i .u8) (.sy n)) (.int .u8 z) := fun h hz => by rw [Rv]; exact ⟨h, _, rfl, hz⟩
  have bb : ∀ b : Bool, symOK (bI b) := fun b => sok_i _ _
  unfold outS OutV.cells
  refine rvl_app (rvl_app (rvl_app (rvl_app (rvl_app (rvl_app (a := [.x (.i .u8) (.sy 9)]) (vs := [.int .u8 o.k]) (rvl_cons (i8 (d 2 rfl (sok_i _ _)) ok.k) rvl_nil) r4) ?_) r17) r21) r25) ?_
  · exact rvl_cons (rv_b (d 7 rfl (bb _))) (rvl_cons (rv_b (d 8 rfl (bb _))) (rvl_cons (i8 (d 9 rfl (sok_i _ _)) ok.has) rvl_nil))
  · exact rvl_cons (rv_b (d 22 rfl (bb _))) (rvl_cons (rv_b (d 23 rfl (bb _))) (rvl_cons (rv_b (d 24 rfl (bb _))) (rvl_cons hk (rvl_cons (i8 (d 27 rfl (sok_i _ _)) ok.er) (rvl_cons (by rw [Rv]; exact ⟨d 28 rfl (sok_s _), _, rfl, ok.tx⟩) rvl_nil)))))
end
/-! ### The start -/
theorem startN_live (i : Nat) (hi : 1 ≤ i) : (T.get .gone (startH [] 7) i).live = false := by
  cases i with
  | zero => omega
  | succ i =>
    rcases startH_get [] 7 i with h | ⟨p, hp, _, _⟩
    · rw [h]; rfl
    · cases hp
theorem startN_flr : flr (startH [] 7) = 7 := by unfold flr; rw [startH_zero]
/-- keys that are given -/
structure KeysW (w : World) (L : Spot) (N : Nat) (g : Nat → Value) : Prop where
  blk : L.blk < w.heap.size
  row : ∃ arr el fr, w.heap[L.blk]? = some (.cells arr el fr) ∧ L.base + 2 * N ≤ arr.size ∧ (∀ j, j < 2 * N → kTy 1 j (arr.getD (L.base + j) undef)) ∧ ∀ j, j < 2 * N → g j = arr.getD (L.base + j) undef
section
variable {k1 k2 : Int} {o : OutV} {N C : Nat} {g : Nat → Value} {L : Spot} {w : World} (h1 : 0 ≤ k1 ∧ k1 ≤ 255) (h2 : 0 ≤ k2 ∧ k2 ≤ 255) (ok : o.ok) (hN : N ≤ 9223372036854775807) (K : KeysW w L N g)
theorem le_EF : (EF1 k1 k2 o N C g).le (EF k1 k2 o N C g L) := le_addAt EF1_six
include K
theorem baseF0 : HR (EF k1 k2 o N C g L) (startH [] 7) 2084 w := by
  have hs : 0 < w.heap.size := by have := K.blk; omega
  have hr := symG_ok (m := 2077) (Ls := (vsF k1 k2 o N C g).map spotOf) (gl := []) (n0 := 7) (w := w) rfl rfl rfl (fun p hp => by cases hp) (by rw [List.length_map, vsF_len]) (fun M hM => by obtain ⟨V, _, rfl⟩ := List.mem_map.1 hM; exact spot_blk V) hs
  exact HR.addAt hr (by decide) EF1_six (startN_live 6 (by decide)) K.blk
theorem baseF {fs : Facts} (hf : Holds (EF k1 k2 o N C g L) fs) : HR (EF k1 k2 o N C g L) (hF0 fs) 2084 w ∧ (∀ b, ¬ fp (EF k1 k2 o N C g L) (hF0 fs) b) ∧ flr (hF0 fs) = 7 := by
  obtain ⟨q1, fk⟩ := facts_ok (by kernel_rfl) (by kernel_rfl) (baseF0 K) hf
  have hfl : flr (hF0 fs) = 7 := fk.flr.trans startN_flr
  exact ⟨q1, start_fp hfl fun i hi => by rw [show (T.get .gone (hF0 fs) i).live = _ from fk.live i]; exact startN_live i (by omega), hfl⟩
theorem key_cells {k : Nat} (hk : k < N) (hk2 : k < 1024) : (∃ s : ByteArray, g (2 * k) = .string s ∧ (s.size : Int) ≤ 9223372036854775807 ∧ den (EF k1 k2 o N C g L) (.sy (36 + 2 * k)) = some (.string s)) ∧ ∃ n, g (2 * k + 1) = .int .i64 n ∧ (-9223372036854775808 ≤ n ∧ n ≤ 9223372036854775807) ∧ den (EF k1 k2 o N C g L) (.sy (37 + 2 * k)) = some (.int .i64 n) := by
  obtain ⟨arr, el, fr, _, _, hty, hg⟩ := K.row
  have t0 := hty (2 * k) (by omega)
  have t1 := hty (2 * k + 1) (by omega)
  rw [← hg _ (by omega)] at t0 t1
  unfold kTy at t0 t1
  rw [if_neg (by decide)] at t0 t1
  rw [show 2 * k % 2 = 0 from by omega] at t0
  rw [show (2 * k + 1) % 2 = 1 from by omega] at t1
  obtain ⟨s, e0, hs⟩ := t0
  obtain ⟨n, e1, hn⟩ := t1
  refine ⟨⟨s, e0, hs, ?_⟩, n, e1, hn, ?_⟩
  · have := den_k1 (k1 := k1) (k2 := k2) (o := o) (N := N) (C := C) (g := g) (2 * k) (by omega) (by omega) (by rw [e0]; exact sok_s _)
    rw [e0] at this
    exact den_mono le_EF _ _ this
  · have := den_k1 (k1 := k1) (k2 := k2) (o := o) (N := N) (C := C) (g := g) (2 * k + 1) (by omega) (by omega) (by rw [e1]; exact sok_i _ _)
    rw [e1, show 36 + (2 * k + 1) = 37 + 2 * k from by omega] at this
    exact den_mono le_EF _ _ this
theorem baseEl {k : Nat} (hk : k < N) (hk2 : k < 1024) {fs : Facts} (hf : Holds (EF k1 k2 o N C g L) fs) : HR (EF k1 k2 o N C g L) (hF1 k fs) 2084 w ∧ (∀ b, ¬ fp (EF k1 k2 o N C g L) (hF1 k fs) b) ∧ flr (hF1 k fs) = 7 := by
  obtain ⟨⟨s, e0, hs, d0⟩, n, e1, hn, d1⟩ := key_cells (k1 := k1) (k2 := k2) (o := o) (C := C) K hk hk2
  obtain ⟨arr, el, fr, hb, hsz, _, hg⟩ := K.row
  have six : EF k1 k2 o N C g L 6 = some L := by unfold EF addAt; rw [if_pos rfl]
  have row : RvL (EF k1 k2 o N C g L) [.x .s (.sy (Nat.add 36 (Nat.mul 2 k))), .x (.i .i64) (.sy (Nat.add 37 (Nat.mul 2 k)))] [g (2 * k), g (2 * k + 1)] :=
    rvl_cons (by rw [e0, Rv]; exact ⟨d0, s, rfl, hs⟩) (rvl_cons (by rw [e1, Rv]; exact ⟨d1, n, rfl, hn⟩) rvl_nil)
  obtain ⟨g1, g2⟩ := HR.setGlob (baseF0 K) (i := 6) (g := 1000000) (m := Nat.mul 2 (Nat.succ k)) (c := elF k) (L := L) (by decide) (by decide) (by rw [startN_flr]; decide) six hb (by show L.base + 2 * (k + 1) ≤ _; omega)
    (fun j hj => wrLs_rv (g := fun j => arr.getD (L.base + j) undef) _ _ _ (fun i a hi => by
      obtain ⟨V, hV, r⟩ := rvl_at row i a hi
      have hi2 : i < 2 := (List.getElem?_eq_some_iff.1 hi).1
      have : V = arr.getD (L.base + (2 * k + i)) undef := by
        rw [← hg (2 * k + i) (by omega)]
        match i, hi2, hV with
        | 0, _, hV => cases hV; rfl
        | 1, _, hV => cases hV; rfl
      show Rv _ a (arr.getD (L.base + (2 * k + i)) undef)
      rw [← this]; exact r) (fun i => by unfold big; rw [T.get_full]; simp [Rv]) j)
    (fun j M hj hl _ _ => by
      cases j with
      | zero => rw [startH_zero] at hl; cases hl
      | succ j => rw [startN_live (j + 1) (by omega)] at hl; cases hl)
    (TypB.of_small (by decide))
  rw [startN_flr] at g2
  obtain ⟨q1, fk⟩ := facts_ok (h := T.set (.glob 1000000 (Nat.mul 2 (Nat.succ k)) (elF k)) (startH [] 7) 6) (by rw [T.get_set_ne _ _ _ _ _ (by decide)]; kernel_rfl) (by rw [g2]; kernel_rfl) g1 hf
  have hfl : flr (hF1 k fs) = 7 := fk.flr.trans g2
  refine ⟨q1, start_fp hfl fun i hi => ?_, hfl⟩
  rw [show (T.get .gone (hF1 k fs) i).live = _ from fk.live i, T.get_set_ne _ _ _ _ _ (by omega)]
  exact startN_live i (by omega)
end
theorem regsF {E : Env} {k m : Nat} (hm : ∀ V, Rv E (LK 0) V → Rv E (LK m) V) (t : Nat) (V : Value) (r : Rv E (T.get .no (regsOf (canF 0 k).rs) t) V) : Rv E (T.get .no (regsOf (canF m k).rs) t) V := by
  have e : ∀ m, regsOf (canF m k).rs = T.set (LK m) (regsOf (canF 0 k).rs.tail) 40 := fun m => rfl
  rw [e] at r ⊢
  by_cases h4 : t = 40
  · subst h4
    have g : ∀ m, T.get .no (T.set (LK m) (regsOf (canF 0 k).rs.tail) 40) 40 = LK m := fun m => rfl
    rw [g] at r ⊢
    exact hm V r
  · rw [T.get_set_ne _ _ _ _ _ h4] at r ⊢
    exact r
/-- what is known where it fits -/
def FitEnds (o : OutV) (N : Nat) (w : World) (e : Ending) (w' : World) : Prop := (∃ b, e = .returned (.bool b) ∧ (b = true → (1 ≤ o.k ∧ o.k ≤ 2) ∧ o.v.may = true ∧ N ≤ 1024)) ∧ RowKit.Below w.heap.size w w'
theorem fits {k1 k2 : Int} {o : OutV} {N C : Nat} {g : Nat → Value} {L : Spot} {w : World} (h1 : 0 ≤ k1 ∧ k1 ≤ 255) (h2 : 0 ≤ k2 ∧ k2 ≤ 255) (ok : o.ok) (hN : N ≤ 9223372036854775807) (K : KeysW w L N g) :
    Calls P 66 #[.int .u8 k1, .int .u8 k2, .agg (o.cells (.slice (some ⟨L.blk, L.base, none⟩) N C)).toArray] w (FitEnds o N w) := by
  have dF := fun i {V} a b => den_mono (le_EF (L := L)) _ _ (den_f1 (k1 := k1) (k2 := k2) (o := o) (N := N) (C := C) (g := g) i (V := V) a b)
  have d7 := dF 0 rfl (sok_i _ _)
  have d8 := dF 1 rfl (sok_i _ _)
  have d9 := dF 2 rfl (sok_i _ _)
  have d32 := dF 25 rfl (sok_i _ _)
  have d33 := dF 26 rfl (sok_i _ _)
  have dv : Dens (EF k1 k2 o N C g L) 10 o.v := Dens.mono le_EF (dens_f1 (i := 3) ⟨rfl, rfl, rfl, rfl⟩)
  have td : Vx.Told (EF k1 k2 o N C g L) needF := fun p hp => by
    unfold needF at hp
    simp only [List.mem_cons, List.not_mem_nil, or_false] at hp
    rcases hp with rfl | rfl | rfl | rfl
    · exact ⟨_, fact_le d9⟩
    · exact ⟨_, fact_le d9⟩
    · exact ⟨_, den_mA dv⟩
    · exact ⟨_, fact_le d32⟩
  have know : Holds (EF k1 k2 o N C g L) needF → (1 ≤ o.k ∧ o.k ≤ 2) ∧ o.v.may = true ∧ N ≤ 1024 := fun hf => by
    have q1 := hf _ List.mem_cons_self
    have q2 := hf _ (List.mem_cons_of_mem _ List.mem_cons_self)
    have q3 := hf _ (List.mem_cons_of_mem _ (List.mem_cons_of_mem _ List.mem_cons_self))
    have q4 := hf _ (List.mem_cons_of_mem _ (List.mem_cons_of_mem _ (List.mem_cons_of_mem _ List.mem_cons_self)))
    rw [fact_le (k := .u8) (c := 2) d9] at q1
    rw [fact_le (k := .u8) (c := 0) d9] at q2
    rw [den_mA dv] at q3
    rw [fact_le (k := .i64) (c := 1024) d32] at q4
    injection q1 with q1; injection q1 with q1
    injection q2 with q2; injection q2 with q2
    injection q3 with q3; injection q3 with q3
    injection q4 with q4; injection q4 with q4
    have q1 := of_decide_eq_true q1
    have q2 := of_decide_eq_false q2
    have q4 := of_decide_eq_true q4
    exact ⟨⟨by omega, q1⟩, q3, by omega⟩
  have rL : ∀ m, m ≤ N → Rv (EF k1 k2 o N C g L) (LK m) (.slice (some ⟨L.blk, L.base, none⟩) N C) := fun m hm => by
    unfold LK
    rw [Rv]
    exact ⟨L, N, C, (by unfold EF addAt; rw [if_pos rfl]), d32, d33, hm, by omega, rfl⟩
  have ra : RvL (EF k1 k2 o N C g L) (argF (LK 0)) (#[.int .u8 k1, .int .u8 k2, .agg (o.cells (.slice (some ⟨L.blk, L.base, none⟩) N C)).toArray] : Array Value).toList :=
    rvl_cons (by rw [Rv]; exact ⟨d7, _, rfl, h1⟩) (rvl_cons (by rw [Rv]; exact ⟨d8, _, rfl, h2⟩) (rvl_cons (by rw [Rv]; exact ⟨_, rfl, rv_out le_EF ok (rL 0 (Nat.zero_le _))⟩) rvl_nil))
  have lenN : ∀ k, den (EF k1 k2 o N C g L) (lenF k true).1 = some (.bool (decide ((N : Int) ≤ Int.ofNat k))) := fun k => fact_le d32
  have b0 := baseF (k1 := k1) (k2 := k2) (o := o) (C := C) K (fs := []) holds_nil
  have hh : ∀ E, (EF k1 k2 o N C g L).le E → Holds E needF → Holds (EF k1 k2 o N C g L) needF := fun E hE hn => told_holds hE td hn
  have hlaw := lawG3 cS_ok DF_ok (calls := fun _ => cS) (draws := fun _ => DF) (fun _ => cS_ok) XT_ok (fun _ => DF_ok) Tryz.func66 hbF hcF hnF (h0 := hF0 []) (w0 := w)
    (h0s := fun s => if s < N then hF1 s (lenF s false :: needF) else hF0 (lenF s true :: needF)) (K := 1025) (cans := canF 0) (cans' := fun s => canF (if s < N then s + 1 else 0) s) (needs := fun _ => needF) (starts := [0])
    (nexts := fun s => if s < N ∧ s < 1024 then [s + 1] else []) (gws := fun s => if s < N then gwF s else []) (xs := [0]) (canX := fun _ => canE) (canX' := fun _ => canE) (needX := fun _ => needF) (hX := fun _ => hF0 needF) (id := 0) (fin := finF) (m := 2084) (F := 7)
    cut_none ra (by show 3 ≤ _; exact of_decide_eq_true (by kernel_rfl)) (by decide) b0.1 b0.2.1 b0.2.2 (fun s E hE hn => ?_) (fun s E hE => ?_) (fun _ => td) (fun s E hE hn => ?_) (fun _ => td) (fun _ E hE hn => ⟨rfl, rfl, fun t V r => r⟩) (fun _ E hE hn => baseF K (hh E hE hn)) (fun s hs => ?_) (fun s hs t ht => ?_) fstR (fun s hs hn => ?_)
  · refine hlaw.mono ?_
    rintro e w' ⟨⟨V, v, h', E', rfl, rv, hf, hE, hk⟩, hb⟩
    refine ⟨?_, hb⟩
    have fin : hasFs (factsOf h') needF = true → (1 ≤ o.k ∧ o.k ≤ 2) ∧ o.v.may = true ∧ N ≤ 1024 := fun hh' => know (hh E' hE (hasFs_ok hf (td.mono hE) hh'))
    unfold finF at hk
    split at hk
    · rw [Rv] at rv; subst rv; exact ⟨false, rfl, fun h => by cases h⟩
    · rw [Rv] at rv; subst rv; exact ⟨true, rfl, fun _ => fin hk⟩
    · simp only [Rv, hasS] at rv
      obtain ⟨_, b, rfl⟩ := rv
      exact ⟨b, rfl, fun _ => fin hk⟩
    · cases hk
  · have f := hh E hE hn
    have h1024 := (know f).2.2
    split
    · rename_i hs
      refine baseEl K hs (by omega) (holds_cons ((lenN _).trans ?_) f)
      rw [decide_eq_false (by have e : Int.ofNat s = (s : Int) := rfl; omega)]; rfl
    · rename_i hs
      refine baseF K (holds_cons ((lenN _).trans ?_) f)
      rw [decide_eq_true (by have e : Int.ofNat s = (s : Int) := rfl; omega)]; rfl
  · split
    · refine gw_cons (fun p hp => by cases hp) (fun _ V r => ?_) gw_nil
      dsimp only at r ⊢
      unfold LK at r ⊢
      rw [Rv] at r ⊢
      obtain ⟨M, n, c, a1, a2, a3, _, a5, a6⟩ := r
      exact ⟨M, n, c, a1, a2, a3, Nat.zero_le _, a5, a6⟩
    · exact gw_nil
  · refine ⟨rfl, rfl, fun t V r => ?_⟩
    split
    · rename_i hs
      refine regsF (fun V r => ?_) t V r
      unfold LK at r ⊢
      rw [Rv] at r ⊢
      obtain ⟨M, n, cp, a1, a2, a3, _, a5, a6⟩ := r
      refine ⟨M, n, cp, a1, a2, a3, ?_, a5, a6⟩
      have hl := den_mono hE _ _ d32
      rw [a2] at hl
      have hl : (n : Int) = N := by injection hl with hl; injection hl
      omega
    · exact r
  · rcases List.mem_singleton.1 hs with rfl
    decide
  · split at ht
    · rename_i hh'
      rcases List.mem_singleton.1 ht with rfl
      omega
    · cases ht
  · obtain ⟨E, hE, hn⟩ := hn
    have h1024 := (know (hh E hE hn)).2.2
    by_cases hsN : s < N
    · rw [if_pos hsN, if_pos hsN, if_pos hsN, if_pos ⟨hsN, by omega⟩]
      exact rfP_all s (by omega)
    · rw [if_neg hsN, if_neg hsN, if_neg hsN, if_neg (fun h => hsN h.1)]
      exact rfL_all s (by omega)
end Go.Proofs.YtaecedlhiclkdaaGreatDoor.Rf
