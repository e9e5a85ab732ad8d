/- CoerceEnds: what is given as symbols, the start of each round, and the law by the rounds. No condition. -/
import Derived.Test.YtaecedlhiclkdaaGreatEnS
namespace Go.Proofs.YtaecedlhiclkdaaGreat.En
open Go Vx Con
set_option linter.unusedVariables false
set_option linter.constructorNameAsVariable false
set_option maxRecDepth 100000

/-! ### What is given -/
structure V4 where
  k : Int
  x : Nat
  s : ByteArray
  r : Int
def V4.cells (v : V4) : List Value := [.int .u8 v.k, .float .f64 v.x, .string v.s, .int .i64 v.r]
def V4.ok (v : V4) : Prop := (0 ≤ v.k ∧ v.k ≤ 255) ∧ v.x < 18446744073709551616 ∧ (v.s.size : Int) ≤ 9223372036854775807 ∧ (-9223372036854775808 ≤ v.r ∧ v.r ≤ 9223372036854775807)
def V4.may (v : V4) : Bool := mayV v.k v.x v.s v.r
def z4 : V4 := ⟨0, 0, ByteArray.empty, 0⟩
theorem z4_may : z4.may = true := by kernel_rfl
theorem z4_ok : z4.ok := ⟨⟨by decide, by decide⟩, by decide, by decide, by decide, by decide⟩
structure Inp where
  zs : List Int
  v : V4
  w : V4
  o : Nat → Int × V4
  len : Nat
  cap : Nat
  hint : Int
/-- an answer is taken -/
def taken (o : Int × V4) : Bool := (decide (o.1 = 1) || decide (o.1 = 2)) && o.2.may
def Inp.e (I : Inp) (j : Nat) : V4 := if taken (I.o j) = true then (I.o j).2 else z4
def blkV (I : Inp) (j : Nat) (rest : List Value) : List Value := .int .u8 (I.o j).1 :: .int .u8 (I.o j).2.k :: .float .f64 (I.o j).2.x :: .string (I.o j).2.s :: .int .i64 (I.o j).2.r ::
  .int .u8 (I.e j).k :: .float .f64 (I.e j).x :: .string (I.e j).s :: .int .i64 (I.e j).r :: rest
def Inp.us (I : Inp) : List Value := .int .u8 I.v.k :: .float .f64 I.v.x :: .string I.v.s :: .int .i64 I.v.r :: .int .u8 I.w.k :: .float .f64 I.w.x :: .string I.w.s :: .int .i64 I.w.r :: blkV I 0 (blkV I 1 (blkV I 2 (blkV I 3 (blkV I 4 (blkV I 5 (blkV I 6 (blkV I 7 (blkV I 8 (blkV I 9 ([.int .i64 I.len, .int .i64 I.cap, .int .u8 I.hint]))))))))))
def Inp.vs (I : Inp) : List Value := I.zs.map (Value.int .u64) ++ I.us
structure Inp.ok (I : Inp) : Prop where
  zlen : I.zs.length = 20
  zok : ∀ z ∈ I.zs, 0 ≤ z ∧ z ≤ 18446744073709551615
  v : I.v.ok
  w : I.w.ok
  o : ∀ j, (0 ≤ (I.o j).1 ∧ (I.o j).1 ≤ 255) ∧ (I.o j).2.ok
  none : ∀ j, I.len ≤ j → I.o j = (0, z4)
  len : I.len ≤ 9223372036854775807
  hint : 0 ≤ I.hint ∧ I.hint ≤ 255
theorem Inp.e_ok {I : Inp} (h : I.ok) (j : Nat) : (I.e j).ok ∧ (I.e j).may = true := by
  unfold Inp.e
  by_cases ht : taken (I.o j) = true
  · rw [if_pos ht]
    unfold taken at ht
    rw [Bool.and_eq_true] at ht
    exact ⟨(h.o j).2, ht.2⟩
  · rw [if_neg ht]; exact ⟨z4_ok, z4_may⟩
noncomputable def E1 (I : Inp) : Env := symEV GL 7 I.vs
noncomputable def E0 (I : Inp) (L : Spot) : Env := addAt (E1 I) 6 L
theorem E1_six (I : Inp) : E1 I 6 = none := rfl
theorem den_us1 {I : Inp} (h : I.ok) (i : Nat) {V : Value} (hi : I.us[i]? = some V) (ok : symOK V) : den (E1 I) (.sy (27 + i)) = some V := by
  have := den_sym (gl := GL) (n0 := 7) (Vs := I.vs) (20 + i) (by unfold Inp.vs; rw [List.getElem?_append_right (by simp [h.zlen]), List.length_map, h.zlen, Nat.add_sub_cancel_left]; exact hi) ok
  rw [show 7 + (20 + i) = 27 + i from by omega] at this
  exact this
theorem den_us {I : Inp} (h : I.ok) (L : Spot) (i : Nat) {V : Value} (hi : I.us[i]? = some V) (ok : symOK V) : den (E0 I L) (.sy (27 + i)) = some V := den_mono (le_addAt (E1_six I)) _ _ (den_us1 h i hi ok)
/-- a value's cells from symbol n on -/
def Dens (E : Env) (n : Nat) (v : V4) : Prop := den E (.sy n) = some (.int .u8 v.k) ∧ den E (.sy (n + 1)) = some (.float .f64 v.x) ∧ den E (.sy (n + 2)) = some (.string v.s) ∧ den E (.sy (n + 3)) = some (.int .i64 v.r)
theorem us_o (I : Inp) (j : Nat) (hj : j < 10) : I.us[8 + 9 * j]? = some (.int .u8 (I.o j).1) :=
  match j, hj with
  | 0, _ => rfl
  | 1, _ => rfl
  | 2, _ => rfl
  | 3, _ => rfl
  | 4, _ => rfl
  | 5, _ => rfl
  | 6, _ => rfl
  | 7, _ => rfl
  | 8, _ => rfl
  | 9, _ => rfl
theorem us_r (I : Inp) (j : Nat) (hj : j < 10) : I.us[9 + 9 * j]? = some (.int .u8 (I.o j).2.k) ∧ I.us[9 + 9 * j + 1]? = some (.float .f64 (I.o j).2.x) ∧ I.us[9 + 9 * j + 2]? = some (.string (I.o j).2.s) ∧ I.us[9 + 9 * j + 3]? = some (.int .i64 (I.o j).2.r) :=
  match j, hj with
  | 0, _ => ⟨rfl, rfl, rfl, rfl⟩
  | 1, _ => ⟨rfl, rfl, rfl, rfl⟩
  | 2, _ => ⟨rfl, rfl, rfl, rfl⟩
  | 3, _ => ⟨rfl, rfl, rfl, rfl⟩
  | 4, _ => ⟨rfl, rfl, rfl, rfl⟩
  | 5, _ => ⟨rfl, rfl, rfl, rfl⟩
  | 6, _ => ⟨rfl, rfl, rfl, rfl⟩
  | 7, _ => ⟨rfl, rfl, rfl, rfl⟩
  | 8, _ => ⟨rfl, rfl, rfl, rfl⟩
  | 9, _ => ⟨rfl, rfl, rfl, rfl⟩
theorem us_e (I : Inp) (j : Nat) (hj : j < 10) : I.us[13 + 9 * j]? = some (.int .u8 (I.e j).k) ∧ I.us[13 + 9 * j + 1]? = some (.float .f64 (I.e j).x) ∧ I.us[13 + 9 * j + 2]? = some (.string (I.e j).s) ∧ I.us[13 + 9 * j + 3]? = some (.int .i64 (I.e j).r) :=
  match j, hj with
  | 0, _ => ⟨rfl, rfl, rfl, rfl⟩
  | 1, _ => ⟨rfl, rfl, rfl, rfl⟩
  | 2, _ => ⟨rfl, rfl, rfl, rfl⟩
  | 3, _ => ⟨rfl, rfl, rfl, rfl⟩
  | 4, _ => ⟨rfl, rfl, rfl, rfl⟩
  | 5, _ => ⟨rfl, rfl, rfl, rfl⟩
  | 6, _ => ⟨rfl, rfl, rfl, rfl⟩
  | 7, _ => ⟨rfl, rfl, rfl, rfl⟩
  | 8, _ => ⟨rfl, rfl, rfl, rfl⟩
  | 9, _ => ⟨rfl, rfl, rfl, rfl⟩
theorem dens_of {I : Inp} (h : I.ok) (L : Spot) {i : Nat} {v : V4} (a : I.us[i]? = some (.int .u8 v.k) ∧ I.us[i + 1]? = some (.float .f64 v.x) ∧ I.us[i + 2]? = some (.string v.s) ∧ I.us[i + 3]? = some (.int .i64 v.r)) : Dens (E0 I L) (27 + i) v :=
  ⟨den_us h L i a.1 (sok_i _ _), den_us h L (i + 1) a.2.1 (sok_f _), den_us h L (i + 2) a.2.2.1 (sok_s _), den_us h L (i + 3) a.2.2.2 (sok_i _ _)⟩
section
variable {I : Inp} (h : I.ok) (L : Spot)
include h
theorem dens_v : Dens (E0 I L) 27 I.v := dens_of h L (i := 0) ⟨rfl, rfl, rfl, rfl⟩
theorem dens_w : Dens (E0 I L) 31 I.w := dens_of h L (i := 4) ⟨rfl, rfl, rfl, rfl⟩
theorem den_o {j : Nat} (hj : j < 10) : den (E0 I L) (.sy (rN j)) = some (.int .u8 (I.o j).1) := by
  have := den_us h L _ (us_o I j hj) (sok_i _ _)
  rw [show 27 + (8 + 9 * j) = 35 + 9 * j from by omega] at this
  exact this
theorem dens_r {j : Nat} (hj : j < 10) : Dens (E0 I L) (rN j + 1) (I.o j).2 := by
  have := dens_of h L (us_r I j hj)
  rw [show 27 + (9 + 9 * j) = 35 + 9 * j + 1 from by omega] at this
  exact this
theorem dens_e {j : Nat} (hj : j < 10) : Dens (E0 I L) (eN j) (I.e j) := by
  have := dens_of h L (us_e I j hj)
  rw [show 27 + (13 + 9 * j) = 40 + 9 * j from by omega] at this
  exact this
theorem den_len0 : den (E0 I L) (.sy 125) = some (.int .i64 I.len) := den_us h L 98 rfl (sok_i _ _)
theorem den_cap0 : den (E0 I L) (.sy 126) = some (.int .i64 I.cap) := den_us h L 99 rfl (sok_i _ _)
theorem den_hint0 : den (E0 I L) (.sy 127) = some (.int .u8 I.hint) := den_us h L 100 rfl (sok_i _ _)
end
theorem rv_vS {E : Env} {n : Nat} {v : V4} (ok : v.ok) (d : Dens E n v) : RvL E (vS n) v.cells :=
  rvl_cons (by rw [Rv]; exact ⟨d.1, _, rfl, ok.1⟩) (rvl_cons (by rw [Rv]; exact ⟨d.2.1, _, rfl, ok.2.1⟩) (rvl_cons (by rw [Rv]; exact ⟨d.2.2.1, _, rfl, ok.2.2.1⟩) (rvl_cons (by rw [Rv]; exact ⟨d.2.2.2, _, rfl, ok.2.2.2⟩) rvl_nil)))
theorem den_mA {E : Env} {n : Nat} {v : V4} (d : Dens E n v) : den E (mA n) = some (.bool v.may) := den_may d.1 d.2.1 d.2.2.1 d.2.2.2
theorem may_le {v : V4} (hm : v.may = true) : v.k ≤ 8 := by
  rcases Int.lt_or_le 8 v.k with h | h
  · unfold V4.may at hm; rw [mayV_great h] at hm; cases hm
  · exact h
theorem holds_vF {E : Env} {n : Nat} {v : V4} {o : Bool} (d : Dens E n v) (hm : v.may = true) (ho : decide (v.k ≤ 5) = !o) : Holds E (vF n o) :=
  holds_cons ((den_mA d).trans (by rw [hm])) (holds_cons ((fact_le d.1).trans (by rw [ho])) (holds_cons ((fact_le d.1).trans (by rw [decide_eq_true (may_le hm)])) holds_nil))
theorem holds_ans {I : Inp} (h : I.ok) (L : Spot) : ∀ n : Nat, n ≤ 10 → Holds (E0 I L) (ansF n)
  | 0, _ => holds_nil
  | j + 1, hn => by
    have hj : j < 10 := by omega
    have d := dens_e h L hj
    have hm := (I.e_ok h j).2
    exact holds_cons ((den_mA d).trans (by rw [hm])) (holds_cons ((fact_le d.1).trans (by rw [decide_eq_true (may_le hm)])) (holds_ans h L j (by omega)))
theorem sym_u8 {I : Inp} (h : I.ok) (L : Spot) {n : Nat} (hn : symB n = true) : ∃ k, den (E0 I L) (.sy n) = some (.int .u8 k) := by
  unfold symB at hn
  simp only [Bool.or_eq_true, Bool.and_eq_true, beq_iff_eq, decide_eq_true_eq] at hn
  rcases hn with (rfl | rfl) | ⟨⟨h1, h2⟩, h3⟩
  · exact ⟨_, (dens_v h L).1⟩
  · exact ⟨_, (dens_w h L).1⟩
  · obtain ⟨j, rfl⟩ : ∃ j, n = 40 + 9 * j := ⟨(n - 40) / 9, by omega⟩
    exact ⟨_, (dens_e h L (j := j) (by omega)).1⟩
theorem told_nd {I : Inp} (h : I.ok) (L : Spot) {l : List (Nat × Int × Bool)} (hl : ∀ p ∈ l, symB p.1 = true) : Vx.Told (E0 I L) (ndF l) := fun q hq => by
  obtain ⟨p, hp, rfl⟩ := List.mem_map.1 hq
  obtain ⟨k, hk⟩ := sym_u8 h L (hl p hp)
  exact ⟨_, fact_le hk⟩
theorem told_holds {E E' : Env} (hle : E.le E') {fs : Facts} (td : Vx.Told E fs) (hf : Holds E' fs) : Holds E fs := fun p hp => by
  obtain ⟨b, hb⟩ := td p hp
  have := den_mono hle _ _ hb
  rw [hf p hp] at this
  cases this; exact hb

/-! ### Cells told otherwise -/
theorem gw_nil {E : Env} : GWkOK E [] := fun _ h => by cases h
theorem gw_cons {E : Env} {p : Facts × AV × AV} {l : GWk} (h1 : Vx.Told E p.1) (h2 : Holds E p.1 → ∀ V, Rv E p.2.1 V → Rv E p.2.2 V) (h : GWkOK E l) : GWkOK E (p :: l) := fun q hq => by
  rcases List.mem_cons.1 hq with rfl | hq
  · exact ⟨h1, h2⟩
  · exact h q hq
theorem gw_app {E : Env} {a b : GWk} (ha : GWkOK E a) (hb : GWkOK E b) : GWkOK E (a ++ b) := fun q hq => by
  rcases List.mem_append.1 hq with hq | hq
  · exact ha q hq
  · exact hb q hq
theorem told_one {E : Env} {e : SE} {b c : Bool} (h : den E e = some (.bool c)) : Vx.Told E [(e, b)] := fun p hp => by
  rcases List.mem_singleton.1 hp with rfl
  exact ⟨c, h⟩
theorem told_two {E : Env} {e f : SE} {b b' c c' : Bool} (h : den E e = some (.bool c)) (h' : den E f = some (.bool c')) : Vx.Told E [(e, b), (f, b')] := fun p hp => by
  rcases List.mem_cons.1 hp with rfl | hp
  · exact ⟨c, h⟩
  · exact told_one h' p hp
theorem holds_at {E : Env} {e : SE} {b c : Bool} {fs : Facts} (h : Holds E fs) (hm : (e, b) ∈ fs) (hd : den E e = some (.bool c)) : c = b := by
  have := h _ hm
  rw [hd] at this
  cases this; rfl
theorem rv_x {E : Env} {s : Srt} {a b : SE} {U : Value} (ha : den E a = some U) (hb : den E b = some U) : ∀ V, Rv E (.x s a) V → Rv E (.x s b) V := fun V r => by
  rw [Rv] at r ⊢
  obtain ⟨r1, r2⟩ := r
  rw [ha] at r1; cases r1
  exact ⟨hb, r2⟩
theorem gw_raw {E : Env} {g : Facts} {a e : Nat} (td : Vx.Told E g) (h : Holds E g → ∃ v, Dens E a v ∧ Dens E e v) : GWkOK E (List.zipWith (fun a b => (g, a, b)) (vS a) (vS e)) :=
  gw_cons td (fun hg => by obtain ⟨v, d, d'⟩ := h hg; exact rv_x d.1 d'.1) (gw_cons td (fun hg => by obtain ⟨v, d, d'⟩ := h hg; exact rv_x d.2.1 d'.2.1) (gw_cons td (fun hg => by obtain ⟨v, d, d'⟩ := h hg; exact rv_x d.2.2.1 d'.2.2.1) (gw_cons td (fun hg => by obtain ⟨v, d, d'⟩ := h hg; exact rv_x d.2.2.2 d'.2.2.2) gw_nil)))
theorem rv_lit {E : Env} {s : Srt} {a : AV} {e : SE} {U : Value} (hl : ∀ V, Rv E a V → V = U) (hd : den E e = some U) (hs : hasS s U) : ∀ V, Rv E a V → Rv E (.x s e) V := fun V r => by
  rw [hl V r, Rv]; exact ⟨hd, hs⟩
theorem gw_zero {E : Env} {g : Facts} {e : Nat} (td : Vx.Told E g) (h : Holds E g → Dens E e z4) : GWkOK E (List.zipWith (fun a b => (g, a, b)) [.i .u8 0, .f .f64 0, .s 0 0, .i .i64 0] (vS e)) :=
  gw_cons td (fun hg => rv_lit (U := .int .u8 0) (fun V r => by rw [Rv] at r; exact r) (h hg).1 ⟨_, rfl, z4_ok.1⟩) (gw_cons td (fun hg => rv_lit (U := .float .f64 0) (fun V r => by rw [Rv] at r; exact r) (h hg).2.1 ⟨_, rfl, z4_ok.2.1⟩)
    (gw_cons td (fun hg => rv_lit (U := .string ByteArray.empty) (fun V r => by rw [Rv] at r; exact r) (h hg).2.2.1 ⟨_, rfl, z4_ok.2.2.1⟩) (gw_cons td (fun hg => rv_lit (U := .int .i64 0) (fun V r => by rw [Rv] at r; exact r) (h hg).2.2.2 ⟨_, rfl, z4_ok.2.2.2⟩) gw_nil)))
theorem Dens.mono {E E' : Env} (h : E.le E') {n : Nat} {v : V4} (d : Dens E n v) : Dens E' n v := ⟨den_mono h _ _ d.1, den_mono h _ _ d.2.1, den_mono h _ _ d.2.2.1, den_mono h _ _ d.2.2.2⟩
theorem gw_ok {I : Inp} (h : I.ok) {L : Spot} {E : Env} (hE : (E0 I L).le E) {k : Nat} (hk : k < 10) : GWkOK E (gwS k) := by
  have o1 := den_mono hE _ _ (den_o h L hk)
  have r1 := (dens_r h L hk).mono hE
  have e1 := (dens_e h L hk).mono hE
  have l1 := den_mono hE _ _ (den_len0 h L)
  have f1 : den E (.cmp .eql (.sy (rN k)) (.li .u8 1)) = some (.bool (decide ((I.o k).1 = 1))) := fact_eq o1
  have f2 : den E (.cmp .eql (.sy (rN k)) (.li .u8 2)) = some (.bool (decide ((I.o k).1 = 2))) := fact_eq o1
  have fm : den E (mA (Nat.add (rN k) 1)) = some (.bool (I.o k).2.may) := den_mA r1
  have fl : den E (.cmp .leq (.sy 125) (.li .i64 (Int.ofNat k))) = some (.bool (decide ((I.len : Int) ≤ Int.ofNat k))) := fact_le l1
  have yes : ((I.o k).1 = 1 ∨ (I.o k).1 = 2) → (I.o k).2.may = true → I.e k = (I.o k).2 := fun a b => by
    unfold Inp.e taken
    rw [if_pos]
    rw [b, Bool.and_true, Bool.or_eq_true, decide_eq_true_eq, decide_eq_true_eq]; exact a
  have no : taken (I.o k) = false → I.e k = z4 := fun a => by
    unfold Inp.e
    rw [if_neg (by rw [a]; decide)]
  have both : ((I.o k).1 = 1 ∨ (I.o k).1 = 2) → (I.o k).2.may = true → ∃ v, Dens E (Nat.add (rN k) 1) v ∧ Dens E (eN k) v := fun a b => ⟨(I.o k).2, r1, by rw [yes a b] at e1; exact e1⟩
  have zer : taken (I.o k) = false → Dens E (eN k) z4 := fun a => by rw [no a] at e1; exact e1
  unfold gwS
  refine gw_app (gw_app (gw_app (gw_app (gw_app (gw_cons (fun p hp => by cases hp) (fun _ V r => ?_) (gw_cons (told_one f1) (fun hg V r => ?_) (gw_cons (told_one f2) (fun hg V r => ?_) gw_nil))) (gw_raw (told_two f1 fm) fun hg => ?_)) (gw_raw (told_two f2 fm) fun hg => ?_)) (gw_zero (told_one fl) fun hg => ?_)) (gw_zero (told_two f1 f2) fun hg => ?_)) (gw_zero (told_one fm) fun hg => ?_)
  · unfold LV at r ⊢
    rw [Rv] at r ⊢
    obtain ⟨M, n, c, a1, a2, a3, _, a5, a6⟩ := r
    exact ⟨M, n, c, a1, a2, a3, Nat.zero_le _, a5, a6⟩
  · have := of_decide_eq_true (holds_at hg List.mem_cons_self f1)
    simp only [Rv] at r ⊢
    obtain ⟨r1, _⟩ := r
    rw [o1, this] at r1
    cases r1; rfl
  · have := of_decide_eq_true (holds_at hg List.mem_cons_self f2)
    simp only [Rv] at r ⊢
    obtain ⟨r1, _⟩ := r
    rw [o1, this] at r1
    cases r1; rfl
  · exact both (.inl (of_decide_eq_true (holds_at hg List.mem_cons_self f1))) (holds_at hg (List.mem_cons_of_mem _ List.mem_cons_self) fm)
  · exact both (.inr (of_decide_eq_true (holds_at hg List.mem_cons_self f2))) (holds_at hg (List.mem_cons_of_mem _ List.mem_cons_self) fm)
  · have := of_decide_eq_true (holds_at hg List.mem_cons_self fl)
    have := h.none k (by have e : Int.ofNat k = (k : Int) := rfl; omega)
    refine zer ?_
    rw [this]; rfl
  · refine zer ?_
    have a := holds_at hg List.mem_cons_self f1
    have b := holds_at hg (List.mem_cons_of_mem _ List.mem_cons_self) f2
    unfold taken
    rw [a, b]; rfl
  · refine zer ?_
    have a := holds_at hg List.mem_cons_self fm
    unfold taken
    rw [a, Bool.and_false]

/-! ### The start -/
theorem facts_ok {E : Env} {h : Heap} {n : Nat} {w : World} {fs : Facts} (e : T.get .gone h fplace = .gone) (e2 : Nat.ble (flr h) fplace = true) (hr : HR E h n w) (hf : Holds E fs) : HR E (T.set (.facts fs) h fplace) n w ∧ Fk h (T.set (.facts fs) h fplace) := by
  have he : setF fs h (fun h' => @decide (h' = T.set (.facts fs) h fplace) (Classical.propDecidable _)) = true := by
    unfold setF
    rw [e]
    show bc (Nat.ble (flr h) fplace) (T.setK (.facts fs) h fplace _) false = true
    rw [e2, T.setK_eq]
    exact @decide_eq_true _ (Classical.propDecidable _) rfl
  obtain ⟨h1, k1, hr1, fk⟩ := setF_ok he hr hf
  obtain rfl := @of_decide_eq_true _ (Classical.propDecidable _) k1
  exact ⟨hr1, fk⟩
theorem start_fp {E : Env} {h : Heap} (hfl : flr h = 7) (hl : ∀ i, 7 ≤ i → (T.get .gone h i).live = false) (b : Nat) : ¬ fp E h b := by
  rintro ⟨i, L, a1, a2, _, _⟩
  rw [hfl] at a1
  rw [hl i a1] at a2; cases a2
theorem start_live (i : Nat) (hi : 6 ≤ i) : (T.get .gone (startH GL 7) i).live = false := by
  cases i with
  | zero => omega
  | succ i =>
    rcases startH_get GL 7 i with h | ⟨p, hp, e, h⟩
    · rw [h]; rfl
    · obtain rfl : p = (4, tabAVs 20 7) := by simpa [GL] using hp
      dsimp only at e
      omega
theorem start_flr : flr (startH GL 7) = 7 := by unfold flr; rw [startH_zero]
/-- a list that is given, in the memory -/
structure Lst (I : Inp) (L : Spot) (w : World) : Prop where
  blk : L.blk < w.heap.size
  at_ : ∀ k, k < I.len → k < 10 → ∃ arr el fr, w.heap[L.blk]? = some (.cells arr el fr) ∧ L.base + 26 * (k + 1) ≤ arr.size ∧ ∀ i V, ((.int .u8 (I.o k).1 :: (I.o k).2.cells) : List Value)[i]? = some V → arr.getD (L.base + (26 * k + i)) undef = V
structure Beg (I : Inp) (L : Spot) (w : World) : Prop where
  ok : I.ok
  lst : Lst I L w
  tab : ∃ arr el fr, w.heap[4]? = some (.cells arr el fr) ∧ arr.toList.take 20 = I.zs.map (Value.int .u64) ∧ arr.size = 20
theorem us_len (I : Inp) : I.us.length = 101 := rfl
theorem vs_len {I : Inp} (h : I.ok) : I.vs.length = 121 := by unfold Inp.vs; rw [List.length_append, List.length_map, h.zlen, us_len]
theorem tab_hw {I : Inp} {w : World} (h : I.ok) (tab : ∃ arr el fr, w.heap[4]? = some (.cells arr el fr) ∧ arr.toList.take 20 = I.zs.map (Value.int .u64) ∧ arr.size = 20) : ∀ p ∈ GL, ∃ arr el fr, w.heap[p.1]? = some (.cells arr el fr) ∧ RvL (E1 I) p.2 (arr.toList.take p.2.length) := by
  intro p hp
  obtain rfl : p = (4, tabAVs 20 7) := by simpa [GL] using hp
  obtain ⟨arr, el, fr, h1, h2, _⟩ := tab
  refine ⟨arr, el, fr, h1, ?_⟩
  have hl : (tabAVs 20 7).length = 20 := rfl
  show RvL _ (tabAVs 20 7) (arr.toList.take (tabAVs 20 7).length)
  rw [hl, h2]
  refine tab_rv (gl := GL) (n0 := 7) 20 0 I.zs h.zlen (fun i z hz => ?_) h.zok
  unfold Inp.vs
  rw [Nat.zero_add, List.getElem?_append_left (by rw [List.length_map]; exact (List.getElem?_eq_some_iff.1 hz).1), List.getElem?_map, hz]
  rfl
theorem base0 {I : Inp} {L : Spot} {w : World} (B : Beg I L w) : HR (E0 I L) (startH GL 7) 128 w := by
  have hs : 0 < w.heap.size := by have := B.lst.blk; omega
  have hr := symG_ok (m := 121) (Ls := I.vs.map spotOf) (gl := GL) (n0 := 7) (w := w) rfl rfl rfl (tab_hw B.ok B.tab) (by rw [List.length_map, vs_len B.ok]) (fun M hM => by obtain ⟨V, _, rfl⟩ := List.mem_map.1 hM; exact spot_blk V) hs
  exact HR.addAt hr (by decide) (E1_six I) (start_live 6 (Nat.le_refl _)) B.lst.blk
theorem base_no {I : Inp} {L : Spot} {w : World} (B : Beg I L w) {fs : Facts} (hf : Holds (E0 I L) fs) : HR (E0 I L) (hNo fs) 128 w ∧ (∀ b, ¬ fp (E0 I L) (hNo fs) b) ∧ flr (hNo fs) = 7 := by
  obtain ⟨h1, fk⟩ := facts_ok (by kernel_rfl) (by kernel_rfl) (base0 B) hf
  have hfl : flr (hNo fs) = 7 := fk.flr.trans start_flr
  exact ⟨h1, start_fp hfl fun i hi => by rw [show (T.get .gone (hNo fs) i).live = _ from fk.live i]; exact start_live i (by omega), hfl⟩
theorem wrLs_rv {E : Env} {g : Nat → Value} : ∀ (l : List AV) (c : T AV) (off : Nat), (∀ i a, l[i]? = some a → Rv E a (g (off + i))) → (∀ j, Rv E (T.get .no c j) (g j)) → ∀ j, Rv E (T.get .no (wrLs l c off) j) (g j)
  | [], c, off, _, hc, j => hc j
  | v :: l, c, off, h, hc, j => by
    show Rv E (T.get .no (wrLs l (T.set v c off) (off + 1)) j) (g j)
    refine wrLs_rv l _ _ (fun i a hi => ?_) (fun i => ?_) j
    · rw [show off + 1 + i = off + (i + 1) from by omega]
      exact h (i + 1) a hi
    · by_cases e : i = off
      · subst e
        rcases T.get_set_eq AV.no v c i with q | q <;> rw [q]
        · exact h 0 v rfl
        · simp [Rv]
      · rw [T.get_set_ne _ _ _ _ _ e]; exact hc i
theorem rvl_at {E : Env} : ∀ {l : List AV} {vs : List Value}, RvL E l vs → ∀ (i : Nat) (a : AV), l[i]? = some a → ∃ V, vs[i]? = some V ∧ Rv E a V
  | [], _, _, i, a, h => by cases h
  | v :: l, vs, r, i, a, h => by
    rw [RvL] at r
    obtain ⟨V, vs', rfl, r1, r2⟩ := r
    cases i with
    | zero => cases h; exact ⟨V, rfl, r1⟩
    | succ i => exact rvl_at r2 i a h
theorem base_el {I : Inp} {L : Spot} {w : World} (B : Beg I L w) {k : Nat} (hk : k < I.len) (hk10 : k < 10) {fs : Facts} (hf : Holds (E0 I L) fs) : HR (E0 I L) (hEl k fs) 128 w ∧ (∀ b, ¬ fp (E0 I L) (hEl k fs) b) ∧ flr (hEl k fs) = 7 := by
  obtain ⟨arr, el, fr, hb, hsz, hat⟩ := B.lst.at_ k hk hk10
  obtain ⟨arr', el', fr', hb', _, hsz'⟩ := B.tab
  have six : E0 I L 6 = some L := by unfold E0 addAt; rw [if_pos rfl]
  have hne : L.blk ≠ 4 := fun e => by
    rw [e, hb'] at hb
    cases hb
    omega
  have row : RvL (E0 I L) (.x (.i .u8) (.sy (rN k)) :: vS (Nat.add (rN k) 1)) (.int .u8 (I.o k).1 :: (I.o k).2.cells) :=
    rvl_cons (by rw [Rv]; exact ⟨den_o B.ok L hk10, _, rfl, (B.ok.o k).1⟩) (rv_vS (B.ok.o k).2 (dens_r B.ok L hk10))
  obtain ⟨g1, g2⟩ := HR.setGlob (base0 B) (i := 6) (g := 1000000) (m := Nat.mul 26 (Nat.succ k)) (c := elC k) (L := L) (by decide) (by decide) (by rw [start_flr]; decide) six hb (by show L.base + 26 * (k + 1) ≤ _; exact hsz)
    (fun j hj => wrLs_rv (g := fun j => arr.getD (L.base + j) undef) _ _ _ (fun i a hi => by
      obtain ⟨V, hV, r⟩ := rvl_at row i a hi
      have := hat i V hV
      show Rv _ a (arr.getD (L.base + (26 * k + i)) undef)
      rw [this]; exact r) (fun i => by unfold big; rw [T.get_full]; simp [Rv]) j)
    (fun j M hj hl hM e => by
      have : j = 5 := by
        cases j with
        | zero => rw [startH_zero] at hl; cases hl
        | succ j =>
          rcases startH_get GL 7 j with h | ⟨p, hp, e, h⟩
          · rw [h] at hl; cases hl
          · obtain rfl : p = (4, tabAVs 20 7) := by simpa [GL] using hp
            dsimp only at e
            omega
      subst this
      have e5 : E0 I L 5 = some ⟨4, 0, 0⟩ := rfl
      rw [e5] at hM
      cases hM
      exact hne e.symm)
  rw [start_flr] at g2
  obtain ⟨h1, fk⟩ := facts_ok (h := T.set (.glob 1000000 (Nat.mul 26 (Nat.succ k)) (elC k)) (startH GL 7) 6) (by rw [T.get_set_ne _ _ _ _ _ (by decide)]; kernel_rfl) (by rw [g2]; kernel_rfl) g1 hf
  have hfl : flr (hEl k fs) = 7 := fk.flr.trans g2
  refine ⟨h1, start_fp hfl fun i hi => ?_, hfl⟩
  rw [show (T.get .gone (hEl k fs) i).live = _ from fk.live i, T.get_set_ne _ _ _ _ _ (by omega)]
  exact start_live i (by omega)

/-! ### The law of a configuration -/
def RdOK (c : Cfg) (i : Nat) : Prop := (isE (nthS c.sts i).nx = true ∧ rdT c i = true) ∨ (isE (nthS c.sts i).nx = false ∧ rdP c i = true ∧ rdL c i = true)
structure CfgOK (c : Cfg) : Prop where
  fst : fstC c = true
  nil : nilC c = true
  chk : chkB c = true
  rds : ∀ i, i < c.sts.length → RdOK c i
theorem nthS_mem : ∀ (l : List St) (i : Nat), i < l.length → nthS l i ∈ l
  | [], _, h => by cases h
  | a :: l, 0, _ => List.mem_cons_self
  | a :: l, i + 1, h => List.mem_cons_of_mem _ (nthS_mem l i (by simpa using h))
theorem nthS_out : ∀ (l : List St) (i : Nat), l.length ≤ i → nthS l i = st0
  | [], _, _ => rfl
  | a :: l, 0, h => by cases h
  | a :: l, i + 1, h => nthS_out l i (by simpa using h)
section
variable {c : Cfg} (ok : chkB c = true)
include ok
theorem chk_pos : 0 < c.sts.length := by
  unfold chkB at ok
  rw [Bool.and_eq_true] at ok
  exact Nat.le_of_ble_eq_true ok.1
theorem chk_ex : ∀ p ∈ c.ex, symB p.1 = true := by
  unfold chkB at ok
  simp only [Bool.and_eq_true] at ok
  exact fun p hp => List.all_eq_true.1 ok.2.1.1 p hp
theorem chk_st (i : Nat) : (∀ p ∈ (nthS c.sts i).nd, symB p.1 = true) ∧ (nthS c.sts i).k ≤ 10 ∧ (isE (nthS c.sts i).nx = false → (nthS c.sts i).k < 10) := by
  rcases Nat.lt_or_ge i c.sts.length with hi | hi
  · unfold chkB at ok
    simp only [Bool.and_eq_true] at ok
    have := List.all_eq_true.1 ok.2.1.2 _ (nthS_mem _ _ hi)
    simp only [Bool.and_eq_true, Bool.or_eq_true] at this
    refine ⟨fun p hp => List.all_eq_true.1 this.1.1 p hp, Nat.le_of_ble_eq_true this.1.2, fun he => ?_⟩
    rcases this.2 with h | h
    · rw [he] at h; cases h
    · exact Nat.le_of_ble_eq_true h
  · rw [nthS_out _ _ hi]
    exact ⟨(fun p hp => by cases hp), Nat.zero_le _, fun _ => by decide⟩
theorem chk_up (i : Nat) (hi : i < c.sts.length) (j : Nat) (hj : j ∈ (nthS c.sts i).nx) : i < j ∧ j < c.sts.length := by
  unfold chkB at ok
  simp only [Bool.and_eq_true] at ok
  have := List.all_eq_true.1 ok.2.2 i (List.mem_range.2 hi)
  have := List.all_eq_true.1 this j hj
  rw [Bool.and_eq_true] at this
  exact ⟨Nat.le_of_ble_eq_true this.1, Nat.le_of_ble_eq_true this.2⟩
theorem need_sym (i : Nat) : ∀ p ∈ (nthS c.sts i).nd ++ Bool.rec [] c.ex (Nat.ble 1 (nthS c.sts i).k), symB p.1 = true := fun p hp => by
  rcases List.mem_append.1 hp with hp | hp
  · exact (chk_st ok i).1 p hp
  · cases hb : Nat.ble 1 (nthS c.sts i).k with
    | false => rw [hb] at hp; cases hp
    | true => rw [hb] at hp; exact chk_ex ok p hp
end
noncomputable def h0S (c : Cfg) (len i : Nat) : Heap := let s := nthS c.sts i
  match isE s.nx with
  | true => hNo (facS c s)
  | false => if s.k < len then hEl s.k (lenF s.k false :: facS c s) else hNo (lenF s.k true :: facS c s)
noncomputable def canI (c : Cfg) (i : Nat) : Vx.Can := canS c.self (LV 0) (nthS c.sts i)
noncomputable def canP (c : Cfg) (len i : Nat) : Vx.Can := let s := nthS c.sts i
  match isE s.nx with
  | true => canI c i
  | false => if s.k < len then canS c.self (LV (Nat.succ s.k)) s else canI c i
noncomputable def gwI (c : Cfg) (i : Nat) : GWk := let s := nthS c.sts i
  match isE s.nx with
  | true => []
  | false => gwS s.k
theorem isE_nil {l : List Nat} (h : isE l = true) : l = [] := by
  cases l with
  | nil => rfl
  | cons => cases h
theorem regs_LV {E : Env} {self : AV} {s : St} {m : Nat} (hm : ∀ V, Rv E (LV 0) V → Rv E (LV m) V) (t : Nat) (V : Value) (r : Rv E (T.get .no (regsOf (canS self (LV 0) s).rs) t) V) : Rv E (T.get .no (regsOf (canS self (LV m) s).rs) t) V := by
  have e : ∀ m, regsOf (canS self (LV m) s).rs = T.set (LV m) (regsOf (canS self (LV 0) s).rs.tail) 4 := fun m => rfl
  rw [e] at r ⊢
  by_cases h4 : t = 4
  · subst h4
    have g : ∀ m, T.get .no (T.set (LV m) (regsOf (canS self (LV 0) s).rs.tail) 4) 4 = LV m := fun m => rfl
    rw [g] at r ⊢
    exact hm V r
  · rw [T.get_set_ne _ _ _ _ _ h4] at r ⊢
    exact r
theorem law_c {c : Cfg} (C : CfgOK c) {I : Inp} {L : Spot} {w : World} (B : Beg I L w) (hfs : Holds (E0 I L) c.fs) {K H : Value} (hK : Rv (E0 I L) c.kind K) (hH : Rv (E0 I L) c.hint H) :
    Calls P 3 #[K, H, .agg I.v.cells.toArray, .agg I.w.cells.toArray, .slice (some ⟨L.blk, L.base, none⟩) I.len I.cap] w fun e w' => e = .returned (.bool true) ∧ RowKit.Below w.heap.size w w' := by
  have td : ∀ i, Vx.Told (E0 I L) (needS c (nthS c.sts i)) := fun i => told_nd B.ok L (need_sym C.chk i)
  have rL : ∀ m, m ≤ I.len → Rv (E0 I L) (LV m) (.slice (some ⟨L.blk, L.base, none⟩) I.len I.cap) := fun m hm => by
    unfold LV
    rw [Rv]
    exact ⟨L, I.len, I.cap, (by unfold E0 addAt; rw [if_pos rfl]), den_len0 B.ok L, den_cap0 B.ok L, hm, B.ok.len, rfl⟩
  have ra : RvL (E0 I L) (argsC c (LV 0)) (#[K, H, .agg I.v.cells.toArray, .agg I.w.cells.toArray, .slice (some ⟨L.blk, L.base, none⟩) I.len I.cap] : Array Value).toList :=
    rvl_cons hK (rvl_cons hH (rvl_cons (by rw [Rv]; exact ⟨_, rfl, rv_vS B.ok.v (dens_v B.ok L)⟩) (rvl_cons (by rw [Rv]; exact ⟨_, rfl, rv_vS B.ok.w (dens_w B.ok L)⟩) (rvl_cons (rL 0 (Nat.zero_le _)) rvl_nil))))
  have fac : ∀ i E, (E0 I L).le E → Holds E (needS c (nthS c.sts i)) → Holds (E0 I L) (facS c (nthS c.sts i)) := fun i E hE hn =>
    holds_app (holds_app (told_holds hE (td i) hn) hfs) (holds_ans B.ok L _ (chk_st C.chk i).2.1)
  have lenN : ∀ k, den (E0 I L) (lenF k true).1 = some (.bool (decide ((I.len : Int) ≤ Int.ofNat k))) := fun k => fact_le (den_len0 B.ok L)
  have b0 := base_no B hfs
  refine lawG2 cE_ok DR_ok (calls := fun _ => cE) (draws := fun _ => DR) (fun _ => cE_ok) XT_ok (fun _ => DR_ok) Tryz.func3 hb hc hn (h0 := hNo c.fs) (h0s := h0S c I.len) (K := c.sts.length) (cans := canI c) (cans' := canP c I.len) (needs := fun i => needS c (nthS c.sts i)) (starts := [0]) (nexts := fun i => (nthS c.sts i).nx) (gws := gwI c) (m := 128) (F := 7)
    ra (by show 5 ≤ _; exact of_decide_eq_true (by kernel_rfl)) (by decide) b0.1 b0.2.1 b0.2.2 (fun i E hE hn => ?_) (fun i E hE => ?_) td (fun i E hE hn => ?_) (fun s hs => ?_) (fun i hi j hj => chk_up C.chk i hi j hj) C.fst (fun i hi _ => ?_)
  · have f := fac i E hE hn
    unfold h0S
    dsimp only
    split
    · exact base_no B f
    · rename_i he
      split
      · rename_i hk
        refine base_el B hk ((chk_st C.chk i).2.2 he) (holds_cons ((lenN _).trans ?_) f)
        rw [decide_eq_false (by have e : Int.ofNat (nthS c.sts i).k = ((nthS c.sts i).k : Int) := rfl; omega)]; rfl
      · rename_i hk
        refine base_no B (holds_cons ((lenN _).trans ?_) f)
        rw [decide_eq_true (by have e : Int.ofNat (nthS c.sts i).k = ((nthS c.sts i).k : Int) := rfl; omega)]; rfl
  · unfold gwI
    dsimp only
    split
    · exact gw_nil
    · rename_i he
      exact gw_ok B.ok hE ((chk_st C.chk i).2.2 he)
  · unfold canP
    dsimp only
    split
    · exact ⟨rfl, rfl, fun t V r => r⟩
    · split
      · rename_i hk
        refine ⟨rfl, rfl, fun t V r => regs_LV (fun V r => ?_) t V r⟩
        unfold LV at r ⊢
        rw [Rv] at r ⊢
        obtain ⟨M, n, cp, a1, a2, a3, _, a5, a6⟩ := r
        refine ⟨M, n, cp, a1, a2, a3, ?_, a5, a6⟩
        have hl := den_mono hE _ _ (den_len0 B.ok L)
        rw [a2] at hl
        have hl : (n : Int) = I.len := by injection hl with hl; injection hl
        show (nthS c.sts i).k + 1 ≤ n
        omega
      · exact ⟨rfl, rfl, fun t V r => r⟩
  · rcases List.mem_singleton.1 hs with rfl
    exact chk_pos C.chk
  · rcases C.rds i hi with ⟨he, hr⟩ | ⟨he, hp, hl⟩
    · have e1 : h0S c I.len i = hNo (facS c (nthS c.sts i)) := by unfold h0S; dsimp only; rw [he]
      have e2 : canP c I.len i = canI c i := by unfold canP; dsimp only; rw [he]
      have e3 : (nthS c.sts i).nx = [] := isE_nil he
      rw [e1, e2]
      have e4 : atAnyG 7 128 (gwI c i) (canI c) (fun i => needS c (nthS c.sts i)) (nthS c.sts i).nx = noK := by rw [e3]; rfl
      rw [e4]
      exact hr
    · have e5 : gwI c i = gwS (nthS c.sts i).k := by unfold gwI; dsimp only; rw [he]
      by_cases hk : (nthS c.sts i).k < I.len
      · have e1 : h0S c I.len i = hEl (nthS c.sts i).k (lenF (nthS c.sts i).k false :: facS c (nthS c.sts i)) := by unfold h0S; dsimp only; rw [he]; dsimp only; rw [if_pos hk]
        have e2 : canP c I.len i = canS c.self (LV (Nat.succ (nthS c.sts i).k)) (nthS c.sts i) := by unfold canP; dsimp only; rw [he]; dsimp only; rw [if_pos hk]
        rw [e1, e2, e5]
        exact hp
      · have e1 : h0S c I.len i = hNo (lenF (nthS c.sts i).k true :: facS c (nthS c.sts i)) := by unfold h0S; dsimp only; rw [he]; dsimp only; rw [if_neg hk]
        have e2 : canP c I.len i = canI c i := by unfold canP; dsimp only; rw [he]; dsimp only; rw [if_neg hk]
        rw [e1, e2, e5]
        exact hl
/-- no list is given -/
theorem law_n {c : Cfg} (C : CfgOK c) {I : Inp} {w : World} (ok : I.ok) (tab : ∃ arr el fr, w.heap[4]? = some (.cells arr el fr) ∧ arr.toList.take 20 = I.zs.map (Value.int .u64) ∧ arr.size = 20) (hfs : Holds (E1 I) c.fs) {K H : Value} (hK : Rv (E1 I) c.kind K) (hH : Rv (E1 I) c.hint H) (rv : RvL (E1 I) (vS 27) I.v.cells) (rw_ : RvL (E1 I) (vS 31) I.w.cells) (hs : 0 < w.heap.size) :
    Calls P 3 #[K, H, .agg I.v.cells.toArray, .agg I.w.cells.toArray, .slice none 0 0] w fun e w' => e = .returned (.bool true) ∧ RowKit.Below w.heap.size w w' := by
  have ra : RvL (E1 I) (argsC c .sn) (#[K, H, .agg I.v.cells.toArray, .agg I.w.cells.toArray, .slice none 0 0] : Array Value).toList :=
    rvl_cons hK (rvl_cons hH (rvl_cons (by rw [Rv]; exact ⟨_, rfl, rv⟩) (rvl_cons (by rw [Rv]; exact ⟨_, rfl, rw_⟩) (rvl_cons (by rw [Rv]) rvl_nil))))
  exact closedValG cE_ok (gl := GL) (n0 := 7) (Vs := I.vs) rfl rfl rfl (by rw [vs_len ok]) hfs ra C.nil w hs (tab_hw ok tab)
end Go.Proofs.YtaecedlhiclkdaaGreat.En
