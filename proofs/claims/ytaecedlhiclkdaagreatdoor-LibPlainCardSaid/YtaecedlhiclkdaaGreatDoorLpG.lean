/- LibPlain: what is given; a function by its name, as a contract. No condition. -/
import Derived.Test.YtaecedlhiclkdaaGreatDoorLpD
import Derived.WideShapes
namespace Go.Proofs.YtaecedlhiclkdaaGreatDoor.Lp
open Go Vx Con RowKit
set_option linter.unusedVariables false
set_option linter.constructorNameAsVariable false
set_option maxRecDepth 100000

theorem closedXH {P : Program} {call : CallF} (hc : CallOK P call) {E0 : Env} {h0 : Heap} {nn : Nat} {w : World} (hr : HR E0 h0 nn w) (nofp : ∀ b, ¬ fp E0 h0 b) {g : FuncId} {args : List AV} {ARGS : Array Value} {fin : AV → Heap → Bool} (ra : RvL E0 args ARGS.toList) (hp : ∀ v h, fin (.pk v) h = false)
    (he : call g args h0 nn (fun v h _ => fin v h) = true) : Calls P g ARGS w fun e w' => (∃ V v h' E', e = .returned V ∧ Rv E' v V ∧ Holds E' (factsOf h') ∧ fin v h' = true) ∧ Below w.heap.size w w' := by
  refine (hc g args ARGS _ _ _ w _ he ra hr).mono ?_
  rintro e w' (⟨V, rfl, v, h', nxt', E', rv, hr', gs, hk⟩ | ⟨V, rfl, v, h', nxt', E', rv, _, gs, hk⟩)
  · exact ⟨⟨V, v, h', E', rfl, rv, factsOf_ok hr', hk⟩, below_of gs nofp⟩
  · have hk : fin (.pk v) h' = true := hk
    rw [hp] at hk; cases hk
theorem facts_ok {E : Env} {h : Heap} {n : Nat} {w : World} {fs : Facts} (e : T.get .gone h fplace = .gone) (e2 : Nat.ble (flr h) fplace = true) (hr : HR E h n w) (hf : Holds E fs) : HR E (T.set (.facts fs) h fplace) n w ∧ Fk h (T.set (.facts fs) h fplace) := by
  have he : setF fs h (fun h' => @decide (h' = T.set (.facts fs) h fplace) (Classical.propDecidable _)) = true := by
    unfold setF
    rw [e]
    show bc (Nat.ble (flr h) fplace) (T.setK (.facts fs) h fplace _) false = true
    rw [e2, T.setK_eq]
    exact @decide_eq_true _ (Classical.propDecidable _) rfl
  obtain ⟨h1, k1, hr1, fk⟩ := setF_ok he hr hf
  obtain rfl := @of_decide_eq_true _ (Classical.propDecidable _) k1
  exact ⟨hr1, fk⟩
theorem start_fp {E : Env} {h : Heap} (hfl : flr h = 7) (hl : ∀ i, 7 ≤ i → (T.get .gone h i).live = false) (b : Nat) : ¬ fp E h b := by
  rintro ⟨i, L, a1, a2, _, _⟩
  rw [hfl] at a1
  rw [hl i a1] at a2; cases a2
theorem wrLs_rv {E : Env} {g : Nat → Value} : ∀ (l : List AV) (c : T AV) (off : Nat), (∀ i a, l[i]? = some a → Rv E a (g (off + i))) → (∀ j, Rv E (T.get .no c j) (g j)) → ∀ j, Rv E (T.get .no (wrLs l c off) j) (g j)
  | [], c, off, _, hc, j => hc j
  | v :: l, c, off, h, hc, j => by
    show Rv E (T.get .no (wrLs l (T.set v c off) (off + 1)) j) (g j)
    refine wrLs_rv l _ _ (fun i a hi => ?_) (fun i => ?_) j
    · rw [show off + 1 + i = off + (i + 1) from by omega]
      exact h (i + 1) a hi
    · by_cases e : i = off
      · subst e
        rcases T.get_set_eq AV.no v c i with q | q <;> rw [q]
        · exact h 0 v rfl
        · simp [Rv]
      · rw [T.get_set_ne _ _ _ _ _ e]; exact hc i
theorem rvl_at {E : Env} : ∀ {l : List AV} {vs : List Value}, RvL E l vs → ∀ (i : Nat) (a : AV), l[i]? = some a → ∃ V, vs[i]? = some V ∧ Rv E a V
  | [], _, _, i, a, h => by cases h
  | v :: l, vs, r, i, a, h => by
    rw [RvL] at r
    obtain ⟨V, vs', rfl, r1, r2⟩ := r
    cases i with
    | zero => cases h; exact ⟨V, rfl, r1⟩
    | succ i => exact rvl_at r2 i a h
/-! ### What is given -/
structure Inp where
  zs : List Int
  M : Nat
  C : Nat
  v : V4
  nm : ByteArray
  m : Nat
  g : Nat → Value
  Q : Spot
def Inp.front (I : Inp) : List Value := [.int .i64 I.M, .int .i64 I.C, .int .u8 I.v.k, .float .f64 I.v.x, .string I.v.s, .int .i64 I.v.r, .string I.nm, .int .i64 0, .int .i64 0]
def Inp.rest (I : Inp) : List Value := (List.range 256).map fun i => if i < 4 * I.m then I.g i else .int .i64 0
def Inp.vs (I : Inp) : List Value := I.zs.map (Value.int .u64) ++ (I.front ++ I.rest)
structure Inp.ok (I : Inp) : Prop where
  zlen : I.zs.length = 20
  zok : ∀ z ∈ I.zs, 0 ≤ z ∧ z ≤ 18446744073709551615
  v : I.v.ok
  nm : (I.nm.size : Int) ≤ 9223372036854775807
  hM : I.M ≤ 9223372036854775807
noncomputable def E1 (I : Inp) : Env := symEV GB7 7 I.vs
noncomputable def E0 (I : Inp) (L : Spot) : Env := addAt (addAt (E1 I) 6 L) 5 I.Q
theorem vs_len {I : Inp} (h : I.ok) : I.vs.length = 285 := by
  unfold Inp.vs Inp.rest
  rw [List.length_append, List.length_append, List.length_map, List.length_map, List.length_range, h.zlen]; rfl
theorem E1_six (I : Inp) : E1 I 6 = none := rfl
theorem le_E0 {I : Inp} {L : Spot} : (E1 I).le (E0 I L) := Env.le_trans (le_addAt (E1_six I)) (le_addAt rfl)
theorem six_E0 {I : Inp} {L : Spot} : E0 I L 6 = some L := rfl
theorem five_E0 {I : Inp} {L : Spot} : E0 I L 5 = some I.Q := rfl
theorem den_g {I : Inp} (h : I.ok) (L : Spot) (i : Nat) {V : Value} (hi : I.front[i]? = some V) (ok : symOK V) : den (E0 I L) (.sy (27 + i)) = some V := by
  have := den_sym (gl := GB7) (n0 := 7) (Vs := I.vs) (20 + i) (V := V) (by
    unfold Inp.vs
    rw [List.getElem?_append_right (by rw [List.length_map, h.zlen]; omega), List.length_map, h.zlen, Nat.add_sub_cancel_left, List.getElem?_append_left (List.getElem?_eq_some_iff.1 hi).1]; exact hi) ok
  rw [show 7 + (20 + i) = 27 + i from by omega] at this
  exact den_mono le_E0 _ _ this
theorem den_a {I : Inp} (h : I.ok) (L : Spot) (i : Nat) (hi : i < 4 * I.m) (h2 : i < 256) (ok : symOK (I.g i)) : den (E0 I L) (.sy (36 + i)) = some (I.g i) := by
  have hl : I.front.length = 9 := rfl
  have := den_sym (gl := GB7) (n0 := 7) (Vs := I.vs) (29 + i) (V := I.g i) (by
    unfold Inp.vs Inp.rest
    rw [List.getElem?_append_right (by rw [List.length_map, h.zlen]; omega), List.length_map, h.zlen, show 29 + i - 20 = 9 + i from by omega, List.getElem?_append_right (by rw [hl]; omega), hl, Nat.add_sub_cancel_left, List.getElem?_map, List.getElem?_range h2]
    show some (if i < 4 * I.m then I.g i else .int .i64 0) = some (I.g i)
    rw [if_pos hi]) ok
  rw [show 7 + (29 + i) = 36 + i from by omega] at this
  exact den_mono le_E0 _ _ this
theorem den_M {I : Inp} (h : I.ok) (L : Spot) : den (E0 I L) (.sy 27) = some (.int .i64 I.M) := den_g h L 0 rfl (sok_i _ _)
theorem den_C {I : Inp} (h : I.ok) (L : Spot) : den (E0 I L) (.sy 28) = some (.int .i64 I.C) := den_g h L 1 rfl (sok_i _ _)
theorem dens_v {I : Inp} (h : I.ok) (L : Spot) : Dens (E0 I L) 29 I.v := ⟨den_g h L 2 rfl (sok_i _ _), den_g h L 3 rfl (sok_f _), den_g h L 4 rfl (sok_s _), den_g h L 5 rfl (sok_i _ _)⟩
theorem den_nm {I : Inp} (h : I.ok) (L : Spot) : den (E0 I L) (.sy 33) = some (.string I.nm) := den_g h L 6 rfl (sok_s _)
/-- the table and the greatest length, whatever they are -/
structure Laid (I : Inp) (w : World) : Prop where
  tab : ∃ arr el fr, w.heap[2]? = some (.cells arr el fr) ∧ arr.toList.take 20 = I.zs.map (Value.int .u64)
  mx : HoldsG w [(1, [.ii .i64])]
  hq : I.Q.blk < w.heap.size
theorem tab_hw {I : Inp} {w : World} (h : I.ok) (T : Laid I w) : ∀ p ∈ GB7, ∃ arr el fr, w.heap[p.1]? = some (.cells arr el fr) ∧ RvL (E1 I) p.2 (arr.toList.take p.2.length) := by
  intro p hp
  have hp : p = (2, tabAVs 20 7) ∨ p = (1, [.ii .i64]) := by simpa [GB7] using hp
  rcases hp with rfl | rfl
  · obtain ⟨arr, el, fr, h1, h2⟩ := T.tab
    refine ⟨arr, el, fr, h1, ?_⟩
    have hl : (tabAVs 20 7).length = 20 := rfl
    show RvL _ (tabAVs 20 7) (arr.toList.take (tabAVs 20 7).length)
    rw [hl, h2]
    refine tab_rv (gl := GB7) (n0 := 7) 20 0 I.zs h.zlen (fun i z hz => ?_) h.zok
    unfold Inp.vs
    rw [Nat.zero_add, List.getElem?_append_left (by rw [List.length_map]; exact (List.getElem?_eq_some_iff.1 hz).1), List.getElem?_map, hz]
    rfl
  · obtain ⟨arr, el, fr, h1, h2⟩ := T.mx _ List.mem_cons_self
    exact ⟨arr, el, fr, h1, h2 _⟩
theorem start_live (i : Nat) (h2 : i ≠ 3) (h3 : i ≠ 2) : (T.get .gone (startH GB7 7) i).live = false := by
  cases i with
  | zero => rw [startH_zero]; rfl
  | succ i =>
    rcases startH_get GB7 7 i with h | ⟨p, hp, e, h⟩
    · rw [h]; rfl
    · have hp : p = (2, tabAVs 20 7) ∨ p = (1, [.ii .i64]) := by simpa [GB7] using hp
      rcases hp with rfl | rfl <;> (dsimp only at e; omega)
theorem start_flr : flr (startH GB7 7) = 7 := by unfold flr; rw [startH_zero]
/-- arguments that are given -/
structure ArgsW (I : Inp) (w : World) (L : Spot) (a : Nat → V4) : Prop where
  blk : L.blk < w.heap.size
  n2 : L.blk ≠ 2
  n1 : L.blk ≠ 1
  ok : ∀ k, k < I.m → (a k).ok
  row : ∃ arr el fr, w.heap[L.blk]? = some (.cells arr el fr) ∧ L.base + 4 * I.m ≤ arr.size ∧ (∀ j, j < 4 * I.m → I.g j = arr.getD (L.base + j) undef) ∧ ∀ k, k < I.m → ∀ i V, (a k).cells[i]? = some V → I.g (4 * k + i) = V
section
variable {I : Inp} {L : Spot} {w : World} {a : Nat → V4} (h : I.ok) (TL : Laid I w)
include h
theorem dens_arg (A : ArgsW I w L a) {k : Nat} (hk : k < I.m) (h64 : k < 64) : Dens (E0 I L) (aN k) (a k) := by
  obtain ⟨arr, el, fr, _, _, _, hc⟩ := A.row
  have d := fun i (hi : i < 4) {V} (e : I.g (4 * k + i) = V) (ok : symOK V) => (by
    have := den_a h L (4 * k + i) (by omega) (by omega) (by rw [e]; exact ok)
    rw [e] at this
    exact this : den (E0 I L) (.sy (36 + (4 * k + i))) = some V)
  have s : ∀ i, 36 + (4 * k + i) = 36 + 4 * k + i := fun i => by omega
  have f0 := d 0 (by decide) (hc k hk 0 _ rfl) (sok_i _ _)
  have f1 := d 1 (by decide) (hc k hk 1 _ rfl) (sok_f _)
  have f2 := d 2 (by decide) (hc k hk 2 _ rfl) (sok_s _)
  have f3 := d 3 (by decide) (hc k hk 3 _ rfl) (sok_i _ _)
  rw [s] at f0 f1 f2 f3
  exact ⟨f0, f1, f2, f3⟩
include TL
theorem baseG0 (hL : L.blk < w.heap.size) : HR (E0 I L) (startH GB7 7) 292 w := by
  have hs : 0 < w.heap.size := by omega
  have hr := symG_ok (m := 285) (Ls := I.vs.map spotOf) (gl := GB7) (n0 := 7) (w := w) rfl rfl rfl (tab_hw h TL) (by rw [List.length_map, vs_len h]) (fun X hX => by obtain ⟨V, _, rfl⟩ := List.mem_map.1 hX; exact spot_blk V) hs
  exact HR.addAt (HR.addAt hr (by decide) (E1_six I) (start_live 6 (by decide) (by decide)) hL) (by decide) rfl (start_live 5 (by decide) (by decide)) TL.hq
theorem baseG (hL : L.blk < w.heap.size) {fs : Facts} (hf : Holds (E0 I L) fs) : HR (E0 I L) (hB fs) 292 w ∧ (∀ b, ¬ fp (E0 I L) (hB fs) b) ∧ flr (hB fs) = 7 := by
  obtain ⟨q1, fk⟩ := facts_ok (by kernel_rfl) (by kernel_rfl) (baseG0 h TL hL) hf
  have hfl : flr (hB fs) = 7 := fk.flr.trans start_flr
  exact ⟨q1, start_fp hfl fun i hi => by rw [show (T.get .gone (hB fs) i).live = _ from fk.live i]; exact start_live i (by omega) (by omega), hfl⟩
/-- a row at its place, and what is known -/
theorem baseRow (A : ArgsW I w L a) {m : Nat} {c : Vx.T AV} (hm : m ≤ 4 * I.m) (hc : ∀ j, j < m → Rv (E0 I L) (T.get .no c j) (I.g j)) {fs : Facts} (hf : Holds (E0 I L) fs) :
    HR (E0 I L) (T.set (.facts fs) (T.set (.glob 1000000 m c) (startH GB7 7) 6) fplace) 292 w ∧ (∀ b, ¬ fp (E0 I L) (T.set (.facts fs) (T.set (.glob 1000000 m c) (startH GB7 7) 6) fplace) b) ∧ flr (T.set (.facts fs) (T.set (.glob 1000000 m c) (startH GB7 7) 6) fplace) = 7 := by
  obtain ⟨arr, el, fr, hb, hsz, hg, _⟩ := A.row
  obtain ⟨g1, g2⟩ := HR.setGlob (baseG0 h TL A.blk) (i := 6) (g := 1000000) (m := m) (c := c) (L := L) (by decide) (by decide) (by rw [start_flr]; decide) six_E0 hb (by omega)
    (fun j hj => by rw [← hg j (by omega)]; exact hc j hj)
    (fun j Y _ hl hY e => by
      by_cases j2 : j = 3
      · subst j2
        have e5 : E0 I L 3 = some ⟨2, 0, 0⟩ := rfl
        rw [e5] at hY
        cases hY
        exact A.n2 e.symm
      · by_cases j3 : j = 2
        · subst j3
          have e5 : E0 I L 2 = some ⟨1, 0, 0⟩ := rfl
          rw [e5] at hY
          cases hY
          exact A.n1 e.symm
        · rw [start_live j j2 j3] at hl; cases hl) (TypB.of_small (by decide))
  rw [start_flr] at g2
  obtain ⟨q1, fk⟩ := facts_ok (h := T.set (.glob 1000000 m c) (startH GB7 7) 6) (by rw [T.get_set_ne _ _ _ _ _ (by decide)]; kernel_rfl) (by rw [g2]; kernel_rfl) g1 hf
  have hfl : flr (T.set (.facts fs) (T.set (.glob 1000000 m c) (startH GB7 7) 6) fplace) = 7 := fk.flr.trans g2
  refine ⟨q1, start_fp hfl fun i hi => ?_, hfl⟩
  rw [show (T.get .gone (T.set (.facts fs) (T.set (.glob 1000000 m c) (startH GB7 7) 6) fplace) i).live = _ from fk.live i, T.get_set_ne _ _ _ _ _ (by omega)]
  exact start_live i (by omega) (by omega)
omit TL
theorem rv_arg (A : ArgsW I w L a) {k : Nat} (hk : k < I.m) (h64 : k < 64) : ∀ i x, (vS (aN k))[i]? = some x → Rv (E0 I L) x (I.g (4 * k + i)) := fun i x hi => by
  obtain ⟨arr, el, fr, _, _, _, hc⟩ := A.row
  obtain ⟨V, hV, r⟩ := rvl_at (rv_vS (A.ok k hk) (dens_arg h A hk h64)) i x hi
  rw [hc k hk i V hV]; exact r
omit h
theorem argCells_len : ∀ n : Nat, (argCells n).length = 4 * n
  | 0 => rfl
  | n + 1 => by
    show (argCells n ++ vS (aN n)).length = _
    rw [List.length_append, argCells_len n]; rfl
include h
theorem rv_args (A : ArgsW I w L a) : ∀ n : Nat, n ≤ I.m → n ≤ 64 → ∀ i x, (argCells n)[i]? = some x → Rv (E0 I L) x (I.g i)
  | 0, _, _, i, x, h => by cases h
  | n + 1, h1, h2, i, x, hx => by
    have hx : (argCells n ++ vS (aN n))[i]? = some x := hx
    rcases Nat.lt_or_ge i (4 * n) with hi | hi
    · rw [List.getElem?_append_left (by rw [argCells_len]; exact hi)] at hx
      exact rv_args A n (by omega) (by omega) i x hx
    · rw [List.getElem?_append_right (by rw [argCells_len]; exact hi), argCells_len] at hx
      have := rv_arg h A (k := n) (by omega) (by omega) _ x hx
      rw [show 4 * n + (i - 4 * n) = i from by omega] at this
      exact this
include TL
theorem baseAll (A : ArgsW I w L a) {n : Nat} (hn : n ≤ I.m) (h64 : n ≤ 64) {fs : Facts} (hf : Holds (E0 I L) fs) : HR (E0 I L) (hA n fs) 292 w ∧ (∀ b, ¬ fp (E0 I L) (hA n fs) b) ∧ flr (hA n fs) = 7 :=
  baseRow h TL A (m := 4 * n) (c := wrLs (argCells n) big 0) (by omega) (fun j hj => wrLs_rv (g := I.g) _ _ _ (fun i x hi => by rw [Nat.zero_add]; exact rv_args h A n hn h64 i x hi) (fun i => by unfold big; rw [T.get_full]; simp [Rv]) j) hf
end
/-! ### A function by its name -/
def nmS (i : Nat) : ByteArray := match i with
  | 0 => str 13 9616766067279225029427490615873
  | 1 => str 20 596309856174260634316825556499271401688676856385
  | 2 => str 7 31069335677005634
  | 3 => str 26 166207685304630610174564835826932801060412937484197273394966338
  | 4 => str 25 642211169184493263152962095210280038101036097405936552865602
  | 5 => str 24 2536128010629739535134351132613110367743117332234781225541
  | 6 => str 6 125779768603982
  | 7 => str 25 649248770721213320994393889948956254142238037052060775314766
  | 8 => str 24 2508637379626926809191258184415156398832172259907115775310
  | 9 => str 31 214592181531126938265813067436895272602359618957174226357437134853129265743
  | 10 => str 25 649248770721213320994393889948956254142238037054251258765903
  | 11 => str 24 2508637379626926809191258184415156398832172262097599226447
  | 12 => str 6 113723913172051
  | 13 => str 24 2508644464941481440469878704902993814576718591222950818899
  | 14 => str 22 37933876859468703893492994087692075084804967040709715
  | 15 => str 25 649248770721213320994393889948956254142238037040004919882835
  | 16 => str 24 2508637379626926809191258184415156398832172247851260343379
  | 17 => str 25 649248770721213320994393889948956254142238037045506655222099
  | _ => str 24 2508637379626926809191258184415156398832172253352995682643
theorem nm_rv (E : Env) : ∀ i, i < 19 → Rv E (nmD i) (.string (nmS i))
  | 0, _ => by show Rv E (.s 13 9616766067279225029427490615873) (.string (str 13 9616766067279225029427490615873)); rw [Rv]
  | 1, _ => by show Rv E (.s 20 596309856174260634316825556499271401688676856385) (.string (str 20 596309856174260634316825556499271401688676856385)); rw [Rv]
  | 2, _ => by show Rv E (.s 7 31069335677005634) (.string (str 7 31069335677005634)); rw [Rv]
  | 3, _ => by show Rv E (.s 26 166207685304630610174564835826932801060412937484197273394966338) (.string (str 26 166207685304630610174564835826932801060412937484197273394966338)); rw [Rv]
  | 4, _ => by show Rv E (.s 25 642211169184493263152962095210280038101036097405936552865602) (.string (str 25 642211169184493263152962095210280038101036097405936552865602)); rw [Rv]
  | 5, _ => by show Rv E (.s 24 2536128010629739535134351132613110367743117332234781225541) (.string (str 24 2536128010629739535134351132613110367743117332234781225541)); rw [Rv]
  | 6, _ => by show Rv E (.s 6 125779768603982) (.string (str 6 125779768603982)); rw [Rv]
  | 7, _ => by show Rv E (.s 25 649248770721213320994393889948956254142238037052060775314766) (.string (str 25 649248770721213320994393889948956254142238037052060775314766)); rw [Rv]
  | 8, _ => by show Rv E (.s 24 2508637379626926809191258184415156398832172259907115775310) (.string (str 24 2508637379626926809191258184415156398832172259907115775310)); rw [Rv]
  | 9, _ => by show Rv E (.s 31 214592181531126938265813067436895272602359618957174226357437134853129265743) (.string (str 31 214592181531126938265813067436895272602359618957174226357437134853129265743)); rw [Rv]
  | 10, _ => by show Rv E (.s 25 649248770721213320994393889948956254142238037054251258765903) (.string (str 25 649248770721213320994393889948956254142238037054251258765903)); rw [Rv]
  | 11, _ => by show Rv E (.s 24 2508637379626926809191258184415156398832172262097599226447) (.string (str 24 2508637379626926809191258184415156398832172262097599226447)); rw [Rv]
  | 12, _ => by show Rv E (.s 6 113723913172051) (.string (str 6 113723913172051)); rw [Rv]
  | 13, _ => by show Rv E (.s 24 2508644464941481440469878704902993814576718591222950818899) (.string (str 24 2508644464941481440469878704902993814576718591222950818899)); rw [Rv]
  | 14, _ => by show Rv E (.s 22 37933876859468703893492994087692075084804967040709715) (.string (str 22 37933876859468703893492994087692075084804967040709715)); rw [Rv]
  | 15, _ => by show Rv E (.s 25 649248770721213320994393889948956254142238037040004919882835) (.string (str 25 649248770721213320994393889948956254142238037040004919882835)); rw [Rv]
  | 16, _ => by show Rv E (.s 24 2508637379626926809191258184415156398832172247851260343379) (.string (str 24 2508637379626926809191258184415156398832172247851260343379)); rw [Rv]
  | 17, _ => by show Rv E (.s 25 649248770721213320994393889948956254142238037045506655222099) (.string (str 25 649248770721213320994393889948956254142238037045506655222099)); rw [Rv]
  | 18, _ => by show Rv E (.s 24 2508637379626926809191258184415156398832172253352995682643) (.string (str 24 2508637379626926809191258184415156398832172253352995682643)); rw [Rv]
  | _ + 19, h => absurd h (by omega)
theorem ne_str {E : Env} {e : SE} {l x : Nat} {s : ByteArray} (d : den E e = some (.string s)) (h : s ≠ str l x) : den E (.cmp .eql e (.ls l x)) = some (.bool false) := by
  have hne : (s.toList == (str l x).toList) = false := by
    rw [beq_eq_false_iff_ne]
    intro e
    rw [ByteArray.toList_eq, ByteArray.toList_eq] at e
    exact h (Go.WideShapes.bytes_inj e)
  simp only [den, d, cmpV, cmpS, Option.map_some, hne]
theorem str_ne {E : Env} {e : SE} {l x : Nat} {s : ByteArray} {fs : Facts} (hf : Holds E fs) (d : den E e = some (.string s)) (h : Nat.ble 2 (decX fs (.cmp .eql e (.ls l x))) = true) : s ≠ str l x := by
  rintro rfl
  have d2 : den E (.cmp .eql e (.ls l x)) = some (.bool true) := by simp only [den, d, cmpV, cmpS, Option.map_some]; simp
  have := (decX_ok hf d2).2 (Nat.le_of_ble_eq_true h)
  cases this
noncomputable def notW (fs : Facts) (e : SE) : Bool := bc (Nat.ble 2 (decX fs (.cmp .eql e (.ls 5 500068610672)))) (bc (Nat.ble 2 (decX fs (.cmp .eql e (.ls 6 119225648511315)))) (bc (Nat.ble 2 (decX fs (.cmp .eql e (.ls 5 491496043077)))) (bc (Nat.ble 2 (decX fs (.cmp .eql e (.ls 9 2110959431130824079700)))) (bc (Nat.ble 2 (decX fs (.cmp .eql e (.ls 10 540405614369490812690770)))) (bc (Nat.ble 2 (decX fs (.cmp .eql e (.ls 14 2321024440291750412453479946020178)))) (bc (Nat.ble 2 (decX fs (.cmp .eql e (.ls 23 10384894829997252900022282660548305127664314741467018566)))) (Nat.ble 2 (decX fs (.cmp .eql e (.ls 24 2977297780435141287948266461803621789076004716711771010374)))) false) false) false) false) false) false) false
/-- what a name is not -/
def NotW (s : ByteArray) : Prop := s ≠ str 5 500068610672 ∧ s ≠ str 6 119225648511315 ∧ s ≠ str 5 491496043077 ∧ s ≠ str 9 2110959431130824079700 ∧ s ≠ str 10 540405614369490812690770 ∧ s ≠ str 14 2321024440291750412453479946020178 ∧ s ≠ str 23 10384894829997252900022282660548305127664314741467018566 ∧ s ≠ str 24 2977297780435141287948266461803621789076004716711771010374
theorem notW_ok {E : Env} {fs : Facts} {e : SE} {s : ByteArray} (hf : Holds E fs) (d : den E e = some (.string s)) (h : notW fs e = true) : NotW s := by
  unfold notW at h
  obtain ⟨h0, h⟩ := bc_and h
  obtain ⟨h1, h⟩ := bc_and h
  obtain ⟨h2, h⟩ := bc_and h
  obtain ⟨h3, h⟩ := bc_and h
  obtain ⟨h4, h⟩ := bc_and h
  obtain ⟨h5, h⟩ := bc_and h
  obtain ⟨h6, h⟩ := bc_and h
  exact ⟨str_ne hf d h0, str_ne hf d h1, str_ne hf d h2, str_ne hf d h3, str_ne hf d h4, str_ne hf d h5, str_ne hf d h6, str_ne hf d h⟩
/-- the answers -/
structure DoesOK : Prop where
  run : ∀ c i, c < 66 → i ≤ 19 → doR c i = true
theorem plain_ok {E : Env} {n : Nat} {v : V4} (d : Dens E n v) (hm : v.may = true) (h5 : v.k ≤ 5) : Holds E (plainF n) := by
  have hm' := hm
  unfold V4.may mayV at hm'
  simp only [Bool.and_eq_true, decide_eq_true_eq] at hm'
  exact holds_cons ((den_mA d).trans (by rw [hm])) (holds_cons ((fact_le d.1).trans (by rw [decide_eq_true h5])) (holds_cons ((fact_le (den_len d.2.2.1)).trans (by rw [decide_eq_true hm'.1.2])) holds_nil))
theorem doRun (R : DoesOK) {w : World} {pV SLv : Value} {u : V4} {nm : ByteArray} {c : Nat} (hc : c < 66) (nw : NotW nm) (um : u.may = true) (u5 : u.k ≤ 5) {I : Inp} {L : Spot} (h : I.ok) (Iv : I.v = u) (In : I.nm = nm) (hp : pV = .pointer (some ⟨I.Q.blk, I.Q.base, none⟩))
    (rs : Rv (E0 I L) (slD c) SLv) (hbase : ∀ fs, Holds (E0 I L) fs → ∀ i, fs = fN i ++ plainF 29 → HR (E0 I L) (hD c i) 292 w ∧ (∀ b, ¬ fp (E0 I L) (hD c i) b)) :
    Calls P 30 #[.agg #[pV, .int .u8 u.k, .float .f64 u.x, .string u.s, .int .i64 u.r, SLv], .string nm] w fun e w' => (∃ V, e = .returned V ∧ OutOK [0] V) ∧ Below w.heap.size w w' := by
  subst Iv In
  have dv := dens_v h L
  have pl := plain_ok dv um u5
  have go : ∀ i, i ≤ 19 → Rv (E0 I L) (nmD i) (.string I.nm) → Holds (E0 I L) (fN i) → Calls P 30 #[.agg #[pV, .int .u8 I.v.k, .float .f64 I.v.x, .string I.v.s, .int .i64 I.v.r, SLv], .string I.nm] w fun e w' => (∃ V, e = .returned V ∧ OutOK [0] V) ∧ Below w.heap.size w w' := fun i hi rn hf => by
    obtain ⟨hr, nofp⟩ := hbase _ (holds_app hf pl) i rfl
    have one : ∀ a : AV, Rv (E0 I L) a (.int .u8 I.v.k) → doK c i a = true → Calls P 30 #[.agg #[pV, .int .u8 I.v.k, .float .f64 I.v.x, .string I.v.s, .int .i64 I.v.r, SLv], .string I.nm] w fun e w' => (∃ V, e = .returned V ∧ OutOK [0] V) ∧ Below w.heap.size w w' := fun a hra hrun => by
      refine (closedXH cD_ok hr nofp (args := [.ag [.p 5 0, a, .x .f (.sy 30), .x .s (.sy 31), .x (.i .i64) (.sy 32), slD c], nmD i]) (fin := fun v h => finO [0] v h) ?_ (fun _ _ => rfl) hrun).mono ?_
      · refine rvl_cons ?_ (rvl_cons rn rvl_nil)
        rw [Rv]
        refine ⟨_, rfl, rvl_cons (by rw [Rv]; exact ⟨_, five_E0, hp⟩) (rvl_cons hra ?_)⟩
        have rv := rv_vS h.v dv
        unfold vS at rv
        simp only [RvL, V4.cells] at rv
        obtain ⟨_, _, e1, _, B, _, rfl, rB, C, _, rfl, rC, D, _, rfl, rD, rfl⟩ := rv
        injection e1 with _ e1
        injection e1 with e2 e1
        injection e1 with e3 e1
        injection e1 with e4 _
        subst e2 e3 e4
        exact rvl_cons rB (rvl_cons rC (rvl_cons rD (rvl_cons rs rvl_nil)))
      · rintro e w' ⟨⟨V, v, h', E', rfl, rv, hf, hk⟩, hb⟩
        exact ⟨⟨V, rfl, finO_ok hf hk rv⟩, hb⟩
    have hrun := R.run c i hc hi
    by_cases h10 : i = 10
    · subst h10
      have hrun : ((List.range 6).all fun k => doK c 10 (.i .u8 (Int.ofNat k))) = true := hrun
      have k0 : 0 ≤ I.v.k := h.v.1.1
      refine one (.i .u8 (Int.ofNat I.v.k.toNat)) ?_ (List.all_eq_true.1 hrun I.v.k.toNat (List.mem_range.2 (by omega)))
      rw [Rv]
      congr 1
      show I.v.k = ((I.v.k.toNat : Nat) : Int)
      omega
    · refine one (.x (.i .u8) (.sy 29)) ?_ ?_
      · rw [Rv]
        exact ⟨dv.1, _, rfl, h.v.1⟩
      · unfold doR at hrun
        split at hrun
        · exact absurd rfl h10
        · exact hrun
  by_cases hx : ∃ i, i < 19 ∧ I.nm = nmS i
  · obtain ⟨i, hi, e⟩ := hx
    refine go i (by omega) (by rw [e]; exact nm_rv _ i hi) ?_
    unfold fN
    rw [show Nat.ble 19 i = false from by rw [Bool.eq_false_iff]; intro hh; have := Nat.le_of_ble_eq_true hh; omega]
    exact holds_nil
  · refine go 19 (Nat.le_refl _) (by show Rv _ (.x .s (.sy 33)) _; rw [Rv]; exact ⟨den_nm h L, _, rfl, h.nm⟩) ?_
    show Holds _ nameF
    have dn := den_nm h L
    obtain ⟨w0, w1, w2, w3, w4, w5, w6, w7⟩ := nw
    have no : ∀ i, i < 19 → I.nm ≠ nmS i := fun i hi e => hx ⟨i, hi, e⟩
    exact holds_cons (ne_str dn w0) (holds_cons (ne_str dn w1) (holds_cons (ne_str dn w2) (holds_cons (ne_str dn w3) (holds_cons (ne_str dn w4) (holds_cons (ne_str dn w5) (holds_cons (ne_str dn w6) (holds_cons (ne_str dn w7) (holds_cons (ne_str dn (no 0 (by decide))) (holds_cons (ne_str dn (no 1 (by decide))) (holds_cons (ne_str dn (no 2 (by decide))) (holds_cons (ne_str dn (no 3 (by decide))) (holds_cons (ne_str dn (no 4 (by decide))) (holds_cons (ne_str dn (no 5 (by decide))) (holds_cons (ne_str dn (no 6 (by decide))) (holds_cons (ne_str dn (no 7 (by decide))) (holds_cons (ne_str dn (no 8 (by decide))) (holds_cons (ne_str dn (no 9 (by decide))) (holds_cons (ne_str dn (no 10 (by decide))) (holds_cons (ne_str dn (no 11 (by decide))) (holds_cons (ne_str dn (no 12 (by decide))) (holds_cons (ne_str dn (no 13 (by decide))) (holds_cons (ne_str dn (no 14 (by decide))) (holds_cons (ne_str dn (no 15 (by decide))) (holds_cons (ne_str dn (no 16 (by decide))) (holds_cons (ne_str dn (no 17 (by decide))) (holds_cons (ne_str dn (no 18 (by decide))) (holds_nil)))))))))))))))))))))))))))
noncomputable def fourK (fs : Facts) (c1 c2 c3 c4 : AV) (k : Bool) : Bool := asI .u8 c1 fun a => asF c2 fun b => asS c3 fun c => asI .i64 c4 fun d => bc (mVal fs a b c d) k false
theorem fourK_ok {E : Env} {fs : Facts} {c1 c2 c3 c4 : AV} {V1 V2 V3 V4' : Value} {k : Bool} (hf : Holds E fs) (he : fourK fs c1 c2 c3 c4 k = true) (r1 : Rv E c1 V1) (r2 : Rv E c2 V2) (r3 : Rv E c3 V3) (r4 : Rv E c4 V4') :
    ∃ u : V4, u.ok ∧ u.may = true ∧ u.k ≤ 5 ∧ V1 = .int .u8 u.k ∧ V2 = .float .f64 u.x ∧ V3 = .string u.s ∧ V4' = .int .i64 u.r ∧ k = true := by
  unfold fourK at he
  obtain ⟨a, m, rfl, m1, m2, da, he⟩ := asI_ok he r1
  obtain ⟨b, x, rfl, hx, db, he⟩ := asF_ok he r2
  obtain ⟨c, s, rfl, hs, dc, he⟩ := asS_ok he r3
  obtain ⟨d, z, rfl, z1, z2, dd, he⟩ := asI_ok he r4
  obtain ⟨hm, he⟩ := bc_and he
  obtain ⟨hm, h5⟩ := mVal_ok hf da db dc dd hm
  exact ⟨⟨m, x, s, z⟩, ⟨⟨m1, m2⟩, hx, hs, z1, z2⟩, hm, h5, rfl, rfl, rfl, rfl, he⟩
/-- the function's own arguments -/
noncomputable def ownK (h : Heap) (sl : AV) : Bool := match sl with
  | .sn => true
  | .sl _ _ 0 _ => true
  | .so id 0 n _ => (match T.get .gone h id with
    | .cells m _ c => bc (bc (Nat.ble (Nat.mul 4 n) m) (Nat.ble n 64) false) (bc (Nat.ble 1 n) (fourK (factsOf h) (c.get 0) (c.get 1) (c.get 2) (c.get 3) (bc (Nat.ble 2 n) (fourK (factsOf h) (c.get 4) (c.get 5) (c.get 6) (c.get 7) true) true)) false) false
    | _ => false)
  | _ => false
noncomputable def preD (args : List AV) (h : Heap) : Bool := match args with
  | [.ag [.p _ _, c1, c2, c3, c4, sl], nm] => bc (hasTab 2 h) (someInt h 1 (fourK (factsOf h) c1 c2 c3 c4 (asS nm fun e => bc (notW (factsOf h) e) (ownK h sl) false))) false
  | _ => false
theorem ne_glob {E : Env} {h : Heap} {nx : Nat} {w : World} (hr : HR E h nx w) {id m : Nat} {es : Esz} {c : Cs} {L : Spot} (hc : T.get .gone h id = .cells m es c) (eL : E id = some L) {G n' : Nat} {c' : Vx.T AV} (hg : T.get .gone h (G + 1) = .glob G n' c') (hG : G < 1000000) : L.blk ≠ G := by
  intro e
  have ho := hr.obj (G + 1)
  rw [hg] at ho
  obtain ⟨L', arr, el, fr, eL', hLB, _⟩ := ho
  have := hr.inj id (G + 1) L L' (by rw [hc]; rfl) (by rw [hg]; rfl) eL eL' (by rw [e, (hLB hG).1])
  subst this
  rw [hc] at hg; cases hg
theorem not_tab {E : Env} {h : Heap} {nx : Nat} {w : World} (hr : HR E h nx w) {G : Nat} (ht : hasTab G h = true) {id m : Nat} {es : Esz} {c : Cs} {L : Spot} (hc : T.get .gone h id = .cells m es c) (eL : E id = some L) : L.blk ≠ G := by
  unfold hasTab at ht
  split at ht <;> try (cases ht; done)
  rename_i g n' c' hg
  obtain ⟨h1, _⟩ := bc_and ht
  obtain ⟨h1, h2⟩ := bc_and h1
  have h1 := Nat.eq_of_beq_eq_true h1
  have h2 := Nat.le_of_ble_eq_true h2
  subst h1
  exact ne_glob hr hc eL hg (by omega)
theorem not_len {E : Env} {h : Heap} {nx : Nat} {w : World} (hr : HR E h nx w) {G : Nat} {b : Bool} (ht : someInt h G b = true) {id m : Nat} {es : Esz} {c : Cs} {L : Spot} (hc : T.get .gone h id = .cells m es c) (eL : E id = some L) : L.blk ≠ G := by
  unfold someInt at ht
  split at ht <;> try (cases ht; done)
  rename_i g n' c' hg
  obtain ⟨h1, _⟩ := bc_and ht
  obtain ⟨h1, h2⟩ := bc_and h1
  have h1 := Nat.eq_of_beq_eq_true h1
  have h2 := Nat.le_of_ble_eq_true h2
  subst h1
  exact ne_glob hr hc eL hg (by omega)
theorem doC_ok (R : DoesOK) : CtOK P 30 (gapC preD (altO [0])) := by
  refine gapC_ok fun args ARGS E h nx w hp ra hr => ?_
  unfold preD at hp
  split at hp <;> try (cases hp; done)
  rename_i ip op c1 c2 c3 c4 sl nm
  obtain ⟨htb, hv⟩ := bc_and hp
  obtain ⟨ht, hs⟩ := tableIn_of htb hr
  have hmx := hv
  obtain ⟨hv, mx⟩ := someInt_holds hv hr
  obtain ⟨A1, A2, hA, r1, r2⟩ := ra.two
  have hA : ARGS = #[A1, A2] := by apply Array.ext'; simpa using hA
  subst hA
  rw [Rv] at r1
  obtain ⟨vs, rfl, r1⟩ := r1
  simp only [RvL] at r1
  obtain ⟨Pv, _, rfl, rp, B1, _, rfl, q1, B2, _, rfl, q2, B3, _, rfl, q3, B4, _, rfl, q4, SLv, _, rfl, rs, rfl⟩ := r1
  have hf := factsOf_ok hr
  obtain ⟨u, uok, um, u5, rfl, rfl, rfl, rfl, hv⟩ := fourK_ok hf hv q1 q2 q3 q4
  obtain ⟨e, s, rfl, hs', ds, hv⟩ := asS_ok hv r2
  obtain ⟨hn, hv⟩ := bc_and hv
  have nw := notW_ok hf ds hn
  obtain ⟨arrT, elT, frT, zs, t1, t2, t3, t4⟩ := ht
  rw [Rv] at rp
  obtain ⟨LP, eP, rfl⟩ := rp
  have hQ : LP.blk < w.heap.size := hr.inw ip LP eP
  have lens : ∀ (M : Nat) (E' : Env) (k : Nat) (b : Bool), den E' (.sy 27) = some (.int .i64 M) → b = decide ((M : Int) ≤ Int.ofNat k) → den E' (lenF k b).1 = some (.bool (lenF k b).2) := fun M E' k b d e => (fact_le d).trans (by show _ = some (Value.bool b); rw [e])
  have fin : (Calls P 30 #[.agg #[.pointer (some ⟨LP.blk, LP.base + op, none⟩), .int .u8 u.k, .float .f64 u.x, .string u.s, .int .i64 u.r, SLv], .string s] w fun e w' => (∃ V, e = .returned V ∧ OutOK [0] V) ∧ Below w.heap.size w w') → 0 < w.heap.size ∧ Calls P 30 #[.agg #[.pointer (some ⟨LP.blk, LP.base + op, none⟩), .int .u8 u.k, .float .f64 u.x, .string u.s, .int .i64 u.r, SLv], .string s] w fun e w' => (∃ V, e = .returned V ∧ ∀ n, ∃ p ∈ altO [0] n, ∃ Vs, Vs.length = p.1 ∧ Tells n Vs p.2.1 p.2.2 V) ∧ Below w.heap.size w w' := fun H => by
    refine ⟨hs, H.mono ?_⟩
    rintro e w' ⟨⟨V, rfl, ho⟩, hb⟩
    exact ⟨⟨V, rfl, out_alt ho⟩, hb⟩
  refine fin ?_
  have T0 : ∀ I : Inp, I.zs = zs → I.Q = ⟨LP.blk, LP.base + op, 0⟩ → Laid I w := fun I e q => ⟨⟨arrT, elT, frT, t1, by rw [e]; exact t2⟩, mx, by rw [q]; exact hQ⟩
  have hi : ∀ (m M C : Nat) (g : Nat → Value), M ≤ 9223372036854775807 → Inp.ok ⟨zs, M, C, u, s, m, g, ⟨LP.blk, LP.base + op, 0⟩⟩ := fun m M C g hM => ⟨t3, t4, uok, hs', hM⟩
  have key : ∀ (sl : AV) (SLv : Value), Rv E sl SLv → ownK h sl = true → Calls P 30 #[.agg #[.pointer (some ⟨LP.blk, LP.base + op, none⟩), .int .u8 u.k, .float .f64 u.x, .string u.s, .int .i64 u.r, SLv], .string s] w fun e w' => (∃ V, e = .returned V ∧ OutOK [0] V) ∧ Below w.heap.size w w' := by
    intro sl SLv rs hv
    unfold ownK at hv
    split at hv <;> try (cases hv; done)
    · rw [Rv] at rs
      have ok := hi 0 0 0 (fun _ => undef) (by decide)
      refine doRun R (c := 0) (by decide) nw um u5 (L := ⟨0, 0, 0⟩) ok rfl rfl rfl ?_ ?_
      · show Rv _ .sn _
        rw [Rv]; exact rs
      · intro fs hf i e
        subst e
        obtain ⟨q1, q2, _⟩ := baseG ok (T0 _ rfl rfl) (L := ⟨0, 0, 0⟩) hs hf
        exact ⟨q1, q2⟩
    · rename_i id off cp
      rw [Rv] at rs
      obtain ⟨L, eL, rfl⟩ := rs
      have ok := hi 0 0 cp (fun _ => undef) (by decide)
      have hL : L.blk < w.heap.size := hr.inw id L eL
      refine doRun R (c := 1) (by decide) nw um u5 (L := ⟨L.blk, L.base + off, cp⟩) ok rfl rfl rfl ?_ ?_
      · show Rv _ (.so 6 0 0 0) _
        rw [Rv]
        exact ⟨_, six_E0, rfl, Nat.zero_le _⟩
      · intro fs hf i e
        subst e
        obtain ⟨q1, q2, _⟩ := baseG ok (T0 _ rfl rfl) (L := ⟨L.blk, L.base + off, cp⟩) hL hf
        exact ⟨q1, q2⟩
    · rename_i id n us
      split at hv <;> try (cases hv; done)
      rename_i m es c hg
      rw [Rv] at rs
      obtain ⟨L, eL, rfl, hroom⟩ := rs
      obtain ⟨q, hv⟩ := bc_and hv
      obtain ⟨q4, q64⟩ := bc_and q
      obtain ⟨q1, hv⟩ := bc_and hv
      have q4 : 4 * n ≤ m := Nat.le_of_ble_eq_true q4
      have q64 := Nat.le_of_ble_eq_true q64
      have q1 := Nat.le_of_ble_eq_true q1
      have ho := hr.obj id
      rw [hg] at ho
      obtain ⟨L2, arr, el, eL2, hb, hsz, _, hcs⟩ := ho
      rw [eL] at eL2; cases eL2
      obtain ⟨u1, u1ok, u1m, u15, f0, f1, f2, f3, hv⟩ := fourK_ok hf hv (hcs 0 (by omega)) (hcs 1 (by omega)) (hcs 2 (by omega)) (hcs 3 (by omega))
      have n2 := not_tab hr htb hg eL
      have n1 := not_len hr hmx hg eL
      have hL : L.blk < w.heap.size := hr.inw id L eL
      have four : ∀ (z : V4) (k : Nat), arr.getD (L.base + k) undef = .int .u8 z.k → arr.getD (L.base + (k + 1)) undef = .float .f64 z.x → arr.getD (L.base + (k + 2)) undef = .string z.s → arr.getD (L.base + (k + 3)) undef = .int .i64 z.r → ∀ i V, z.cells[i]? = some V → arr.getD (L.base + (k + i)) undef = V := fun z k e0 e1 e2 e3 i V hV => by
        match i, hV with
        | 0, hV => cases hV; exact e0
        | 1, hV => cases hV; exact e1
        | 2, hV => cases hV; exact e2
        | 3, hV => cases hV; exact e3
        | i + 4, hV => cases hV
      have rsl : ∀ I : Inp, Rv (E0 I ⟨L.blk, L.base, L.room - us⟩) (.so 6 0 n 0) (.slice (some ⟨L.blk, L.base + 0, none⟩) n (L.room - us)) := fun I => by
        rw [Rv]
        exact ⟨_, six_E0, rfl, by show 0 + n ≤ L.room - us; omega⟩
      by_cases n2' : 2 ≤ n
      · rw [Nat.ble_eq_true_of_le n2', bc_true] at hv
        obtain ⟨u2, u2ok, u2m, u25, k0, k1, k2, k3, _⟩ := fourK_ok hf hv (hcs 4 (by omega)) (hcs 5 (by omega)) (hcs 6 (by omega)) (hcs 7 (by omega))
        have ok := hi 2 n (L.room - us) (fun j => arr.getD (L.base + j) undef) (by omega)
        have A : ArgsW ⟨zs, n, L.room - us, u, s, 2, fun j => arr.getD (L.base + j) undef, ⟨LP.blk, LP.base + op, 0⟩⟩ w ⟨L.blk, L.base, L.room - us⟩ (fun k => if k = 0 then u1 else u2) := ⟨hL, n2, n1, fun k _ => by split <;> assumption, arr, el, (0, 0), hb, by show L.base + 4 * 2 ≤ _; omega, fun _ _ => rfl, fun k hk i V hV => by
          have hk : k < 2 := hk
          match k, hk, hV with
          | 0, _, hV => exact four u1 0 f0 f1 f2 f3 i V hV
          | 1, _, hV => exact four u2 4 k0 k1 k2 k3 i V hV⟩
        refine doRun R (c := n + 1) (by omega) nw um u5 (L := ⟨L.blk, L.base, L.room - us⟩) ok rfl rfl rfl (rsl _) ?_
        intro fs hf i e
        subst e
        obtain ⟨q1, q2, _⟩ := baseAll ok (T0 _ rfl rfl) A (n := 2) (Nat.le_refl _) (by decide) (holds_app (holds_app hf (plain_ok (dens_arg ok A (k := 0) (show 0 < 2 by decide) (by decide)) u1m u15)) (plain_ok (dens_arg ok A (k := 1) (show 1 < 2 by decide) (by decide)) u2m u25))
        have e : hD (n + 1) i = Lp.hA 2 (fN i ++ plainF 29 ++ plainF 36 ++ plainF 40) := by
          obtain ⟨k, rfl⟩ : ∃ k, n = k + 2 := ⟨n - 2, by omega⟩
          rfl
        rw [e]
        exact ⟨q1, q2⟩
      · obtain rfl : n = 1 := by omega
        have ok := hi 1 1 (L.room - us) (fun j => arr.getD (L.base + j) undef) (by decide)
        have A : ArgsW ⟨zs, 1, L.room - us, u, s, 1, fun j => arr.getD (L.base + j) undef, ⟨LP.blk, LP.base + op, 0⟩⟩ w ⟨L.blk, L.base, L.room - us⟩ (fun _ => u1) := ⟨hL, n2, n1, fun k _ => u1ok, arr, el, (0, 0), hb, by show L.base + 4 * 1 ≤ _; omega, fun _ _ => rfl, fun k hk i V hV => by
          have hk : k < 1 := hk
          match k, hk, hV with
          | 0, _, hV => exact four u1 0 f0 f1 f2 f3 i V hV⟩
        refine doRun R (c := 2) (by decide) nw um u5 (L := ⟨L.blk, L.base, L.room - us⟩) ok rfl rfl rfl (rsl _) ?_
        intro fs hf i e
        subst e
        obtain ⟨q1, q2, _⟩ := baseAll ok (T0 _ rfl rfl) A (n := 1) (Nat.le_refl _) (by decide) (holds_app hf (plain_ok (dens_arg ok A (k := 0) (show 0 < 1 by decide) (by decide)) u1m u15))
        exact ⟨q1, q2⟩
  exact key sl SLv rs hv
end Go.Proofs.YtaecedlhiclkdaaGreatDoor.Lp
