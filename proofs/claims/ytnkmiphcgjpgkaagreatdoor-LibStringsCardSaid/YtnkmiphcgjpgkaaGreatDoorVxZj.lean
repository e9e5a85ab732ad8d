/- Whole numbers' texts by what a table holds, as a contract; a start with a table's cells as symbols. No condition. -/
import Derived.Test.YtnkmiphcgjpgkaaGreatDoorVxZi
set_option linter.unusedVariables false
set_option linter.unusedSimpArgs false
set_option linter.constructorNameAsVariable false
namespace Go.Proofs.YtnkmiphcgjpgkaaGreatDoor.Vx
open Go
set_option maxRecDepth 100000

/-! ### A text's worth may be -/
theorem read_may (l : List UInt8) : mayF (readL l).1 = true := by
  have hd : ∀ m d, mayF (readD m d).1 = true := fun m d => by
    unfold readD
    split
    · kernel_rfl
    · split
      · kernel_rfl
      · rename_i h1 h2
        have hw : worthL d ≤ 9007199254740991 := by
          simp only [Bool.or_eq_true, decide_eq_true_eq, not_or] at h2
          omega
        show mayF (FloatKind.f64.nearest _) = true
        apply near_may
        · split <;> omega
        · split <;> omega
  unfold readL
  split
  · exact may_zero
  · exact hd _ _

/-! ### A whole number's text -/
theorem rowL_length (n u : Nat) : (rowL n u).length = n := by simp [rowL]
theorem itoaG_length (l : List Value) (n : Int) (h0 : -9223372036854775808 ≤ n) (h1 : n ≤ 9223372036854775807) : (itoaG l n).length ≤ 24 := by
  unfold itoaG
  split
  · rename_i h
    have h2 := Lib.decDigits_length n.toNat
    rw [h2]
    unfold Lib.nDigits
    split
    · omega
    · unfold Lib.nDigits
      split
      · omega
      · omega
  · rename_i h
    have hq : Lib.l10 (Lib.bitLen n.natAbs) ≤ 19 := (Lib.numDigits_eq n.natAbs (by omega) (by omega)).2
    have hn : ndG l n.natAbs ≤ 20 := by
      unfold ndG
      split <;> omega
    split
    · rw [List.length_cons, rowL_length]; omega
    · rw [rowL_length]; omega

noncomputable def tabE (l : List AV) : (List SE → Bool) → Bool := List.rec (motive := fun _ => (List SE → Bool) → Bool) (fun k => k []) (fun v _ ih k => asI .u64 v fun e => ih fun es => k (e :: es)) l
theorem tabE_ok {E : Env} : ∀ (l : List AV) {vs : List Value} {k : List SE → Bool}, tabE l k = true → RvL E l vs → ∃ (es : List SE) (zs : List Int), vs = zs.map (Value.int .u64) ∧ (∀ z ∈ zs, 0 ≤ z ∧ z ≤ 18446744073709551615) ∧ All2 (fun e z => den E e = some (.int .u64 z)) es zs ∧ k es = true
  | [], vs, k, he, r => by
    rw [RvL] at r; subst r
    exact ⟨[], [], rfl, (fun z hz => by cases hz), trivial, he⟩
  | v :: l, vs, k, he, r => by
    rw [RvL] at r
    obtain ⟨V, vs', rfl, rv, r⟩ := r
    have he : asI .u64 v (fun e => tabE l fun es => k (e :: es)) = true := he
    obtain ⟨e, z, rfl, z1, z2, hd, he⟩ := asI_ok he rv
    obtain ⟨es, zs, rfl, hz, ha, hk⟩ := tabE_ok l he r
    refine ⟨e :: es, z :: zs, rfl, fun y hy => ?_, ⟨hd, ha⟩, hk⟩
    rcases List.mem_cons.1 hy with rfl | hy
    · exact ⟨z1, z2⟩
    · exact hz y hy
/-- a list of values, one in another -/
def nest : List Value → Value
  | [] => .bool false
  | [a] => a
  | a :: b :: l => .agg #[a, nest (b :: l)]
theorem den_packE {E : Env} : ∀ (es : List SE) (zs : List Int), All2 (fun e z => den E e = some (.int .u64 z)) es zs → den E (packE es) = some (nest (zs.map (Value.int .u64)))
  | [], [], _ => rfl
  | [e], [z], h => h.1
  | e :: f :: es, z :: y :: zs, h => by
    have h2 := den_packE (f :: es) (y :: zs) h.2
    show den E (.fn2 0 e (packE (f :: es))) = _
    simp only [den, h.1, h2, apf2]
    rfl
  | [e], z :: y :: zs, h => h.2.elim
  | e :: f :: es, [z], h => h.2.elim
  | [], _ :: _, h => h.elim
  | _ :: _, [], h => h.elim
theorem unpack_nest : ∀ (n : Nat) (l : List Value), l.length = n + 1 → unpackV n (nest l) = l
  | 0, [a], _ => rfl
  | n + 1, a :: b :: l, h => by
    show a :: unpackV n (nest (b :: l)) = _
    rw [unpack_nest n (b :: l) (by simpa using h)]
  | 0, a :: b :: l, h => by simp at h
  | _ + 1, [], h => by simp at h
  | _ + 1, [a], h => by simp at h
  | 0, [], h => by simp at h

/-- what is to be shown of the function -/
def OfFmt (P : Program) (g G : Nat) : Prop := ∀ (n : Int) (w : World) (T : Int) (nd : Nat), -9223372036854775808 ≤ n → n ≤ 9223372036854775807 → G < w.heap.size → 0 ≤ T ∧ T ≤ 18446744073709551615 →
  (¬ (0 ≤ n ∧ n < 100) → w.cell? ⟨G, Lib.l10 (Lib.bitLen n.natAbs), none⟩ = some (.int .u64 T) ∧ Lib.l10 (Lib.bitLen n.natAbs) + (if T ≤ (n.natAbs : Int) then 1 else 0) = nd) →
  Calls P g #[.int .i64 n, .int .i64 10] w fun e w' => e = .returned (.string ⟨(if 0 ≤ n ∧ n < 100 then Lib.decDigits n.toNat else if n < 0 then 45 :: rowL nd n.natAbs else rowL nd n.natAbs).toArray⟩) ∧ RowKit.Below w.heap.size w w'
noncomputable def fmtC (G : Nat) : Ct := fun args h nxt k => match args with
  | [.x (.i .i64) e, .i .i64 (.ofNat 10)] => (match T.get .gone h (Nat.succ G) with
    | .glob g n c => bc (bc (Nat.beq g G) (Nat.ble (Nat.succ G) 1000000) false) (bc (Nat.ble 20 n) (rdN c 20 0 fun l => tabE l fun es =>
      setF ((.cmp .leq (.len (.fn2 6 (packE es) e)) (.li .i64 24), true) :: factsOf h) h fun h1 => k (.x .s (.fn2 6 (packE es) e)) h1 nxt) false) false
    | _ => false)
  | _ => false
theorem fmtC_ok {P : Program} {g G : Nat} (H : OfFmt P g G) : CtOK P g (fmtC G) := by
  apply ctExpr
  intro args ARGS E h nxt w k he ra hr
  unfold fmtC at he
  split at he <;> try (cases he; done)
  rename_i e
  split at he <;> try (cases he; done)
  rename_i g' m c hg
  obtain ⟨h1, he1⟩ := bc_and he
  obtain ⟨h1, h2⟩ := bc_and h1
  obtain ⟨h3, he2⟩ := bc_and he1
  have h1 := Nat.eq_of_beq_eq_true h1
  have h2 := Nat.le_of_ble_eq_true h2
  have h3 := Nat.le_of_ble_eq_true h3
  clear he he1
  subst h1
  rw [rdN_ok] at he2
  have ho := hr.obj (g' + 1)
  rw [hg] at ho
  obtain ⟨L, arr, el, fr, _, hLB, hb, hsz, hcs⟩ := ho
  obtain ⟨hL, hB⟩ := hLB (by omega)
  have hrow : RvL E ((List.range' 0 20).map fun j => T.get .no c j) ((List.range' 0 20).map fun j => arr.getD (L.base + j) undef) := RvL.of_range 20 0 fun j _ hj => hcs j (by omega)
  obtain ⟨es, zs, hvs, hz, ha, he3⟩ := tabE_ok _ he2 hrow
  obtain ⟨X, Y, hA, rx, ry⟩ := ra.two
  have hA : ARGS = #[X, Y] := by apply Array.ext'; simpa using hA
  subst hA
  rw [Rv] at ry
  subst ry
  simp only [Rv, hasS] at rx
  obtain ⟨hd, n, rfl, n1, n2⟩ := rx
  have e1 : IntKind.i64.min = -9223372036854775808 := rfl
  have e2 : IntKind.i64.max = 9223372036854775807 := rfl
  have hlen : zs.length = 20 := by
    have := congrArg List.length hvs
    simpa using this.symm
  have hu : unpackV 19 (nest (zs.map (Value.int .u64))) = zs.map (Value.int .u64) := unpack_nest 19 _ (by simpa using hlen)
  have hden : den E (.fn2 6 (packE es) e) = some (.string ⟨(itoaG (zs.map (Value.int .u64)) n).toArray⟩) := by
    have hp := den_packE es zs ha
    have hq : ∀ V : Value, apf2 6 V (.int .i64 n) = some (.string ⟨(itoaG (unpackV 19 V) n).toArray⟩) := fun V => by cases V <;> rfl
    simp only [den, hp, hd, hq, hu]
  have hil := itoaG_length (zs.map (Value.int .u64)) n (by omega) (by omega)
  have hlen2 : den E (.len (.fn2 6 (packE es) e)) = some (.int .i64 (itoaG (zs.map (Value.int .u64)) n).length) := by
    rw [den_len hden]; simp [ByteArray.size]
  obtain ⟨h1', k1, k2, k3⟩ := setF_ok he3 hr (holds_cons ((fact_le hlen2).trans (by rw [decide_eq_true (by omega)])) (factsOf_ok hr))
  refine ⟨_, h1', .string ⟨(itoaG (zs.map (Value.int .u64)) n).toArray⟩, k1, ?_, k2, k3, ?_⟩
  · rw [Rv]
    refine ⟨hden, _, rfl, ?_⟩
    have : (⟨(itoaG (zs.map (Value.int .u64)) n).toArray⟩ : ByteArray).size = (itoaG (zs.map (Value.int .u64)) n).length := by simp [ByteArray.size]
    rw [this]; omega
  · have hlt : g' < w.heap.size := by
      rw [← hL]; exact (Array.getElem?_eq_some_iff.1 hb).1
    have hat : ∀ q, q < 20 → arr.getD q undef = .int .u64 (zs.getD q 0) ∧ q < arr.size := fun q hq => by
      have h5 := congrArg (fun l => l[q]?) hvs
      have h6 : (zs.map (Value.int .u64))[q]? = some (.int .u64 (zs.getD q 0)) := by
        rw [List.getElem?_map, List.getElem?_eq_getElem (by omega)]
        simp [List.getD_eq_getElem?_getD, List.getElem?_eq_getElem (show q < zs.length by omega)]
      rw [h6] at h5
      have h7 : ((List.range' 0 20).map fun j => arr.getD (L.base + j) undef)[q]? = some (arr.getD (L.base + q) undef) := by
        rw [List.getElem?_map, List.getElem?_range' hq]; simp
      rw [h7, hB, Nat.zero_add] at h5
      exact ⟨Option.some.inj h5, by omega⟩
    have htab : ∀ q, q < 20 → tabAt (zs.map (Value.int .u64)) q = zs.getD q 0 := fun q hq => by
      unfold tabAt
      rw [List.getElem?_map, List.getElem?_eq_getElem (by omega)]
      simp [List.getD_eq_getElem?_getD, List.getElem?_eq_getElem (show q < zs.length by omega)]
    by_cases hs : 0 ≤ n ∧ n < 100
    · refine (H n w 0 0 (by omega) (by omega) hlt (by omega) (fun h => absurd hs h)).mono ?_
      rintro e w' ⟨rfl, hbw⟩
      refine ⟨?_, hbw⟩
      unfold itoaG
      rw [if_pos hs, if_pos hs]
    · have hq : Lib.l10 (Lib.bitLen n.natAbs) ≤ 19 := (Lib.numDigits_eq n.natAbs (by omega) (by omega)).2
      obtain ⟨c1, c2⟩ := hat _ (show Lib.l10 (Lib.bitLen n.natAbs) < 20 by omega)
      refine (H n w (zs.getD (Lib.l10 (Lib.bitLen n.natAbs)) 0) (ndG (zs.map (Value.int .u64)) n.natAbs) (by omega) (by omega) hlt ?_ (fun _ => ⟨?_, ?_⟩)).mono ?_
      · apply hz
        rw [List.getD_eq_getElem?_getD, List.getElem?_eq_getElem (by omega)]
        exact List.getElem_mem _
      · have := cell_of hb c2
        rw [hL, c1] at this; exact this
      · unfold ndG
        rw [htab _ (by omega)]
      · rintro e w' ⟨rfl, hbw⟩
        refine ⟨?_, hbw⟩
        unfold itoaG
        rw [if_neg hs]

/-! ### A start with a table's cells among the symbols -/
/-- the table G's cells, from symbol n on -/
noncomputable def tabAVs : Nat → Nat → List AV
  | 0, _ => []
  | m + 1, n => .x (.i .u64) (.sy n) :: tabAVs m (n + 1)
theorem symG_ok {gl : List (Nat × List AV)} {n0 m : Nat} {Ls : List Spot} {w : World} (hn : gl.all (fun p => Nat.ble (p.1 + 2) n0) = true) (h1 : Nat.ble 1 n0 = true) (hbig : gl.all (fun p => Nat.ble (p.1 + 1) 1000000) = true)
    (hw : ∀ p ∈ gl, ∃ arr el fr, w.heap[p.1]? = some (.cells arr el fr) ∧ RvL (symE0 gl n0 Ls) p.2 (arr.toList.take p.2.length)) (hm : Ls.length = m) (hL : ∀ L ∈ Ls, L.blk = 0) (hs : 0 < w.heap.size) :
    HR (symE0 gl n0 Ls) (startH gl n0) (n0 + m) w := by
  have hn : ∀ p ∈ gl, p.1 + 2 ≤ n0 := fun p hp => Nat.le_of_ble_eq_true (List.all_eq_true.1 hn p hp)
  have h1 := Nat.le_of_ble_eq_true h1
  have z := startH_zero gl n0
  have fl : flr (startH gl n0) = n0 := by unfold flr; rw [z]
  have old : ∀ i, i < n0 → symE0 gl n0 Ls i = startE gl i := fun i hi => by unfold symE0; rw [if_neg (by omega)]
  have live : ∀ i, (T.get .gone (startH gl n0) i).live = true → ∃ p ∈ gl, i = p.1 + 1 := fun i hi => by
    cases i with
    | zero => rw [z] at hi; cases hi
    | succ i =>
      rcases startH_get gl n0 i with h | ⟨p, hp, e, h⟩
      · rw [h] at hi; cases hi
      · exact ⟨p, hp, by omega⟩
  refine ⟨fun i => ?_, fun i j L M hi hj hLi hMj e => ?_, fun i hi => ?_, fun i hi => ?_, fun i L hi => ?_, by omega, by rw [fl]; omega, by rw [z]; rfl⟩
  · cases i with
    | zero => rw [z]; trivial
    | succ i =>
      rcases startH_get gl n0 i with h | ⟨p, hp, e, h⟩
      · rw [h]; trivial
      · rw [h]
        obtain ⟨arr, el, fr, k1, k2⟩ := hw p hp
        have hlen := k2.length
        refine ⟨⟨p.1, 0, 0⟩, arr, el, fr, by rw [old _ (by have := hn p hp; omega), ← e]; exact startE_of hp, fun _ => ⟨rfl, rfl⟩, k1, by simp at hlen; simp; omega, fun j hj => ?_⟩
        have := wrLs_new p.2 (arr.toList.take p.2.length) k2 j hj
        simpa [List.getElem?_take, hj] using this
  · obtain ⟨p, hp, rfl⟩ := live i hi
    obtain ⟨q, hq, rfl⟩ := live j hj
    rw [old _ (by have := hn p hp; omega), startE_of hp] at hLi
    rw [old _ (by have := hn q hq; omega), startE_of hq] at hMj
    cases hLi; cases hMj
    have e : p.1 = q.1 := e
    omega
  · cases hl : (T.get .gone (startH gl n0) i).live
    · rfl
    · obtain ⟨p, hp, rfl⟩ := live i hl
      have := hn p hp; omega
  · unfold symE0
    rw [if_pos (by omega)]
    exact List.getElem?_eq_none (by omega)
  · rcases Nat.lt_or_ge i n0 with h | h
    · rw [old i h] at hi
      obtain ⟨p, hp, e1, rfl⟩ := startE_some hi
      obtain ⟨arr, el, fr, k1, _⟩ := hw p hp
      exact (Array.getElem?_eq_some_iff.1 k1).1
    · unfold symE0 at hi
      rw [if_pos h] at hi
      rw [hL L (List.mem_of_getElem? hi)]; exact hs
/-- a law of what is given and of tables -/
theorem closedValG {P : Program} {call : CallF} (hc : CallOK P call) {gl : List (Nat × List AV)} {n0 : Nat} {Vs : List Value} {fs : Facts} {g : FuncId} {args : List AV} {ARGS : Array Value} {nn : Nat}
    (hn : gl.all (fun p => Nat.ble (p.1 + 2) n0) = true) (h1 : Nat.ble 1 n0 = true) (hbig : gl.all (fun p => Nat.ble (p.1 + 1) 1000000) = true)
    (hnn : n0 + Vs.length = nn) (hf : Holds (symEV gl n0 Vs) fs) (ra : RvL (symEV gl n0 Vs) args ARGS.toList)
    (he : setF fs (startH gl n0) (fun h => call g args h nn (fun v h _ => finT v h)) = true) (w : World) (hs : 0 < w.heap.size)
    (hw : ∀ p ∈ gl, ∃ arr el fr, w.heap[p.1]? = some (.cells arr el fr) ∧ RvL (symEV gl n0 Vs) p.2 (arr.toList.take p.2.length)) :
    Calls P g ARGS w fun e w' => e = .returned (.bool true) ∧ RowKit.Below w.heap.size w w' := by
  subst hnn
  have hr := symG_ok hn h1 hbig hw (List.length_map _) (fun L hL => by obtain ⟨V, _, rfl⟩ := List.mem_map.1 hL; exact spot_blk V) hs
  obtain ⟨h1', he, hr1, fk⟩ := setF_ok he hr hf
  have z := startH_zero gl n0
  have fl : flr (startH gl n0) = n0 := by unfold flr; rw [z]
  have nofp : ∀ k, ¬ fp (symEV gl n0 Vs) h1' k := by
    rintro k ⟨i, L, a1, a2, _, _⟩
    rw [fk.flr, fl] at a1
    rw [fk.live] at a2
    cases i with
    | zero => rw [z] at a2; cases a2
    | succ i =>
      rcases startH_get gl n0 i with h | ⟨p, hp, e, h⟩
      · rw [h] at a2; cases a2
      · have := Nat.le_of_ble_eq_true (List.all_eq_true.1 hn p hp); omega
  refine (hc g args ARGS _ _ _ w _ he ra hr1).mono ?_
  rintro e w' (⟨V, rfl, v, h', nxt', E', rv, hr', gs, hk⟩ | ⟨V, rfl, v, h', nxt', E', rv, _, gs, hk⟩)
  · obtain ⟨x, _, rfl, _, _, hx⟩ := condK_ok hk rv hr'
    rcases hx with ⟨rfl, _⟩ | ⟨_, hx⟩
    · exact ⟨rfl, below_of gs nofp⟩
    · cases hx
  · cases hk
theorem den_symG {gl : List (Nat × List AV)} {n0 : Nat} {Vs : List Value} (j : Nat) {V : Value} (h : Vs[j]? = some V) (ok : symOK V) : den (symEV gl n0 Vs) (.sy (n0 + j)) = some V := den_sym j h ok
theorem tab_rv {gl : List (Nat × List AV)} {n0 : Nat} {Vs : List Value} : ∀ (m j : Nat) (zs : List Int), zs.length = m → (∀ i z, zs[i]? = some z → Vs[j + i]? = some (.int .u64 z)) → (∀ z ∈ zs, 0 ≤ z ∧ z ≤ 18446744073709551615) →
    RvL (symEV gl n0 Vs) (tabAVs m (n0 + j)) (zs.map (Value.int .u64))
  | 0, j, [], _, _, _ => rvl_nil
  | m + 1, j, z :: zs, hl, h, hz => by
    refine rvl_cons (rv_sym (s := .i .u64) j (h 0 z rfl) (sok_i _ _) ⟨_, rfl, hz z (by simp)⟩) ?_
    have := tab_rv (gl := gl) (n0 := n0) m (j + 1) zs (by simpa using hl) (fun i y hi => by have := h (i + 1) y (by simpa using hi); rw [← this]; congr 1; omega) (fun y hy => hz y (by simp [hy]))
    rw [show n0 + j + 1 = n0 + (j + 1) from by omega]
    exact this
  | 0, _, _ :: _, hl, _, _ => by simp at hl
  | _ + 1, _, [], hl, _, _ => by simp at hl
end Go.Proofs.YtnkmiphcgjpgkaaGreatDoor.Vx
