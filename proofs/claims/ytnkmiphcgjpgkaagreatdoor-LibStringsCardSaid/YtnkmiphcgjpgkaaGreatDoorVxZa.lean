/- Calls with known answers that hand back new memory: a closed run of their own, as a contract. No condition. -/
import Derived.Test.YtnkmiphcgjpgkaaGreatDoorVxZ
set_option linter.unusedVariables false
set_option linter.unusedSimpArgs false
set_option linter.constructorNameAsVariable false
namespace Go.Proofs.YtnkmiphcgjpgkaaGreatDoor.Vx
open Go

section
variable {E E' : Env} {h : Heap} {nxt : Nat} {w w' : World}

/-! ### Ids put otherwise -/
noncomputable def sh0 (f : Nat → Nat) (v : AV) : AV := match v with
  | .p j off => .p (f j) off
  | .sl j a b c => .sl (f j) a b c
  | .so j a b c => .so (f j) a b c
  | v => v
noncomputable def sh1 (f : Nat → Nat) (v : AV) : AV := match v with
  | .ifc t v => .ifc t (sh0 f v)
  | .ag l => .ag (l.map (sh0 f))
  | v => sh0 f v
noncomputable def sh2 (f : Nat → Nat) (v : AV) : AV := match v with
  | .tu l => .tu (l.map (sh1 f))
  | v => sh1 f v

noncomputable def ok0 (m : Nat) (v : AV) : Bool := match v with
  | .p j _ => Nat.ble (Nat.succ j) m
  | .sl j _ _ _ => Nat.ble (Nat.succ j) m
  | .so j _ _ _ => Nat.ble (Nat.succ j) m
  | .un | .b _ | .i .. | .f .. | .nan | .s .. | .pn | .pg .. | .sn | .fnil | .inil | .mpn | .ii _ | .no => true
  | _ => false
noncomputable def ok1 (m : Nat) (v : AV) : Bool := match v with
  | .ifc _ v => ok0 m v
  | .ag l => l.all (ok0 m)
  | v => ok0 m v
noncomputable def ok2 (m : Nat) (v : AV) : Bool := match v with
  | .tu l => l.all (ok1 m)
  | v => ok1 m v

/-- two ways to name the same blocks -/
def Mt (m : Nat) (E : Env) (f : Nat → Nat) (E' : Env) (g : Nat → Nat) : Prop := ∀ j L, j < m → E (f j) = some L → E' (g j) = some L

theorem sh0_ok {m : Nat} {f g : Nat → Nat} (hM : Mt m E f E' g) {v : AV} {V : Value} (hv : ok0 m v = true) (r : Rv E (sh0 f v) V) : Rv E' (sh0 g v) V := by
  cases v <;> simp only [ok0, Bool.false_eq_true] at hv <;> simp only [sh0, Rv] at r ⊢ <;> try exact r
  case p j off => obtain ⟨L, e, r⟩ := r; exact ⟨L, hM j L (Nat.le_of_ble_eq_true hv) e, r⟩
  case sl j a b c => obtain ⟨L, e, r⟩ := r; exact ⟨L, hM j L (Nat.le_of_ble_eq_true hv) e, r⟩
  case so j a b c => obtain ⟨L, e, r⟩ := r; exact ⟨L, hM j L (Nat.le_of_ble_eq_true hv) e, r⟩

theorem sh0L_ok {m : Nat} {f g : Nat → Nat} (hM : Mt m E f E' g) : ∀ {l : List AV} {vs : List Value}, l.all (ok0 m) = true → RvL E (l.map (sh0 f)) vs → RvL E' (l.map (sh0 g)) vs
  | [], _, _, r => by simpa [RvL] using r
  | v :: l, _, hv, r => by
    rw [List.all_cons, Bool.and_eq_true] at hv
    rw [List.map_cons, RvL] at r ⊢
    obtain ⟨V, vs, e, r1, r2⟩ := r
    exact ⟨V, vs, e, sh0_ok hM hv.1 r1, sh0L_ok hM hv.2 r2⟩

theorem sh1_ok {m : Nat} {f g : Nat → Nat} (hM : Mt m E f E' g) {v : AV} {V : Value} (hv : ok1 m v = true) (r : Rv E (sh1 f v) V) : Rv E' (sh1 g v) V := by
  cases v
  case ifc t v =>
    simp only [sh1, Rv] at r ⊢
    obtain ⟨W, e, r⟩ := r
    exact ⟨W, e, sh0_ok hM hv r⟩
  case ag l =>
    simp only [sh1, Rv] at r ⊢
    obtain ⟨vs, e, r⟩ := r
    exact ⟨vs, e, sh0L_ok hM hv r⟩
  all_goals (simp only [ok1] at hv; simp only [sh1] at r ⊢; exact sh0_ok hM hv r)

theorem sh1L_ok {m : Nat} {f g : Nat → Nat} (hM : Mt m E f E' g) : ∀ {l : List AV} {vs : List Value}, l.all (ok1 m) = true → RvL E (l.map (sh1 f)) vs → RvL E' (l.map (sh1 g)) vs
  | [], _, _, r => by simpa [RvL] using r
  | v :: l, _, hv, r => by
    rw [List.all_cons, Bool.and_eq_true] at hv
    rw [List.map_cons, RvL] at r ⊢
    obtain ⟨V, vs, e, r1, r2⟩ := r
    exact ⟨V, vs, e, sh1_ok hM hv.1 r1, sh1L_ok hM hv.2 r2⟩

theorem sh2_ok {m : Nat} {f g : Nat → Nat} (hM : Mt m E f E' g) {v : AV} {V : Value} (hv : ok2 m v = true) (r : Rv E (sh2 f v) V) : Rv E' (sh2 g v) V := by
  cases v
  case tu l =>
    simp only [sh2, Rv] at r ⊢
    obtain ⟨vs, e, r⟩ := r
    exact ⟨vs, e, sh1L_ok hM hv r⟩
  all_goals (simp only [ok2] at hv; simp only [sh2] at r ⊢; exact sh1_ok hM hv r)

/-! ### What is told of the new memory -/
structure ObjL where
  n : Nat
  esz : Esz
  w : Nat
  l : List AV

noncomputable def sameW (a b : AV) : Bool := match a, b with
  | .ag l, .ag l' => sameSL l l'
  | a, b => sameX a b
theorem sameW_ok {a b : AV} (h : sameW a b = true) : a = b := by
  unfold sameW at h
  split at h
  · rw [sameSL_ok h]
  · exact sameX_ok h
noncomputable def sameWL (a : List AV) : List AV → Bool := List.rec (motive := fun _ => List AV → Bool) (fun b => List.rec (motive := fun _ => Bool) true (fun _ _ _ => false) b) (fun v _ ih b => List.rec (motive := fun _ => Bool) false (fun u us _ => bc (sameW v u) (ih us) false) b) a
theorem sameWL_ok : ∀ {a b : List AV}, sameWL a b = true → a = b
  | [], [], _ => rfl
  | [], _ :: _, h => by cases h
  | _ :: _, [], h => by cases h
  | v :: a, u :: b, h => by
    have h : bc (sameW v u) (sameWL a b) false = true := h
    obtain ⟨h1, h2⟩ := bc_and h
    rw [sameW_ok h1, sameWL_ok h2]
noncomputable def sameT (a b : AV) : Bool := match a, b with
  | .tu l, .tu l' => sameWL l l'
  | a, b => sameW a b
theorem sameT_ok {a b : AV} (h : sameT a b = true) : a = b := by
  unfold sameT at h
  split at h
  · rw [sameWL_ok h]
  · exact sameW_ok h

noncomputable def sameO (f : Nat → Nat) (h : Heap) (id : Nat) (o : ObjL) : Bool := match T.get .gone h id with
  | .cells n e c => bc (Nat.beq n o.n) (bc (eszEq e o.esz) (bc (Nat.beq o.l.length n) (rdC c n 0 fun l => sameWL l (o.l.map (sh1 f))) false) false) false
  | _ => false
theorem sameO_ok {f : Nat → Nat} {id : Nat} {o : ObjL} (he : sameO f h id o = true) : ∃ c, T.get .gone h id = .cells o.n o.esz c ∧ o.l.length = o.n ∧ ∀ j, j < o.n → c.get j = nthR (o.l.map (sh1 f)) j := by
  unfold sameO at he
  split at he <;> try (cases he; done)
  rename_i n e c hc
  obtain ⟨h1, he1⟩ := bc_and he
  obtain ⟨h2, he2⟩ := bc_and he1
  obtain ⟨h3, he3⟩ := bc_and he2
  rw [rdC_ok] at he3
  have hl := sameWL_ok he3
  have h1 := Nat.eq_of_beq_eq_true h1
  have h3 := Nat.eq_of_beq_eq_true h3
  have h2 := eszEq_ok h2
  clear he he1 he2 he3
  subst h1 h2
  refine ⟨c, hc, h3, fun j hj => ?_⟩
  rw [← hl, nthR_eq]
  simp [List.getD_eq_getElem?_getD, hj]

/-- the places, one after the other: each its own -/
noncomputable def sameOs (m : Nat) (f : Nat → Nat) (h : Heap) (n0 : Nat) : List Nat → List ObjL → Bool
  | [], [] => true
  | id :: ids, o :: os => bc (Nat.ble n0 id) (bc (ids.all fun j => bc (Nat.beq id j) false true) (bc (o.l.all (ok1 m)) (bc (sameO f h id o) (sameOs m f h n0 ids os) false) false) false) false
  | _, _ => false

theorem sameOs_ok {m : Nat} {f : Nat → Nat} {n0 : Nat} : ∀ {ids : List Nat} {os : List ObjL}, sameOs m f h n0 ids os = true → ids.length = os.length ∧ ids.Nodup ∧
    ∀ (j id : Nat) (o : ObjL), ids[j]? = some id → os[j]? = some o → n0 ≤ id ∧ o.l.all (ok1 m) = true ∧ sameO f h id o = true
  | [], [], _ => ⟨rfl, .nil, fun j id o h => by simp at h⟩
  | [], _ :: _, he => by cases he
  | _ :: _, [], he => by cases he
  | id :: ids, o :: os, he => by
    obtain ⟨h1, he⟩ := bc_and (b := Nat.ble n0 id) he
    obtain ⟨h2, he⟩ := bc_and he
    obtain ⟨h3, he⟩ := bc_and he
    obtain ⟨h4, he⟩ := bc_and he
    obtain ⟨k1, k2, k3⟩ := sameOs_ok he
    refine ⟨by simp [k1], List.nodup_cons.2 ⟨fun hm => ?_, k2⟩, fun j jd p hj hp => ?_⟩
    · rw [List.all_eq_true] at h2
      have := h2 id hm
      rw [Nat.beq_refl] at this; cases this
    · cases j with
      | zero =>
        simp at hj hp
        subst hj hp
        exact ⟨Nat.le_of_ble_eq_true h1, h3, h4⟩
      | succ j => exact k3 j jd p (by simpa using hj) (by simpa using hp)

/-- new memory, and a value that speaks of it -/
def NewM (w w' : World) (lit : AV) (objs : List ObjL) (V : Value) : Prop := ∃ (E' : Env) (f : Nat → Nat), Rv E' (sh2 f lit) V ∧
  (∀ (j : Nat) (o : ObjL), objs[j]? = some o → ∃ L arr el, E' (f j) = some L ∧ w.heap.size ≤ L.blk ∧ w'.heap[L.blk]? = some (.cells arr el (0, 0)) ∧ L.base + o.n ≤ arr.size ∧ o.esz.ok L el arr.size o.n ∧ o.l.length = o.n ∧
    o.l.all (ok1 objs.length) = true ∧ ∀ i, i < o.n → Rv E' (nthR (o.l.map (sh1 f)) i) (arr.getD (L.base + i) undef)) ∧
  ∀ j j' L L', j < objs.length → j' < objs.length → E' (f j) = some L → E' (f j') = some L' → L.blk = L'.blk → j = j'

theorem closedM {P : Program} {call : CallF} (hc : CallOK P call) {gl : List (Nat × List AV)} {n0 : Nat} {g : FuncId} {args : List AV} {ARGS : Array Value} {lit : AV} {ids : List Nat} {objs : List ObjL} (hn : gl.all (fun p => Nat.ble (p.1 + 2) n0) = true) (h1 : Nat.ble 1 n0 = true) (hlit : ok2 objs.length lit = true)
    (ra : ∀ E, RvL E args ARGS.toList) (he : call g args (startH gl n0) n0 (fun v h _ => bc (sameT v (sh2 (fun j => ids.getD j 0) lit)) (sameOs objs.length (fun j => ids.getD j 0) h n0 ids objs) false) = true) (w : World) (hw : HoldsG w gl) :
    Calls P g ARGS w fun e w' => ∃ V, e = .returned V ∧ NewM w w' lit objs V ∧ RowKit.Below w.heap.size w w' := by
  have hr := startH_ok hn h1 hw
  refine (hc g args ARGS _ _ n0 w _ he (ra _) hr).mono ?_
  rintro e w' (⟨V, rfl, v, h', nxt', E', rv, hr', gs, hk⟩ | ⟨V, rfl, v, h', nxt', E', rv, hr', gs, hk⟩)
  case inr =>
    obtain ⟨hk, _⟩ := bc_and hk
    have e := sameT_ok hk
    cases lit <;> simp [ok2, ok1, ok0] at hlit <;> simp [sh2, sh1, sh0] at e
  obtain ⟨hk1, hk2⟩ := bc_and hk
  have ev := sameT_ok hk1
  subst ev
  obtain ⟨k1, k2, k3⟩ := sameOs_ok hk2
  have fl : flr h' = n0 := by
    rw [gs.flr]; unfold flr; rw [startH_zero]
  have at_ : ∀ j : Nat, j < objs.length → ∃ (id : Nat) (o : ObjL), ids[j]? = some id ∧ objs[j]? = some o ∧ ids.getD j 0 = id := fun j hj => by
    have hj' : j < ids.length := by omega
    exact ⟨ids[j], objs[j], by simp [hj'], by simp [hj], by simp [List.getD_eq_getElem?_getD, hj']⟩
  refine ⟨V, rfl, ⟨E', fun j => ids.getD j 0, rv, fun j o hj => ?_, fun j j' L L' hj hj' hL hL' e => ?_⟩, below_of gs (startH_fp hr)⟩
  · have hlt : j < objs.length := (List.getElem?_eq_some_iff.1 hj).1
    obtain ⟨id, o', e1, e2, e3⟩ := at_ j hlt
    rw [hj] at e2; cases e2
    obtain ⟨m1, m2, m3⟩ := k3 j id o e1 hj
    obtain ⟨c, c1, c2, c3⟩ := sameO_ok m3
    have ho := hr'.obj id
    rw [c1] at ho
    obtain ⟨L, arr, el, a1, a2, a3, a4, a5⟩ := ho
    refine ⟨L, arr, el, by show E' (ids.getD j 0) = some L; rw [e3]; exact a1, ?_, a2, a3, a4, c2, m2, fun i hi => by rw [← c3 i hi]; exact a5 i hi⟩
    rcases Nat.lt_or_ge L.blk w.heap.size with hl | hl
    · exact absurd (gs.fpm L.blk hl ⟨id, L, by omega, by rw [c1]; rfl, a1, rfl⟩) (startH_fp hr _)
    · exact hl
  · obtain ⟨id, o, e1, e2, e3⟩ := at_ j hj
    obtain ⟨id', o', e1', e2', e3'⟩ := at_ j' hj'
    obtain ⟨_, _, m3⟩ := k3 j id o e1 e2
    obtain ⟨_, _, m3'⟩ := k3 j' id' o' e1' e2'
    obtain ⟨c, c1, _⟩ := sameO_ok m3
    obtain ⟨c', c1', _⟩ := sameO_ok m3'
    dsimp only at hL hL'
    rw [e3] at hL
    rw [e3'] at hL'
    have ei := hr'.inj id id' L L' (by rw [c1]; rfl) (by rw [c1']; rfl) hL hL' e
    subst ei
    have l1 : j < ids.length := (List.getElem?_eq_some_iff.1 e1).1
    exact (List.getElem?_inj l1 k2).1 (e1.trans e1'.symm)

/-! ### Taken up by a caller -/
noncomputable def adoptH (g : Nat → Nat) : List ObjL → Nat → Heap → Heap
  | [], _, h => h
  | o :: os, i, h => adoptH g os (i + 1) (T.set (.cells o.n o.esz (wrCs (o.l.map (sh1 g)) ⟨o.w, bigR⟩ 0)) h i)
noncomputable def adoptK (g : Nat → Nat) (os : List ObjL) : Nat → Heap → (Heap → Bool) → Bool :=
  List.rec (motive := fun _ => Nat → Heap → (Heap → Bool) → Bool) (fun _ h k => k h)
    (fun o _ ih i h k => wrC (o.l.map (sh1 g)) ⟨o.w, bigR⟩ 0 fun c => T.setK (.cells o.n o.esz c) h i fun h' => forceN (Nat.succ i) fun i' => ih i' h' k) os
theorem adoptK_eq (g : Nat → Nat) : ∀ (os : List ObjL) (i : Nat) (h : Heap) (k : Heap → Bool), adoptK g os i h k = k (adoptH g os i h)
  | [], _, _, _ => rfl
  | o :: os, i, h, k => by
    show wrC _ _ _ _ = _
    rw [wrC_eq, T.setK_eq, forceN_eq]
    exact adoptK_eq g os (i + 1) _ k

theorem adopt_get (g : Nat → Nat) : ∀ (os : List ObjL) (i : Nat) (h : Heap), (∀ x, x < i ∨ i + os.length ≤ x → T.get .gone (adoptH g os i h) x = T.get .gone h x) ∧
    ∀ (j : Nat) (o : ObjL), os[j]? = some o → T.get .gone (adoptH g os i h) (i + j) = .cells o.n o.esz (wrCs (o.l.map (sh1 g)) ⟨o.w, bigR⟩ 0) ∨ T.get .gone (adoptH g os i h) (i + j) = .gone
  | [], i, h => ⟨fun _ _ => rfl, fun j o hj => by simp at hj⟩
  | o :: os, i, h => by
    obtain ⟨r1, r2⟩ := adopt_get g os (i + 1) (T.set (.cells o.n o.esz (wrCs (o.l.map (sh1 g)) ⟨o.w, bigR⟩ 0)) h i)
    refine ⟨fun x hx => ?_, fun j p hj => ?_⟩
    · rw [List.length_cons] at hx
      show T.get .gone (adoptH g os (i + 1) _) x = _
      rw [r1 x (by omega), T.get_set_ne _ _ _ _ _ (by omega)]
    · cases j with
      | zero =>
        simp at hj; subst hj
        show T.get .gone (adoptH g os (i + 1) _) i = _ ∨ T.get .gone (adoptH g os (i + 1) _) i = _
        rw [r1 i (by omega)]
        exact T.get_set_eq _ _ _ _
      | succ j =>
        have := r2 j p (by simpa using hj)
        rw [show i + (j + 1) = i + 1 + j by omega]
        exact this

theorem RO.wide {E E' : Env} (hle : E.le E') {w : World} {i : Nat} {a : AO} (r : RO E w i a) : RO E' w i a := by
  cases a with
  | gone => trivial
  | floor => trivial
  | facts fs => exact fun p hp => den_mono hle _ _ (r p hp)
  | cells n e c => obtain ⟨M, ar, e', h1, h2, h3, h4, h5⟩ := r; exact ⟨M, ar, e', hle _ _ h1, h2, h3, h4, fun j hj => (h5 j hj).mono hle⟩
  | map es ck => obtain ⟨M, ms, h1, h2, h3⟩ := r; exact ⟨M, ms, hle _ _ h1, h2, Env.mono_map hle _ _ h3⟩
  | siter l n p => obtain ⟨M, h1, h2, h3⟩ := r; exact ⟨M, hle _ _ h1, h2, h3⟩
  | glob g n c => obtain ⟨M, ar, e', fr, h1, h2, h3, h4, h5⟩ := r; exact ⟨M, ar, e', fr, hle _ _ h1, h2, h3, h4, fun j hj => (h5 j hj).mono hle⟩

/-- what is given, and what is answered: new memory -/
noncomputable def memC (ok : Heap → Bool → Bool) (args0 : List AV) (lit : AV) (objs : List ObjL) : Ct := fun args h nxt k => bc (sameL args args0) (ok h (adoptK (fun j => Nat.add nxt j) objs nxt h fun h' => forceN (Nat.add nxt objs.length) fun n' => k (sh2 (fun j => Nat.add nxt j) lit) h' n')) false

theorem memC_ok {P : Program} {g : FuncId} {ok : Heap → Bool → Bool} {args0 : List AV} {ARGS0 : Array Value} {lit : AV} {objs : List ObjL} {G : World → Prop} (hlit : ok2 objs.length lit = true)
    (hok : ∀ {E : Env} {h : Heap} {nxt : Nat} {w : World} {b : Bool}, ok h b = true → HR E h nxt w → b = true ∧ G w) (hex : exL args0 = true) (ra0 : ∀ E, RvL E args0 ARGS0.toList)
    (hc : ∀ w, G w → Calls P g ARGS0 w fun e w' => ∃ V, e = .returned V ∧ NewM w w' lit objs V ∧ RowKit.Below w.heap.size w w') : CtOK P g (memC ok args0 lit objs) := by
  intro args ARGS E h nxt w k he ra hr
  have he0 : bc (sameL args args0) (ok h (adoptK (fun j => Nat.add nxt j) objs nxt h fun h' => forceN (Nat.add nxt objs.length) fun n' => k (sh2 (fun j => Nat.add nxt j) lit) h' n')) false = true := he
  obtain ⟨h1, he1⟩ := bc_and he0
  obtain rfl := sameL_ok h1
  obtain ⟨he2, hG⟩ := hok he1 hr
  rw [adoptK_eq, forceN_eq] at he2
  have : ARGS = ARGS0 := by apply Array.ext'; exact RvL.exact (Env.le_refl E) args _ _ hex (ra0 E) ra
  subst this
  refine (hc w hG).mono ?_
  rintro e w' ⟨V, rfl, ⟨E', f, rv, hobj, hinj⟩, hb⟩
  have hp := hr.pos
  have hfl := hr.flle
  generalize hm : objs.length = m at *
  generalize hH : adoptH (fun j => Nat.add nxt j) objs nxt h = H at *
  let E2 : Env := fun i => if nxt ≤ i ∧ i < nxt + m then E' (f (i - nxt)) else E i
  have out : ∀ i, ¬ (nxt ≤ i ∧ i < nxt + m) → E2 i = E i := fun i hi => if_neg hi
  have inn : ∀ i, nxt ≤ i ∧ i < nxt + m → E2 i = E' (f (i - nxt)) := fun i hi => if_pos hi
  have hle : E.le E2 := fun i L hi => by
    rw [out i (fun hh => by rw [hr.fresh i hh.1] at hi; cases hi)]; exact hi
  have hM : Mt m E' f E2 (fun j => Nat.add nxt j) := fun j L hj hL => by
    show E2 (nxt + j) = some L
    rw [inn (nxt + j) ⟨by omega, by omega⟩, Nat.add_sub_cancel_left]; exact hL
  obtain ⟨g1, g2⟩ := adopt_get (fun j => Nat.add nxt j) objs nxt h
  rw [hH, hm] at g1
  rw [hH] at g2
  have gout : ∀ i, ¬ (nxt ≤ i ∧ i < nxt + m) → T.get .gone H i = T.get .gone h i := fun i hi => g1 i (by omega)
  have obj : ∀ i : Nat, nxt ≤ i ∧ i < nxt + m → ∃ o : ObjL, objs[i - nxt]? = some o ∧ (T.get .gone H i = .cells o.n o.esz (wrCs (o.l.map (sh1 fun j => Nat.add nxt j)) ⟨o.w, bigR⟩ 0) ∨ T.get .gone H i = .gone) := fun i hi => by
    have hlt : i - nxt < objs.length := by omega
    have := g2 (i - nxt) objs[i - nxt] (by simp [hlt])
    rw [show nxt + (i - nxt) = i by omega] at this
    exact ⟨objs[i - nxt], by simp [hlt], this⟩
  have hflr : flr H = flr h := by
    unfold flr
    rw [gout 0 (by omega)]
  have hr' := hr.below hb
  have hr2 : HR E2 H (nxt + m) w' := by
    refine ⟨fun i => ?_, fun i j L M hi hj hL hLM hbk => ?_, fun i hi => ?_, fun i hi => ?_, fun i L hL => ?_, by omega, by rw [hflr]; omega, by rw [gout 0 (by omega)]; exact hr.zero⟩
    · by_cases hin : nxt ≤ i ∧ i < nxt + m
      · obtain ⟨o, ho, e | e⟩ := obj i hin
        · rw [e]
          obtain ⟨L, arr, el, a1, a2, a3, a4, a5, a6, a7, a8⟩ := hobj _ o ho
          refine ⟨L, arr, el, by rw [inn i hin]; exact a1, a3, a4, a5, fun j hj => ?_⟩
          have hjl : j < o.l.length := by omega
          rcases wrCs_in (l := o.l.map (sh1 fun j => Nat.add nxt j)) (c := ⟨o.w, bigR⟩) (off := 0) (i := j) (by simpa using hjl) with e2 | e2 <;> rw [Nat.zero_add] at e2 <;> rw [e2]
          · have h8 := a8 j hj
            have nth : ∀ F : AV → AV, nthR (o.l.map F) j = F o.l[j] := fun F => by
              rw [nthR_eq]; simp [List.getD_eq_getElem?_getD, hjl]
            rw [nth] at h8 ⊢
            exact sh1_ok hM (List.all_eq_true.1 a7 _ (List.getElem_mem hjl)) h8
          · simp [Rv]
        · rw [e]; trivial
      · rw [gout i hin]
        exact (hr'.obj i).wide hle
    · by_cases hin : nxt ≤ i ∧ i < nxt + m <;> by_cases hjn : nxt ≤ j ∧ j < nxt + m
      · rw [inn i hin] at hL
        rw [inn j hjn] at hLM
        have := hinj (i - nxt) (j - nxt) L M (by omega) (by omega) hL hLM hbk
        omega
      · obtain ⟨o, ho, _⟩ := obj i hin
        obtain ⟨L', arr, el, a1, a2, _⟩ := hobj _ o ho
        rw [inn i hin, a1] at hL; cases hL
        rw [out j hjn] at hLM
        have := hr.inw j M hLM
        omega
      · obtain ⟨o, ho, _⟩ := obj j hjn
        obtain ⟨L', arr, el, a1, a2, _⟩ := hobj _ o ho
        rw [inn j hjn, a1] at hLM; cases hLM
        rw [out i hin] at hL
        have := hr.inw i L hL
        omega
      · rw [gout i hin] at hi
        rw [gout j hjn] at hj
        rw [out i hin] at hL
        rw [out j hjn] at hLM
        exact hr.inj i j L M hi hj hL hLM hbk
    · rw [gout i (by omega)]; exact hr.lt i (by omega)
    · rw [out i (by omega)]; exact hr.fresh i (by omega)
    · by_cases hin : nxt ≤ i ∧ i < nxt + m
      · obtain ⟨o, ho, _⟩ := obj i hin
        obtain ⟨L', arr, el, a1, a2, a3, _⟩ := hobj _ o ho
        rw [inn i hin, a1] at hL; cases hL
        exact (Array.getElem?_eq_some_iff.1 a3).1
      · rw [out i hin] at hL
        exact hr'.inw i L hL
  refine ⟨_, rfl, _, _, _, E2, sh2_ok hM hlit rv, hr2, ⟨hle, hb.size, fun k hk _ => hb.block k hk, fun k hk ⟨i, L, q1, q2, q3, q4⟩ => ?_, hflr, fun i hi => gout i (by omega), hb.os, hb.output, hb.tape⟩, he2⟩
  by_cases hin : nxt ≤ i ∧ i < nxt + m
  · obtain ⟨o, ho, _⟩ := obj i hin
    obtain ⟨L', arr, el, a1, a2, _⟩ := hobj _ o ho
    rw [inn i hin, a1] at q3; cases q3
    omega
  · rw [gout i hin] at q2
    rw [out i hin] at q3
    exact ⟨i, L, by rw [← hflr]; exact q1, q2, q3, q4⟩
end
end Go.Proofs.YtnkmiphcgjpgkaaGreatDoor.Vx
