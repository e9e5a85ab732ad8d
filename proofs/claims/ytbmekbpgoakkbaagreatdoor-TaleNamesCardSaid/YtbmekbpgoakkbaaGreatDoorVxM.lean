/- Maps with keys of one cell: made, looked up, written. No condition. -/
import Derived.Test.YtbmekbpgoakkbaaGreatDoorVxH
set_option linter.unusedVariables false
set_option linter.unusedSimpArgs false
set_option linter.constructorNameAsVariable false
set_option linter.unusedSectionVars false
namespace Go.Proofs.YtbmekbpgoakkbaaGreatDoor.Vx
open Go

section
variable {E : Env} {h : Heap} {nxt : Nat} {w : World}

/-- a block of the abstract memory is written: what becomes of the rest -/
theorem HR.put (hr : HR E h nxt w) {id : Nat} {a' : AO} {o' : Obj} (hlive : (T.get .gone h id).live = true) {L : Spot} (hL : E id = some L)
    (hro : RO E { w with heap := w.heap.setIfInBounds L.blk o' } id a') (hfl : flr h ≤ id) :
    HR E (T.set a' h id) nxt { w with heap := w.heap.setIfInBounds L.blk o' } ∧
    Goes E h w E (T.set a' h id) { w with heap := w.heap.setIfInBounds L.blk o' } := by
  have live_of : ∀ i, (T.get AO.gone (T.set a' h id) i).live = true → (T.get .gone h i).live = true := by
    intro i hi
    by_cases e : i = id
    · rw [e]; exact hlive
    · rwa [T.get_set_ne _ _ _ _ _ e] at hi
  have hfs : flr (T.set a' h id) = flr h := flr_set fun e => by subst e; rw [hr.zero] at hlive; cases hlive
  refine ⟨⟨fun i => ?_, fun i j A B hi hj => hr.inj i j A B (live_of i hi) (live_of j hj), fun i hi => ?_, hr.fresh, fun i M hM => by simpa using hr.inw i M hM, hr.pos, by rw [hfs]; exact hr.flle, by cases hl : (T.get AO.gone (T.set a' h id) 0).live with | false => rfl | true => (have := live_of 0 hl; rw [hr.zero] at this; cases this)⟩,
    Env.le_refl _, by simp, fun k hk hn => ?_, fun k hk ⟨i, M, hif, hi, hM, hk'⟩ => ⟨i, M, by rw [← hfs]; exact hif, live_of i hi, hM, hk'⟩, hfs,
    fun i hi => T.get_set_ne _ _ _ _ _ (by omega), rfl, rfl, rfl⟩
  · by_cases e : i = id
    · subst e
      rcases T.get_set_eq AO.gone a' h i with g | g <;> rw [g]
      · exact hro
      · trivial
    · rw [T.get_set_ne _ _ _ _ _ e]
      have hob := hr.obj i
      cases ho : T.get AO.gone h i <;> rw [ho] at hob
      case gone => trivial
      case floor => trivial
      case facts => exact hob
      case ali => exact hob
      all_goals
        have hne : ∀ M, E i = some M → L.blk ≠ M.blk := fun M hM hbe => e (hr.inj i id M L (by rw [ho]; rfl) hlive hM hL hbe.symm)
      case cells => 
        obtain ⟨M, ar, e', h1, h2, h3⟩ := hob
        exact ⟨M, ar, e', h1, by simp only [Array.getElem?_setIfInBounds_ne (hne M h1)]; exact h2, h3⟩
      case map =>
        obtain ⟨M, ms, h1, h2, h3⟩ := hob
        exact ⟨M, ms, h1, by simp only [Array.getElem?_setIfInBounds_ne (hne M h1)]; exact h2, h3⟩
      case siter =>
        obtain ⟨M, h1, h2, h3⟩ := hob
        exact ⟨M, h1, h2, by simp only [Array.getElem?_setIfInBounds_ne (hne M h1)]; exact h3⟩
      case glob =>
        obtain ⟨M, ar, e', fr, h1, h2, h3, h4, h5⟩ := hob
        exact ⟨M, ar, e', fr, h1, h2, by simp only [Array.getElem?_setIfInBounds_ne (hne M h1)]; exact h3, h4, h5⟩
      case rows =>
        obtain ⟨M, ar, n9, h1, hb0, h2, h3⟩ := hob
        exact ⟨M, ar, n9, h1, hb0, by simp only [Array.getElem?_setIfInBounds_ne (hne M h1)]; exact h2, h3⟩
      case blob =>
        obtain ⟨M, ar, n9, h1, hb0, h2, h3⟩ := hob
        exact ⟨M, ar, n9, h1, hb0, by simp only [Array.getElem?_setIfInBounds_ne (hne M h1)]; exact h2, h3⟩
  · cases hl : (T.get AO.gone (T.set a' h id) i).live with
    | false => rfl
    | true => have := live_of i hl; rw [hr.lt i hi] at this; cases this
  · simp only [Array.getElem?_setIfInBounds]
    split
    · rename_i hk'; exact absurd ⟨id, L, hfl, hlive, hL, hk'⟩ hn
    · rfl

/-! #### keys -/
noncomputable def keyD (d : TypeDesc) : Bool := match d with | .int _ => true | .string => true | .bool => true | _ => false

noncomputable def keyEq (d : TypeDesc) (x y : AV) (k : Bool → Bool) : Bool := match d with
  | .bool => (match x, y with
    | .b a, .b b => forceB (bc a b (bc b false true)) k
    | _, _ => false)
  | .int _ => (match x, y with
    | .i j a, .i j' b => bc (Nat.beq (ikc j) (ikc j')) (forceB (intEq a b) k) false
    | _, _ => false)
  | .string => (match x, y with
    | .s a x, .s b y => forceB (strEq a x b y) k
    | _, _ => false)
  | _ => false

theorem beq_bytes (a b : ByteArray) : (a == b) = (a.toList == b.toList) := by
  have : (a == b) = (a.data == b.data) := rfl
  rw [this, ByteArray.toList_eq, ByteArray.toList_eq, Bool.eq_iff_iff, beq_iff_eq, beq_iff_eq]
  exact ⟨fun h => by rw [h], fun h => Array.ext' h⟩

theorem keyEq_ok {d : TypeDesc} {x y : AV} {X Y : Value} {k : Bool → Bool} (he : keyEq d x y k = true) (rx : Rv E x X) (ry : Rv E y Y) :
    ∃ r, Instr.sameNow d X Y = some r ∧ k r = true ∧ (r = true → Instr.sameBits 10000 Y X = true) := by
  unfold keyEq at he
  split at he <;> try (cases he; done)
  · split at he <;> try (cases he; done)
    rename_i a b
    rw [Rv] at rx ry; subst rx; subst ry
    rw [forceB_eq] at he
    have e : bc a b (bc b false true) = (a == b) := by cases a <;> cases b <;> rfl
    rw [e] at he
    refine ⟨_, rfl, he, fun hr => ?_⟩
    cases a <;> cases b <;> first | rfl | cases hr
  · split at he <;> try (cases he; done)
    rename_i j a j' b
    obtain ⟨h1, h2⟩ := bc_and he
    have := ikc_inj h1
    subst this
    rw [Rv] at rx ry; subst rx; subst ry
    rw [forceB_eq, intEq_ok] at h2
    refine ⟨a == b, by simp [Instr.sameNow], h2, fun hr => ?_⟩
    have : a = b := by simpa using hr
    subst this
    simp [Instr.sameBits]
  · split at he <;> try (cases he; done)
    rename_i a x b y
    rw [Rv] at rx ry; subst rx; subst ry
    rw [forceB_eq, strEq_ok, ← beq_bytes] at he
    refine ⟨_, rfl, he, fun hr => ?_⟩
    rw [beq_bytes] at hr
    have : (str b y == str a x) = true := by
      rw [beq_bytes]
      have := eq_of_beq hr
      rw [this]; simp
    simpa [Instr.sameBits] using this

theorem checkKey_run {P : Program} {kt : TypeId} {d : TypeDesc} (hd : P.underlying kt = some d) (hk : keyD d = true) (b : Bool) (n : Nat) (K : Value) : (Instr.checkKey b (n + 1) kt K).run P w = .ok () w := by
  unfold Instr.checkKey
  rw [Sem.run_bind, run_underlying' hd]
  cases d <;> first | (cases hk; done) | rfl

/-- a struct as a key: its fields are keys of one cell -/
noncomputable def fieldsKey (P : Program) (xs : List AV) (fs : List Field) : Bool :=
  List.rec (motive := fun _ => Bool) true (fun f _ ih => bc (f.name == "_") ih (partK P f.type xs f.offset fun _ => match P.underlying f.type with | some d => bc (keyD d) ih false | none => false)) fs
noncomputable def keyM (P : Program) (d : TypeDesc) (x : AV) : Bool := match d with
  | .struct fs => (match x with
    | .ag xs => fieldsKey P xs fs.toList
    | _ => false)
  | d => keyD d

theorem fieldsKey_run {P : Program} (b : Bool) (n : Nat) {xs : List AV} {vs : Array Value} (rx : RvL E xs vs.toList) : ∀ (l : List Field), fieldsKey P xs l = true →
    (forIn (m := Sem) l PUnit.unit fun f _ => if f.name ≠ "_" then (do
      let x ← part f.type vs f.offset
      Instr.checkKey b (n + 1) f.type x
      pure (ForInStep.yield PUnit.unit)) else pure (ForInStep.yield PUnit.unit)).run P w = .ok PUnit.unit w
  | [], _ => by simp
  | f :: l, he => by
    have he : bc (f.name == "_") (fieldsKey P xs l) (partK P f.type xs f.offset fun _ => match P.underlying f.type with | some d => bc (keyD d) (fieldsKey P xs l) false | none => false) = true := he
    rcases bc_or he with ⟨hn, he⟩ | ⟨hn, he⟩
    · have hn : f.name = "_" := by simpa using hn
      have := fieldsKey_run b n rx l he
      simp only [List.forIn_cons, Sem.run_bind, Sem.run_ite, hn, ne_eq, not_true_eq_false, if_false, Sem.run_pure, Result.andThen_ok] at this ⊢
      exact this
    · have hn : f.name ≠ "_" := by simpa using hn
      obtain ⟨v, V, h1, _, he⟩ := partK_ok (w := w) (vs := vs) he rx
      split at he <;> try (cases he; done)
      rename_i d hd
      obtain ⟨hk, he⟩ := bc_and he
      have := fieldsKey_run b n rx l he
      simp only [List.forIn_cons, Sem.run_bind, Sem.run_ite, hn, ne_eq, not_false_eq_true, if_true, Sem.run_pure, Result.andThen_ok, h1, checkKey_run hd hk] at this ⊢
      exact this

theorem checkK_run {P : Program} {kt : TypeId} {d : TypeDesc} {x : AV} {X : Value} (hd : P.underlying kt = some d) (hk : keyM P d x = true) (rx : Rv E x X) (b : Bool) : (Instr.checkKey b 10000 kt X).run P w = .ok () w := by
  unfold keyM at hk
  split at hk
  · rename_i fs
    split at hk <;> try (cases hk; done)
    rename_i xs
    rw [Rv] at rx
    obtain ⟨vs, rfl, rx⟩ := rx
    have := fieldsKey_run (P := P) (w := w) b 9998 (vs := vs.toArray) (by simpa using rx) fs.toList hk
    show (Instr.checkKey b (9999 + 1) kt _).run P w = _
    unfold Instr.checkKey
    rw [Sem.run_bind, run_underlying' hd]
    simp only [Result.andThen_ok]
    rw [← Array.forIn_toList, Sem.run_bind]
    have h2 := this
    simp only [show (9998 + 1 : Nat) = 9999 from rfl] at h2
    rw [h2]
    rfl
  · exact checkKey_run hd hk b 9999 X

noncomputable def findE (d : TypeDesc) (key : AV) (es : List Ent) (k : Option AV → Bool) : Bool :=
  List.rec (motive := fun _ => Bool) (k none) (fun e _ ih => keyEq d key e.key fun r => bc r (force e.val fun v => k (some v)) ih) es

theorem findE_ok {d : TypeDesc} {key : AV} {K : Value} {k : Option AV → Bool} (rk : Rv E key K) : ∀ (es : List Ent) (ms : List MapEntry) (i : Nat), findE d key es k = true → REntL E es ms →
    (Instr.findNow d K ms i = some none ∧ k none = true) ∨ ∃ j v V, Instr.findNow d K ms i = some (some (j, V)) ∧ Rv E v V ∧ k (some v) = true
  | [], ms, i, he, r => by
    have : ms = [] := r
    subst this
    exact .inl ⟨rfl, he⟩
  | e :: es, ms, i, he, r => by
    obtain ⟨m, ms', rfl, ⟨r1, r2, _⟩, r4⟩ := r
    have he : keyEq d key e.key (fun r => bc r (force e.val fun v => k (some v)) (findE d key es k)) = true := he
    obtain ⟨b, h1, h2, _⟩ := keyEq_ok he rk r1
    rcases bc_or h2 with ⟨rfl, h2⟩ | ⟨rfl, h2⟩
    · rw [force_eq] at h2
      exact .inr ⟨i, e.val, m.val, by simp [Instr.findNow, h1], r2, h2⟩
    · simp only [Instr.findNow, h1]
      exact findE_ok rk es ms' (i + 1) h2 r4

/-- the same where keys are structs: they are compared -/
noncomputable def findS (P : Program) (h : Heap) (kt : TypeId) (key : AV) (es : List Ent) (k : Option AV → Bool) : Bool :=
  List.rec (motive := fun _ => Bool) (k none) (fun e _ ih => aeqK P h 10000 kt key e.key fun r => match r with | .lb x => bc x (force e.val fun v => k (some v)) ih | _ => false) es
theorem findS_ok {P : Program} {kt : TypeId} {key : AV} {K : Value} {k : Option AV → Bool} (rk : Rv E key K) (hr : HR E h nxt w) : ∀ (es : List Ent) (ms : List MapEntry) (i : Nat), findS P h kt key es k = true → REntL E es ms →
    ((Instr.findAsking kt K ms i).run P w = .ok none w ∧ k none = true) ∨ ∃ j v V, (Instr.findAsking kt K ms i).run P w = .ok (some (j, V)) w ∧ Rv E v V ∧ k (some v) = true
  | [], ms, i, he, r => by
    have : ms = [] := r
    subst this
    exact .inl ⟨by simp [Instr.findAsking], he⟩
  | e :: es, ms, i, he, r => by
    obtain ⟨m, ms', rfl, ⟨r1, r2, _⟩, r4⟩ := r
    have he : aeqK P h 10000 kt key e.key (fun r => match r with | .lb x => bc x (force e.val fun v => k (some v)) (findS P h kt key es k) | _ => false) = true := he
    obtain ⟨b, e1, h1, h2, h3⟩ := aeqK_ok 10000 he rk r1 hr
    have h1 : (Op.equal kt K m.key).run P w = .ok b w := h1
    split at h3 <;> try (cases h3; done)
    rename_i x
    simp only [den, Option.some.injEq, Value.bool.injEq] at h2
    subst h2
    rcases bc_or h3 with ⟨rfl, h3⟩ | ⟨rfl, h3⟩
    · rw [force_eq] at h3
      exact .inr ⟨i, e.val, m.val, by simp [Instr.findAsking, h1], r2, h3⟩
    · simp only [Instr.findAsking, Sem.run_bind, h1, Result.andThen_ok, Bool.false_eq_true, if_false]
      exact findS_ok rk hr es ms' (i + 1) h3 r4

noncomputable def findM (P : Program) (h : Heap) (kt : TypeId) (d : TypeDesc) (key : AV) (es : List Ent) (k : Option AV → Bool) : Bool := match d with
  | .struct _ => findS P h kt key es k
  | d => findE d key es k
noncomputable def evZeroOk (P : Program) (el : TypeId) (ok : Bool) (k : AV → Bool) : Bool := match P.info? el with
  | some j => (match j.zero with
    | some z => force (absV z) fun z => bc ok (k (.tu [z, .b false])) (k z)
    | none => false)
  | none => false

noncomputable def evLookup (P : Program) (t : TypeId) (x ix : AV) (ok : Bool) (h : Heap) (k : AV → Bool) : Bool := match P.underlying t with
  | some (.map kt el) => (match P.underlying kt with
    | some d => bc (keyM P d ix) (match x with
      | .mp id => (match T.get .gone h id with
        | .map es _ => findM P h kt d ix es fun r => (match r with
          | some v => bc ok (k (.tu [v, .b true])) (k v)
          | none => evZeroOk P el ok k)
        | _ => false)
      | .mpn => evZeroOk P el ok k
      | _ => false) false
    | none => false)
  | _ => false

theorem evZeroOk_ok {P : Program} {el : TypeId} {ok : Bool} {k : AV → Bool} (he : evZeroOk P el ok k = true) :
    ∃ z v, (zeroValue el).run P w = .ok z w ∧ Rv E v (if ok = true then .tuple #[z, .bool false] else z) ∧ k v = true := by
  unfold evZeroOk at he
  split at he <;> try (cases he; done)
  rename_i j hj
  split at he <;> try (cases he; done)
  rename_i z hz
  rw [force_eq] at he
  rcases bc_or he with ⟨rfl, he⟩ | ⟨rfl, he⟩
  · exact ⟨z, _, run_zeroValue' hj hz, by simp only [if_true]; rw [Rv]; exact ⟨[z, .bool false], rfl, .cons (absV_ok E z) (.cons (by rw [Rv]) .nil)⟩, he⟩
  · exact ⟨z, _, run_zeroValue' hj hz, by simpa using absV_ok E z, he⟩

theorem run_findKey {P : Program} {kt : TypeId} {d : TypeDesc} (hd : P.underlying kt = some d) {K : Value} {ms : List MapEntry} {r : Option (Nat × Value)} (hf : Instr.findNow d K ms 0 = some r) : (Instr.findKey kt K ms).run P w = .ok r w := by
  unfold Instr.findKey
  rw [Sem.run_bind, run_underlying' hd]
  simp only [Result.andThen_ok, hf]
  rfl

theorem findNow_struct {fs : Array Field} {K : Value} {es : List MapEntry} (i : Nat) : Instr.findNow (.struct fs) K es i = none ∨ (es = [] ∧ Instr.findNow (.struct fs) K es i = some none) := by
  cases es with
  | nil => exact .inr ⟨rfl, rfl⟩
  | cons e es => left; simp [Instr.findNow, Instr.sameNow]
theorem findM_ok {P : Program} {kt : TypeId} {d : TypeDesc} {key : AV} {K : Value} {es : List Ent} {ms : List MapEntry} {k : Option AV → Bool} (hd : P.underlying kt = some d) (he : findM P h kt d key es k = true) (rk : Rv E key K) (rm : REntL E es ms) (hr : HR E h nxt w) :
    ((Instr.findKey kt K ms).run P w = .ok none w ∧ k none = true) ∨ ∃ j v V, (Instr.findKey kt K ms).run P w = .ok (some (j, V)) w ∧ Rv E v V ∧ k (some v) = true := by
  unfold findM at he
  split at he
  · have hq : (Instr.findKey kt K ms).run P w = (Instr.findAsking kt K ms 0).run P w := by
      unfold Instr.findKey
      rw [Sem.run_bind, run_underlying' hd]
      simp only [Result.andThen_ok]
      rcases findNow_struct (K := K) (es := ms) 0 with h1 | ⟨rfl, h1⟩
      · rw [h1]
      · rw [h1]; simp [Instr.findAsking]
    rw [hq]
    exact findS_ok rk hr es ms 0 he rm
  · rcases findE_ok rk es ms 0 he rm with ⟨h1, h2⟩ | ⟨j, v, V, h1, h2, h3⟩
    · exact .inl ⟨run_findKey hd h1, h2⟩
    · exact .inr ⟨j, v, V, run_findKey hd h1, h2, h3⟩

theorem evLookup_ok {P : Program} {t : TypeId} {x ix : AV} {X IX : Value} {ok : Bool} {k : AV → Bool} (he : evLookup P t x ix ok h k = true) (rx : Rv E x X) (ri : Rv E ix IX) (hr : HR E h nxt w) :
    ∃ v W, (Instr.lookup t X IX ok).run P w = .ok W w ∧ Rv E v W ∧ k v = true := by
  unfold evLookup at he
  split at he <;> try (cases he; done)
  rename_i kt el ht
  split at he <;> try (cases he; done)
  rename_i d hd
  obtain ⟨hk, he1⟩ := bc_and he
  clear he
  split at he1 <;> try (cases he1; done)
  · rename_i id
    split at he1 <;> try (cases he1; done)
    rename_i es clock hes
    have ho := hr.obj id
    rw [hes] at ho
    obtain ⟨L, ms, hL, hb, hms⟩ := ho
    rw [Rv] at rx
    obtain ⟨L', hL', rfl⟩ := rx
    rw [hL] at hL'; cases hL'
    have hget : (getObj L.blk).run P w = .ok (.map ms clock) w := by
      simp only [getObj, Sem.run, hb]
    rcases findM_ok hd he1 ri hms hr with ⟨h1, h2⟩ | ⟨j, v, V, h1, h2, h3⟩
    · obtain ⟨z, v, e1, e2, e3⟩ := evZeroOk_ok (E := E) (w := w) h2
      refine ⟨v, _, ?_, e2, e3⟩
      simp only [Instr.lookup, Sem.run_bind, run_underlying' ht, Result.andThen_ok, hget, Sem.run_pure, checkK_run hd hk ri, h1, e1]
    · have : ∃ v', Rv E v' (if ok = true then Value.tuple #[V, .bool true] else V) ∧ k v' = true := by
        rcases bc_or h3 with ⟨rfl, h3⟩ | ⟨rfl, h3⟩
        · exact ⟨_, by simp only [if_true]; rw [Rv]; exact ⟨[V, .bool true], rfl, .cons h2 (.cons (by rw [Rv]) .nil)⟩, h3⟩
        · exact ⟨_, by simpa using h2, h3⟩
      obtain ⟨v', e2, e3⟩ := this
      refine ⟨v', _, ?_, e2, e3⟩
      simp only [Instr.lookup, Sem.run_bind, run_underlying' ht, Result.andThen_ok, hget, Sem.run_pure, checkK_run hd hk ri, h1]
  · rw [Rv] at rx; subst rx
    obtain ⟨z, v, e1, e2, e3⟩ := evZeroOk_ok (E := E) (w := w) he1
    refine ⟨v, _, ?_, e2, e3⟩
    simp only [Instr.lookup, Sem.run_bind, run_underlying' ht, Result.andThen_ok, Sem.run_pure, checkK_run hd hk ri, run_findKey (ms := (#[] : Array MapEntry).toList) hd (show Instr.findNow d IX (#[] : Array MapEntry).toList 0 = some none from rfl), e1]

/-! #### written -/
noncomputable def putE (d : TypeDesc) (key val : AV) (clock : Nat) (es : List Ent) : (List Ent → Nat → Bool) → Bool :=
  List.rec (motive := fun _ => (List Ent → Nat → Bool) → Bool) (fun k => forceN (Nat.succ clock) fun c => k [⟨key, val, clock⟩] c)
    (fun e es ih k => keyEq d key e.key fun r => bc r (k (⟨key, val, e.born⟩ :: es) clock) (ih fun l c => k (e :: l) c)) es

theorem putE_ok {d : TypeDesc} {key val : AV} {K V : Value} {clock : Nat} (rk : Rv E key K) (rv : Rv E val V) : ∀ (es : List Ent) (ms : List MapEntry) (i : Nat) {k : List Ent → Nat → Bool}, putE d key val clock es k = true → REntL E es ms →
    (Instr.findNow d K ms i = some none ∧ ∃ es', REntL E es' (ms ++ [⟨K, V, clock⟩]) ∧ k es' (clock + 1) = true) ∨
    ∃ j U old es', Instr.findNow d K ms i = some (some (i + j, U)) ∧ ms[j]? = some old ∧ Instr.sameBits 10000 old.key K = true ∧ REntL E es' (ms.modify j fun e => { e with key := K, val := V }) ∧ k es' clock = true
  | [], ms, i, k, he, r => by
    have : ms = [] := r
    subst this
    have he : forceN (Nat.succ clock) (fun c => k [⟨key, val, clock⟩] c) = true := he
    rw [forceN_eq] at he
    exact .inl ⟨rfl, [⟨key, val, clock⟩], ⟨⟨K, V, clock⟩, [], rfl, ⟨rk, rv, rfl⟩, rfl⟩, he⟩
  | e :: es, ms, i, k, he, r => by
    obtain ⟨m, ms', rfl, ⟨r1, r2, r3⟩, r4⟩ := r
    have he : keyEq d key e.key (fun r => bc r (k (⟨key, val, e.born⟩ :: es) clock) (putE d key val clock es fun l c => k (e :: l) c)) = true := he
    obtain ⟨b, h1, h2, h3⟩ := keyEq_ok he rk r1
    rcases bc_or h2 with ⟨rfl, h2⟩ | ⟨rfl, h2⟩
    · refine .inr ⟨0, m.val, m, _, by simp [Instr.findNow, h1], rfl, h3 rfl, ?_, h2⟩
      exact ⟨_, ms', rfl, ⟨rk, rv, r3⟩, r4⟩
    · simp only [Instr.findNow, h1]
      rcases putE_ok rk rv es ms' (i + 1) h2 r4 with ⟨k1, es', k2, k3⟩ | ⟨j, U, old, es', k1, k2, k3, k4, k5⟩
      · exact .inl ⟨k1, e :: es', ⟨m, _, rfl, ⟨r1, r2, r3⟩, k2⟩, k3⟩
      · refine .inr ⟨j + 1, U, old, e :: es', by rw [k1]; congr 3; omega, by simpa using k2, k3, ?_, k5⟩
        exact ⟨m, _, rfl, ⟨r1, r2, r3⟩, k4⟩

/-- a new key that is a struct -/
noncomputable def newM (P : Program) (h : Heap) (kt : TypeId) (key : AV) (es : List Ent) (k : Bool) : Bool := findS P h kt key es fun r => match r with | none => k | some _ => false
noncomputable def pushM (x : Ent) (es : List Ent) (k : List Ent → Bool) : Bool := List.rec (motive := fun _ => (List Ent → Bool) → Bool) (fun k => k [x]) (fun e _ ih k => ih fun l => k (e :: l)) es k
theorem pushM_eq (x : Ent) : ∀ (es : List Ent) (k : List Ent → Bool), pushM x es k = k (es ++ [x])
  | [], _ => rfl
  | e :: es, k => pushM_eq x es fun l => k (e :: l)
noncomputable def putM (P : Program) (h : Heap) (kt : TypeId) (d : TypeDesc) (key val : AV) (clock : Nat) (es : List Ent) (k : List Ent → Nat → Bool) : Bool := match d with
  | .struct _ => newM P h kt key es (forceN (Nat.succ clock) fun c => pushM ⟨key, val, clock⟩ es fun l => k l c)
  | d => putE d key val clock es k
theorem REntL.push {es : List Ent} {ms : List MapEntry} {x : Ent} {m : MapEntry} (r : REntL E es ms) (h1 : REntL E [x] [m]) : REntL E (es ++ [x]) (ms ++ [m]) := by
  induction es generalizing ms with
  | nil => have : ms = [] := r
           subst this; exact h1
  | cons e es ih =>
    obtain ⟨a, ms', rfl, r1, r2⟩ := r
    exact ⟨a, ms' ++ [m], rfl, r1, ih r2⟩
theorem putM_ok {P : Program} {kt : TypeId} {d : TypeDesc} {key val : AV} {K V : Value} {clock : Nat} {es : List Ent} {ms : List MapEntry} {k : List Ent → Nat → Bool} (hd : P.underlying kt = some d) (he : putM P h kt d key val clock es k = true) (rk : Rv E key K) (rv : Rv E val V) (rm : REntL E es ms) (hr : HR E h nxt w) :
    ((Instr.findKey kt K ms).run P w = .ok none w ∧ ∃ es', REntL E es' (ms ++ [⟨K, V, clock⟩]) ∧ k es' (clock + 1) = true) ∨
    ∃ j U old es', (Instr.findKey kt K ms).run P w = .ok (some (j, U)) w ∧ ms[j]? = some old ∧ Instr.sameBits 10000 old.key K = true ∧ REntL E es' (ms.modify j fun e => { e with key := K, val := V }) ∧ k es' clock = true := by
  unfold putM at he
  split at he
  · rename_i fs
    unfold newM at he
    rcases findM_ok (d := .struct fs) (k := fun r => match r with | none => forceN (Nat.succ clock) (fun c => pushM ⟨key, val, clock⟩ es fun l => k l c) | some _ => false) hd he rk rm hr with ⟨h1, h2⟩ | ⟨j, v, V, h1, h2, h3⟩
    · left
      have h2 : forceN (Nat.succ clock) (fun c => pushM ⟨key, val, clock⟩ es fun l => k l c) = true := h2
      rw [forceN_eq, pushM_eq] at h2
      exact ⟨h1, _, rm.push ⟨⟨K, V, clock⟩, [], rfl, ⟨rk, rv, rfl⟩, rfl⟩, h2⟩
    · cases h3
  · rcases putE_ok rk rv es ms 0 he rm with ⟨h1, es', h2, h3⟩ | ⟨j, U, old, es', h1, h2, h3, h4, h5⟩
    · exact .inl ⟨run_findKey hd h1, es', h2, h3⟩
    · exact .inr ⟨j, U, old, es', by rw [Nat.zero_add] at h1; exact run_findKey hd h1, h2, h3, h4, h5⟩

noncomputable def evMapPut (P : Program) (t : TypeId) (x key val : AV) (h : Heap) (k : Heap → Bool) : Bool := match P.underlying t with
  | some (.map kt _) => (match P.underlying kt with
    | some d => bc (keyM P d key) (match x with
      | .mp id => (match T.get .gone h id with
        | .map es clock => putM P h kt d key val clock es fun es' c => flrOK h id (T.setK (.map es' c) h id k)
        | _ => false)
      | _ => false) false
    | none => false)
  | _ => false

theorem frz_setMap {L : Spot} {ms ms' : Array MapEntry} {c c' : Nat} (hb : w.heap[L.blk]? = some (.map ms c)) (hlt : L.blk < w.heap.size) (a : Addr) :
    ({ w with heap := w.heap.setIfInBounds L.blk (.map ms' c') } : World).frozen? a = w.frozen? a := by
  unfold World.frozen?
  simp only [Array.getElem?_setIfInBounds]
  by_cases e : L.blk = a.block
  · rw [if_pos e, ← e, hb, if_pos hlt]
  · rw [if_neg e]

theorem evMapPut_ok {P : Program} {t : TypeId} {x key val : AV} {X K V : Value} {k : Heap → Bool} (he : evMapPut P t x key val h k = true) (rx : Rv E x X) (rk : Rv E key K) (rv : Rv E val V) (hr : HR E h nxt w) :
    ∃ h' w', (Instr.mapUpdate t X K V).run P w = .ok () w' ∧ HR E h' nxt w' ∧ Goes E h w E h' w' ∧ k h' = true := by
  unfold evMapPut at he
  split at he <;> try (cases he; done)
  rename_i kt el ht
  split at he <;> try (cases he; done)
  rename_i d hd
  obtain ⟨hk, he1⟩ := bc_and he
  clear he
  split at he1 <;> try (cases he1; done)
  rename_i id
  split at he1 <;> try (cases he1; done)
  rename_i es clock hes
  have ho := hr.obj id
  rw [hes] at ho
  obtain ⟨L, ms, hL, hb, hms⟩ := ho
  rw [Rv] at rx
  obtain ⟨L', hL', rfl⟩ := rx
  rw [hL] at hL'; cases hL'
  have hlt := hr.inw id L hL
  have hlive : (T.get .gone h id).live = true := by rw [hes]; rfl
  have hget : (getObj L.blk).run P w = .ok (.map ms clock) w := by
    simp only [getObj, Sem.run, hb]
  have hset : ∀ o, (setObj L.blk o).run P w = .ok () { w with heap := w.heap.setIfInBounds L.blk o } := fun o => by
    simp only [setObj, Sem.run, hb]
  have fin : ∀ (es' : List Ent) (ms' : Array MapEntry) (c' : Nat), REntL E es' ms'.toList → flrOK h id (T.setK (.map es' c') h id k) = true →
      ∃ h', HR E h' nxt { w with heap := w.heap.setIfInBounds L.blk (.map ms' c') } ∧ Goes E h w E h' { w with heap := w.heap.setIfInBounds L.blk (.map ms' c') } ∧ k h' = true := by
    intro es' ms' c' hm hf
    obtain ⟨h1, h2⟩ := flrOK_ok hf
    rw [T.setK_eq] at h2
    obtain ⟨g1, g2⟩ := hr.put (a' := .map es' c') (o' := .map ms' c') hlive hL ⟨L, ms', hL, by simp [hlt], hm⟩ h1
    exact ⟨_, g1, g2, h2⟩
  rcases putM_ok hd he1 rk rv hms hr with ⟨h1, es', h2, h3⟩ | ⟨j, U, old, es', h1, h2, h3, h4, h5⟩
  · obtain ⟨h', g1, g2, g3⟩ := fin es' (ms.push ⟨K, V, clock⟩) (clock + 1) (by simpa using h2) h3
    refine ⟨h', _, ?_, g1, g2, g3⟩
    simp only [Instr.mapUpdate, Sem.run_bind, run_underlying' ht, Result.andThen_ok, hget, checkK_run hd hk rk, h1, hset]
  · obtain ⟨h', g1, g2, g3⟩ := fin es' (ms.modify j fun e => { e with key := K, val := V }) clock (by rw [Array.toList_modify]; exact h4) h5
    refine ⟨h', _, ?_, g1, g2, g3⟩
    have hst : (Instr.keyThatStays (((ms[j]?).map (·.key)).getD K) K).run P w = .ok K w := by
      have : ms[j]? = some old := by rw [← Array.getElem?_toList]; exact h2
      simp [this, Instr.keyThatStays, h3]
    simp only [Instr.mapUpdate, Sem.run_bind, run_underlying' ht, Result.andThen_ok, hget, checkK_run hd hk rk, h1, hst, hset]

/-! #### made -/
noncomputable def evMakeMap (h : Heap) (nxt : Nat) (k : K) : Bool := T.setK (.map [] 0) h nxt fun h' => forceN (Nat.succ nxt) fun n => k (.mp nxt) h' n

noncomputable def evMakeMapN (P : Program) (t : TypeId) (v : AV) (h : Heap) (nxt : Nat) (k : K) : Bool := match P.underlying t with
  | some (.map _ _) => (match v with | .i _ _ => evMakeMap h nxt k | _ => false)
  | _ => false

theorem evMakeMap_ok {P : Program} {t : TypeId} {k : K} (he : evMakeMap h nxt k = true) (hr : HR E h nxt w) : Made' P (Instr.makeMap t none) E h w k := by
  unfold evMakeMap at he
  rw [T.setK_eq, forceN_eq] at he
  obtain ⟨g1, g2⟩ := hr.alloc (.map #[] 0) (by rintro c e f h; cases h) ⟨w.heap.size, 0, 0⟩ rfl (.map [] 0) ⟨⟨w.heap.size, 0, 0⟩, #[], by simp, by simp, rfl⟩
  refine ⟨_, _, _, _, _, .map (some w.heap.size), ?_, ?_, g1, g2, he⟩
  · simp [Instr.makeMap]
  · rw [Rv]; exact ⟨⟨w.heap.size, 0, 0⟩, by simp, rfl⟩
theorem evMakeMapN_ok {P : Program} {t : TypeId} {v : AV} {V : Value} {k : K} (he : evMakeMapN P t v h nxt k = true) (rv : Rv E v V) (hr : HR E h nxt w) : Made' P (Instr.makeMap t (some V)) E h w k := by
  unfold evMakeMapN at he
  split at he <;> try (cases he; done)
  rename_i kt el ht
  split at he <;> try (cases he; done)
  rename_i j n
  rw [Rv] at rv
  subst rv
  unfold evMakeMap at he
  rw [T.setK_eq, forceN_eq] at he
  obtain ⟨g1, g2⟩ := hr.alloc (.map #[] 0) (by rintro c e f h; cases h) ⟨w.heap.size, 0, 0⟩ rfl (.map [] 0) ⟨⟨w.heap.size, 0, 0⟩, #[], by simp, by simp, rfl⟩
  refine ⟨_, _, _, _, _, .map (some w.heap.size), ?_, ?_, g1, g2, he⟩
  · simp [Instr.makeMap, run_underlying' ht, asInt, asIntOf]
  · rw [Rv]; exact ⟨⟨w.heap.size, 0, 0⟩, by simp, rfl⟩
end

/-! #### a part of a string that is given -/
section
variable {E : Env} {h : Heap} {nxt : Nat} {w : World}
noncomputable def ixE (v : Option AV) (d : SE) (k : SE → Bool) : Bool := match v with
  | none => k d
  | some (.i .i64 n) => k (.li .i64 n)
  | some (.x (.i .i64) e) => k e
  | _ => false
noncomputable def leK (a b : SE) (fs : Facts) : Bool := match a with
  | .li _ n => aboveS b (n - 1) fs
  | a => bc (seEq a b) true (Nat.beq (look (.cmp .leq a b) fs) 1)
noncomputable def evSliceS (P : Program) (t : TypeId) (e : SE) (lo hi mx : Option AV) (fs : Facts) (k : AV → Bool) : Bool := match P.underlying t with
  | some .string => (match mx with
    | none => ixE lo (.li .i64 0) fun l => ixE hi (.len e) fun m => bc (aboveS l (-1) fs) (bc (leK l m fs) (bc (leK m (.len e) fs) (k (.x .s (.fn2 8 e (.fn2 0 l m)))) false) false) false
    | some _ => false)
  | _ => false
noncomputable def evSliceH (P : Program) (t : TypeId) (x : AV) (lo hi mx : Option AV) (h : Heap) (k : AV → Bool) : Bool := match x with
  | .x .s e => evSliceS P t e lo hi mx (factsOf h) k
  | .sx id m len cap => (match lo, hi, mx with
    | some (.i .i64 (.ofNat q)), none, none => (match P.underlying t with
      | some (.slice el) => (match P.info? el with
        | some i => (match T.get .gone h 29 with
          | .ali p off q' cap' => bc (bc (Nat.beq p id) (bc (Nat.beq off (Nat.mul q i.size)) (bc (Nat.beq q' q) (seEq cap' cap) false) false) false) (bc (Nat.ble q m) (bc (leK len cap (factsOf h)) (k (.sz 29 (.fn2 5 len (.li .i64 (.ofNat q))))) false) false) false
          | _ => false)
        | none => false)
      | _ => false)
    | _, _, _ => false)
  | x => evSlice P t x lo hi mx k
theorem leK_ok {a b : SE} {fs : Facts} {A B : Int} (he : leK a b fs = true) (hf : Holds E fs) (ha : den E a = some (.int .i64 A)) (hb : den E b = some (.int .i64 B)) : A ≤ B := by
  unfold leK at he
  split at he
  · rename_i kk n
    simp only [den, Option.some.injEq, Value.int.injEq] at ha
    obtain ⟨_, rfl⟩ := ha
    have := aboveS_ok hf b hb he
    omega
  · rcases bc_or he with ⟨h1, _⟩ | ⟨_, h1⟩
    · have := seEq_ok h1
      subst this
      rw [ha] at hb; cases hb; exact Int.le_refl _
    · have h2 := (look_ok hf).1 (Nat.eq_of_beq_eq_true h1)
      simp only [den, ha, hb, cmpV, cmpI, Option.map_some, Option.some.injEq, Value.bool.injEq] at h2
      simpa using h2
theorem ixE_ok {v : Option AV} {V : Option Value} {d : SE} {k : SE → Bool} (he : ixE v d k = true) (r : Rvo E v V) :
    (V = none ∧ k d = true) ∨ ∃ e n, V = some (.int .i64 n) ∧ den E e = some (.int .i64 n) ∧ k e = true := by
  unfold ixE at he
  split at he <;> try (cases he; done)
  · exact .inl ⟨r, he⟩
  · rename_i n
    obtain ⟨W, rfl, rw1⟩ := r
    rw [Rv] at rw1; subst rw1
    exact .inr ⟨_, n, rfl, rfl, he⟩
  · rename_i e
    obtain ⟨W, rfl, rw1⟩ := r
    rw [Rv] at rw1
    obtain ⟨hd, n, rfl, _⟩ := rw1
    exact .inr ⟨e, n, rfl, hd, he⟩
theorem evSliceS_ok {P : Program} {t : TypeId} {e : SE} {s : ByteArray} {lo hi mx : Option AV} {LO HI MX : Option Value} {k : AV → Bool} (he : evSliceS P t e lo hi mx (factsOf h) k = true) (hd : den E e = some (.string s)) (hs : (s.size : Int) ≤ 9223372036854775807)
    (rl : Rvo E lo LO) (rh : Rvo E hi HI) (rm : Rvo E mx MX) (hr : HR E h nxt w) : ∃ v W, (Instr.sliceAt t (.string s) LO HI MX).run P w = .ok W w ∧ Rv E v W ∧ k v = true := by
  unfold evSliceS at he
  split at he <;> try (cases he; done)
  rename_i hu
  split at he <;> try (cases he; done)
  rw [show MX = none from rm]
  have hf := factsOf_ok hr
  have hlen : den E (.len e) = some (.int .i64 s.size) := by simp only [den, hd]
  have fin : ∀ (l m : SE) (L M : Int), den E l = some (.int .i64 L) → den E m = some (.int .i64 M) → bc (aboveS l (-1) (factsOf h)) (bc (leK l m (factsOf h)) (bc (leK m (.len e) (factsOf h)) (k (.x .s (.fn2 8 e (.fn2 0 l m)))) false) false) false = true →
      ∃ a b : Nat, L = a ∧ M = b ∧ a ≤ b ∧ b ≤ s.size ∧ Rv E (.x .s (.fn2 8 e (.fn2 0 l m))) (.string (s.extract a b)) ∧ k (.x .s (.fn2 8 e (.fn2 0 l m))) = true := by
    intro l m L M hl hm he
    obtain ⟨h1, he⟩ := bc_and he
    obtain ⟨h2, he⟩ := bc_and he
    obtain ⟨h3, he⟩ := bc_and he
    have h1 := aboveS_ok hf l hl h1
    have h2 := leK_ok h2 hf hl hm
    have h3 := leK_ok h3 hf hm hlen
    refine ⟨L.toNat, M.toNat, by omega, by omega, by omega, by omega, ?_, he⟩
    rw [Rv]
    refine ⟨by simp only [den, hl, hm, hd, apf2], _, rfl, ?_⟩
    have : (s.extract L.toNat M.toNat).size ≤ s.size := by rw [ByteArray.size_extract]; omega
    omega
  rcases ixE_ok he rl with ⟨rfl, he⟩ | ⟨l, L, rfl, hl, he⟩
  · rcases ixE_ok he rh with ⟨rfl, he⟩ | ⟨m, M, rfl, hm, he⟩
    · obtain ⟨a, b, ha, hb, h1, h2, rv, hk⟩ := fin _ _ 0 _ rfl hlen he
      refine ⟨_, .string (s.extract a b), ?_, rv, hk⟩
      obtain rfl : a = 0 := by omega
      obtain rfl : b = s.size := by omega
      simp [Instr.sliceAt, Instr.slice, Instr.sliceBounds, run_underlying' hu]
    · obtain ⟨a, b, ha, rfl, h1, h2, rv, hk⟩ := fin _ _ 0 _ rfl hm he
      refine ⟨_, .string (s.extract a b), ?_, rv, hk⟩
      obtain rfl : a = 0 := by omega
      simp [Instr.sliceAt, Instr.slice, Instr.sliceBounds, run_underlying' hu, sliceBound_run P .i64 b s.size _ h2]
  · rcases ixE_ok he rh with ⟨rfl, he⟩ | ⟨m, M, rfl, hm, he⟩
    · obtain ⟨a, b, rfl, hb, h1, h2, rv, hk⟩ := fin _ _ _ _ hl hlen he
      refine ⟨_, .string (s.extract a b), ?_, rv, hk⟩
      obtain rfl : b = s.size := by omega
      simp [Instr.sliceAt, Instr.slice, Instr.sliceBounds, run_underlying' hu, sliceBound_run P .i64 a s.size _ h1]
    · obtain ⟨a, b, rfl, rfl, h1, h2, rv, hk⟩ := fin _ _ _ _ hl hm he
      refine ⟨_, .string (s.extract a b), ?_, rv, hk⟩
      simp [Instr.sliceAt, Instr.slice, Instr.sliceBounds, run_underlying' hu, sliceBound_run P .i64 b s.size _ h2, sliceBound_run P .i64 a b _ h1]
theorem evSliceH_ok {P : Program} {t : TypeId} {x : AV} {X : Value} {lo hi mx : Option AV} {LO HI MX : Option Value} {k : AV → Bool} (he : evSliceH P t x lo hi mx h k = true)
    (hx : Rv E x X) (rl : Rvo E lo LO) (rh : Rvo E hi HI) (rm : Rvo E mx MX) (hr : HR E h nxt w) : ∃ v W, (Instr.sliceAt t X LO HI MX).run P w = .ok W w ∧ Rv E v W ∧ k v = true := by
  unfold evSliceH at he
  split at he
  · rw [Rv] at hx
    obtain ⟨hd, s, rfl, hs⟩ := hx
    exact evSliceS_ok he hd hs rl rh rm hr
  · rename_i id m len cap
    rw [Rv] at hx
    obtain ⟨L, n, c, hL, hdn, hdc, hmn, hn, rfl⟩ := hx
    split at he <;> try (cases he; done)
    rename_i q
    split at he <;> try (cases he; done)
    rename_i el hu
    split at he <;> try (cases he; done)
    rename_i i hi'
    split at he <;> try (cases he; done)
    rename_i p off q' cap' hg
    obtain ⟨g1, g2⟩ := bc_and he
    obtain ⟨g3, g4⟩ := bc_and g1
    obtain ⟨g5, g6⟩ := bc_and g4
    obtain ⟨g7, g8⟩ := bc_and g6
    obtain ⟨g9, hk⟩ := bc_and g2
    obtain ⟨g10, hk⟩ := bc_and hk
    have g3 := Nat.eq_of_beq_eq_true g3
    have g5 := Nat.eq_of_beq_eq_true g5
    have g7 := Nat.eq_of_beq_eq_true g7
    have g8 := seEq_ok g8
    have g9 := Nat.le_of_ble_eq_true g9
    have hob := hr.obj 29
    rw [hg, g3, g8, g7] at hob
    obtain ⟨L9, M9, c9, h1, h2, h3, h4, h5, h6, h7⟩ := hob
    obtain rfl : L = M9 := Option.some.inj (hL.symm.trans h2)
    obtain rfl : c = c9 := by rw [hdc] at h3; injection h3 with h3; injection h3 with _ h3; omega
    obtain ⟨LOv, hLO, rlo⟩ := rl
    rw [Rv] at rlo
    subst rlo
    subst hLO
    rw [show HI = none from rh, show MX = none from rm]
    have hq : off = q * i.size := g5
    have dsub : den E (.fn2 5 len (.li .i64 (.ofNat q))) = some (.int .i64 (n - q : Nat)) := by
      simp only [den, hdn, apf2]
      rw [if_pos (by constructor <;> (show _ ≤ _) <;> simp only [Int.ofNat_eq_natCast] <;> omega)]
      simp only [Int.ofNat_eq_natCast]
      rw [show ((n : Int) - (q : Int)) = ((n - q : Nat) : Int) by omega]
    refine ⟨_, .slice (some ⟨L9.blk, L9.base, none⟩) (n - q) (c - q), ?_, ?_, hk⟩
    · have hnc : n ≤ c := by have := leK_ok g10 (factsOf_ok hr) hdn hdc; omega
      have hqn : q ≤ n := Nat.le_trans g9 hmn
      obtain ⟨l, m', e1, e2, e3, e4⟩ := bounds2 (E := E) (w := w) P (isS := true) (len := n) (cap := c) (lo := some (.i .i64 (.ofNat q))) (hi := none) (LO := some (.int .i64 (.ofNat q))) (HI := none) (k := fun l m => bc (Nat.beq l q) (Nat.beq m n) false) ⟨_, rfl, by rw [Rv]⟩ rfl hnc (Nat.le_refl c)
        (by show bc (Nat.ble q n) (bc (Nat.ble n c) (bc (Nat.beq q q) (Nat.beq n n) false) false) false = true
            rw [Nat.ble_eq_true_of_le hqn, Nat.ble_eq_true_of_le hnc, Nat.beq_refl, Nat.beq_refl]; rfl)
      obtain ⟨e5, e6⟩ := bc_and e4
      have e5 := Nat.eq_of_beq_eq_true e5
      have e6 := Nat.eq_of_beq_eq_true e6
      subst e5 e6
      have e1 : (Instr.sliceBounds true m' c (some (.int .i64 (l : Int))) none none).run P w = .ok (l, m', c) w := e1
      rw [h5, h6]
      by_cases hcq : c = l
      · rw [if_pos hcq]
        subst hcq
        simp [Instr.sliceAt, Instr.slice, run_underlying' hu, e1, run_sizeOf' hi']
      · rw [if_neg hcq, hq]
        simp [Instr.sliceAt, Instr.slice, run_underlying' hu, e1, run_sizeOf' hi', hcq, addr_add]
    · rw [Rv]
      refine ⟨L9, n - q, h1, dsub, by omega, fun h => by omega, ?_⟩
      rw [if_neg (by omega), h7, Nat.add_sub_cancel]
  · exact evSlice_ok he hx rl rh rm

/-! #### the least of two that are given -/
noncomputable def minF (a b : SE) (fs : Facts) (k : AV → Bool) : Bool :=
  bc (Nat.beq (look (.cmp .gtr a b) fs) 1) (k (.x .f b)) (bc (bc (Nat.beq (look (.cmp .eql a b) fs) 1) (Nat.beq (look (.cmp .gtr a (.lf 0)) fs) 1) false) (k (.x .f b)) false)
noncomputable def evMin (P : Program) (x y : AV) (fs : Facts) (k : AV → Bool) : Bool := match x, y with
  | .x .f a, .x .f b => minF a b fs k
  | .x .f a, .f .f64 n => bc (Nat.beq (look (.cmp .gtr a (.lf n)) fs) 1) (k (.f .f64 n)) false
  | .i .i64 n, .x (.i .i64) e => bc (aboveS e (n - 1) fs) (k (.i .i64 n)) false
  | x, y => pure2 P (fun X Y => Builtin.min_ #[] 0 #[X, Y]) x y k
theorem neg_of_gtr {X : Nat} (h : FloatKind.f64.format.order X 0 = some .gt) : (FloatKind.f64.decode X).neg = false := by
  have e : FloatKind.f64.decode X = FloatKind.f64.format.read X := rfl
  rw [e]
  have e0 : FloatKind.f64.format.read 0 = .number false 0 (-1074) := by kernel_rfl
  unfold Ieee.Format.order at h
  rw [e0] at h
  cases hd : FloatKind.f64.format.read X with
  | nan s t => rw [hd] at h; cases h
  | infinity s => rw [hd] at h; cases s <;> first | rfl | cases h
  | number s m i =>
    cases s
    · rfl
    · exfalso
      rw [hd] at h
      have h : (some (compare (Ieee.signed true m (i - min i (-1074)).toNat) (Ieee.signed false 0 (-1074 - min i (-1074)).toNat))) = some Ordering.gt := h
      have h := Option.some.inj h
      have h1 : Ieee.signed true m (i - min i (-1074)).toNat ≤ 0 := by
        unfold Ieee.signed
        rw [if_pos rfl]
        have := Int.natCast_nonneg (m <<< (i - min i (-1074)).toNat)
        generalize ((m <<< (i - min i (-1074)).toNat : Nat) : Int) = q at *
        omega
      have h2 : Ieee.signed false 0 (-1074 - min i (-1074)).toNat = 0 := by
        unfold Ieee.signed
        simp
      rw [h2] at h
      have h : compareOfLessAndEq _ _ = .gt := h
      unfold compareOfLessAndEq at h
      split at h
      · cases h
      · split at h
        · cases h
        · omega
theorem evMin_ok {P : Program} {ts : Array TypeId} {ty : TypeId} {x y : AV} {X Y : Value} {k : AV → Bool} (he : evMin P x y (factsOf h) k = true) (rx : Rv E x X) (ry : Rv E y Y) (hr : HR E h nxt w) :
    ∃ v W, (Builtin.min_ ts ty #[X, Y]).run P w = .ok W w ∧ Rv E v W ∧ k v = true := by
  have hf := factsOf_ok hr
  have gt : ∀ {a b : SE} {p q : Nat}, den E a = some (.float .f64 p) → den E b = some (.float .f64 q) → Nat.beq (look (.cmp .gtr a b) (factsOf h)) 1 = true → FloatKind.f64.format.order p q = some .gt := fun ha hb hl => by
    have h2 := (look_ok hf).1 (Nat.eq_of_beq_eq_true hl)
    simp only [den, ha, hb, cmpV, cmpF, Option.map_some, Option.some.injEq, Value.bool.injEq] at h2
    simpa using h2
  have run2 : ∀ {p q : Nat}, FloatKind.f64.format.order p q = some .gt → (Builtin.min_ ts ty #[.float .f64 p, .float .f64 q]).run P w = .ok (.float .f64 q) w := fun ho => by
    simp [Builtin.min_, Builtin.min2, ho]
  unfold evMin at he
  split at he
  · rename_i a b
    rw [Rv] at rx ry
    obtain ⟨da, p, rfl, hp⟩ := rx
    obtain ⟨db, q, rfl, hq⟩ := ry
    unfold minF at he
    rcases bc_or he with ⟨h1, he⟩ | ⟨_, he⟩
    · exact ⟨_, _, run2 (gt da db h1), by rw [Rv]; exact ⟨db, _, rfl, hq⟩, he⟩
    · obtain ⟨h1, he⟩ := bc_and he
      obtain ⟨h1, h2⟩ := bc_and h1
      have h3 := gt da (b := .lf 0) rfl h2
      have h4 := (look_ok hf).1 (Nat.eq_of_beq_eq_true h1)
      simp only [den, da, db, cmpV, cmpF, Option.map_some, Option.some.injEq, Value.bool.injEq] at h4
      have h4 : FloatKind.f64.format.order p q = some .eq := by simpa using h4
      refine ⟨_, .float .f64 q, ?_, by rw [Rv]; exact ⟨db, _, rfl, hq⟩, he⟩
      simp [Builtin.min_, Builtin.min2, h4, neg_of_gtr h3]
  · rename_i a n
    rw [Rv] at rx
    rw [Rv] at ry
    obtain ⟨da, p, rfl, hp⟩ := rx
    subst ry
    obtain ⟨h1, he⟩ := bc_and he
    exact ⟨_, _, run2 (gt da (b := .lf n) rfl h1), by rw [Rv], he⟩
  · rename_i n e
    rw [Rv] at rx
    rw [Rv] at ry
    subst rx
    obtain ⟨de, m, rfl, hm⟩ := ry
    obtain ⟨h1, he⟩ := bc_and he
    have h1 := aboveS_ok hf e de h1
    refine ⟨_, .int .i64 n, ?_, by rw [Rv], he⟩
    have : ¬ (m < n) := by omega
    simp [Builtin.min_, Builtin.min2, this]
  · exact pure2_ok he rx ry
end
end Go.Proofs.YtbmekbpgoakkbaaGreatDoor.Vx
