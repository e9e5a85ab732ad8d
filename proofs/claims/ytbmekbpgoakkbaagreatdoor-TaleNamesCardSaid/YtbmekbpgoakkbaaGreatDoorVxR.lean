/- Drawn regions: the evaluator and its law. No condition. -/
import Derived.Test.YtbmekbpgoakkbaaGreatDoorVxV
set_option linter.unusedVariables false
set_option linter.unusedSimpArgs false
set_option linter.constructorNameAsVariable false
set_option linter.unusedSectionVars false
namespace Go.Proofs.YtbmekbpgoakkbaaGreatDoor.Vx
open Go
variable [JC]
variable {DD : List Deferred}

noncomputable def evPure (P : Program) (nt : Nat) (o : Oper) (regs : Regs) (g : Heap) (k : Regs → Bool) : Bool :=
  evRd P o.op regs g fun v => bc (exK v) (putK o.dst nt v regs k) false

/-- registers that a region writes say nothing -/
noncomputable def clrK (l : List Oper) : Regs → (Regs → Bool) → Bool :=
  List.rec (motive := fun _ => Regs → (Regs → Bool) → Bool) (fun regs k => k regs)
    (fun o _ ih regs k => match o.dst with | some d => T.setK .no regs d fun r => ih r k | none => ih regs k) l
theorem clrK_ok : ∀ (l : List Oper) {regs : Regs} {k : Regs → Bool}, clrK l regs k = true → ∃ regs', k regs' = true ∧ (∀ t, T.get .no regs' t = .no ∨ T.get .no regs' t = T.get .no regs t) ∧ ∀ o ∈ l, ∀ d, o.dst = some d → T.get .no regs' d = .no
  | [], regs, k, he => ⟨regs, he, fun _ => .inr rfl, fun _ h => by cases h⟩
  | o :: l, regs, k, he => by
    have he : (match o.dst with | some d => T.setK .no regs d fun r => clrK l r k | none => clrK l regs k) = true := he
    split at he
    · rename_i d hd
      rw [T.setK_eq] at he
      obtain ⟨regs', k1, k2, k3⟩ := clrK_ok l he
      have e : T.get .no (T.set .no regs d) d = .no := by rcases T.get_set_eq AV.no .no regs d with g | g <;> exact g
      refine ⟨regs', k1, fun t => ?_, fun o' ho' d' hd' => ?_⟩
      · rcases k2 t with h | h
        · exact .inl h
        · by_cases et : t = d
          · subst et; rw [h]; exact .inl e
          · rw [h, T.get_set_ne _ _ _ _ _ et]; exact .inr rfl
      · rcases List.mem_cons.1 ho' with rfl | ho'
        · rw [hd] at hd'; cases hd'
          rcases k2 d with h | h
          · exact h
          · rw [h]; exact e
        · exact k3 o' ho' d' hd'
    · rename_i hd
      obtain ⟨regs', k1, k2, k3⟩ := clrK_ok l he
      refine ⟨regs', k1, k2, fun o' ho' d' hd' => ?_⟩
      rcases List.mem_cons.1 ho' with rfl | ho'
      · rw [hd] at hd'; cases hd'
      · exact k3 o' ho' d' hd'

def Clr (ops : Array Oper) (regs : Regs) : Prop := ∀ o ∈ ops.toList, ∀ d, o.dst = some d → T.get .no regs d = .no
noncomputable def kpD (ops : Array Oper) (kq : S) (regs : Regs) : K := fun v h nxt => clrK ops.toList regs fun r => kq (.node v r .nil) h nxt

theorem LeavesC.thrown {ops : Array Oper} {E E0 : Env} {h0 : Heap} {w0 : World} {regs : Regs} {h : Heap} {nxt nt : Nat} {a : Act} {w : World} {kn : S} {kx : Nat → S} {kr : S} (st : St DD E regs h nxt nt a w) (g0 : Goes E0 h0 w0 E h w) {V : Value} {w' : World} (g : Gives E h w (kpD ops (kx 0) regs) V w') :
    LeavesC (Clr ops) DD E0 h0 w0 nt kn kx kr (.panic [{ v := V, recovered := false }]) a w' := by
  obtain ⟨v, h', nxt', E', r, hr, gs, hk⟩ := g
  obtain ⟨regs', k1, k2, k3⟩ := clrK_ok _ hk
  refine ⟨E', regs', h', nxt', ⟨fun t => ?_, st.size, st.defers, hr, JC.goes st.heap st.j gs hr⟩, g0.trans gs, k3, V, v, rfl, r, k1⟩
  rcases k2 t with e | e <;> rw [e]
  · simp [Rv]
  · exact (st.regs t).mono gs.ext

theorem LeavesC.unput {ops : Array Oper} {o : Oper} {i : Nat} (ho : ops[i]? = some o) {v : Value} {E0 : Env} {h0 : Heap} {w0 : World} {nt : Nat} {kn : S} {kx : Nat → S} {kr : S} {c : List PanicEntry} {a : Act} {w : World}
    (l : LeavesC (Clr ops) DD E0 h0 w0 nt kn kx kr (.panic c) (a.put o.dst v) w) : LeavesC (Clr ops) DD E0 h0 w0 nt kn kx kr (.panic c) a w := by
  obtain ⟨E', regs', h', nxt', st, g, cl, rest⟩ := l
  have hsz : (a.put o.dst v).tmps.size = a.tmps.size := by cases o.dst <;> simp [Act.put]
  have hdf : (a.put o.dst v).defers = a.defers := by cases o.dst <;> rfl
  refine ⟨E', regs', h', nxt', ⟨fun t => ?_, hsz ▸ st.size, hdf ▸ st.defers, st.heap, st.j⟩, g, cl, rest⟩
  cases hd : o.dst with
  | none => have := st.regs t; rw [hd] at this; exact this
  | some d =>
    by_cases e : t = d
    · subst e
      have hm : o ∈ ops.toList := by
        rw [Array.mem_toList_iff]
        exact Array.mem_of_getElem? ho
      rw [cl o hm t hd]; simp [Rv]
    · have := st.regs t
      rw [hd] at this
      have e2 : (a.put (some d) v).tmps.getD t undef = a.tmps.getD t undef := by
        simp [Act.put, Array.getElem?_setIfInBounds_ne (Ne.symm e)]
      rw [e2] at this; exact this

noncomputable def evFloor (P : Program) (call : CallF) (ext : Exts) (kp : Regs → K) (nt : Nat) (o : Oper) (regs : Regs) (h : Heap) (nxt : Nat) (k : S) : Bool :=
  T.setK (.floor nxt) h 0 fun hf => bc (Nat.beq (flr hf) nxt)
    (evOp P call ext (fun v h' nxt' => T.setK (T.get .gone h 0) h' 0 fun h'' => kp regs v h'' nxt') o.op regs hf nxt fun v h' nxt' => T.setK (T.get .gone h 0) h' 0 fun h'' => putK o.dst nt v regs fun regs' => k regs' h'' nxt') false

/-! ### What is read ahead -/
/-- stretches of blocks; 'none': anything -/
abbrev Rds := Option (List (Nat × Nat × Nat × Nat))

def Cov (i : Nat) (g : Heap) (pr : Rds) : Prop := match pr with
  | none => True
  | some l => ∀ id, (T.get .gone g id).live = true → ∃ n e c, T.get .gone g id = .cells n e c ∧ (∃ p ∈ l, p.1 = id ∧ p.2.2.2 = i) ∧ ∀ j, c.get j ≠ .no → ∃ p ∈ l, p.1 = id ∧ (p.2.1 ≤ j ∧ j < p.2.1 + p.2.2.1) ∧ p.2.2.2 = i

theorem Cov.nil (i : Nat) (pr : Rds) : Cov i .nil pr := by
  cases pr with
  | none => trivial
  | some l => intro id hi; cases hi

noncomputable def rdsOf (P : Program) (ix : Nat) (o : Op) (regs : Regs) (h : Heap) (pr : Rds) (k : Rds → Bool) : Bool := match o with
  | .load t x => opd regs x fun v => match v with
    | .p id off => (match P.info? t with
      | some i => bc (Nat.ble 1 i.size) (match T.get .gone h id with
        | .glob _ _ _ => k none
        | _ => k (pr.map fun l => (id, off, i.size, ix) :: l)) (k none)
      | none => k none)
    | _ => k none
  | _ => k none

/-- nothing of the stretch is among those, but what is surely read before -/
def clearOf (pr : Rds) (b id off sz : Nat) : Bool := match pr with
  | none => false
  | some l => l.all fun p => bif Nat.beq p.1 id then (bif Nat.ble (p.2.1 + p.2.2.1) off then true else bif Nat.ble (off + sz) p.2.1 then true else bitB b p.2.2.2) else true

theorem clearOf_ok {l : List (Nat × Nat × Nat × Nat)} {b id off sz : Nat} (h : clearOf (some l) b id off sz = true) {p : Nat × Nat × Nat × Nat} (hp : p ∈ l) (e : p.1 = id) : p.2.1 + p.2.2.1 ≤ off ∨ off + sz ≤ p.2.1 ∨ b.testBit p.2.2.2 = true := by
  have := List.all_eq_true.1 h p hp
  have e' : Nat.beq p.1 id = true := by rw [e]; exact Nat.beq_refl id
  rw [e'] at this
  cases hb : Nat.ble (p.2.1 + p.2.2.1) off
  · rw [hb] at this
    cases hc : Nat.ble (off + sz) p.2.1
    · rw [hc] at this; exact .inr (.inr (bitB_iff.1 this))
    · exact .inr (.inl (Nat.le_of_ble_eq_true hc))
  · exact .inl (Nat.le_of_ble_eq_true hb)

def FSub (g h : Heap) : Prop := (∀ i fs, T.get .gone g i = .facts fs → T.get .gone h i = .facts fs) ∧ ∀ i p off q cap, T.get .gone g i = .ali p off q cap → T.get .gone h i = .ali p off q cap
theorem FSub.fok {E : Env} {g h : Heap} (s : FSub g h) (f : FOK E h) : FOK E g := ⟨fun i fs hi => f.1 i fs (s.1 i fs hi), fun i p off q cap hi => f.2 i p off q cap (s.2 i p off q cap hi)⟩

theorem rdsOf_ok {P : Program} {ix : Nat} {o : Op} {regs : Regs} {pr : Rds} {k : Rds → Bool} {h : Heap} (he : rdsOf P ix o regs h pr k = true) (hrd : ∃ kk, evRd P o regs h kk = true) :
    ∃ pr' g, k pr' = true ∧ (∀ i g', Cov i g' pr → Cov i g' pr') ∧ (Sub g h ∧ FSub g h) ∧ Cov ix g pr' ∧ ∀ kk, evRd P o regs g kk = evRd P o regs h kk := by
  have any : k none = true → ∃ pr' g, k pr' = true ∧ (∀ i g', Cov i g' pr → Cov i g' pr') ∧ (Sub g h ∧ FSub g h) ∧ Cov ix g pr' ∧ ∀ kk, evRd P o regs g kk = evRd P o regs h kk := fun hk =>
    ⟨none, h, hk, fun _ _ _ => trivial, ⟨Sub.refl h, fun _ _ e => e, fun _ _ _ _ _ e => e⟩, trivial, fun _ => rfl⟩
  unfold rdsOf at he
  split at he
  case h_2 => exact any he
  rename_i t x
  obtain ⟨v, hv, he⟩ := (lin_opd regs x).val he
  split at he
  case h_2 => exact any he
  rename_i id off
  split at he
  case h_2 => exact any he
  rename_i i hi
  rcases bc_or he with ⟨h1, he⟩ | ⟨_, he⟩
  case inr => exact any he
  have h1 := Nat.le_of_ble_eq_true h1
  obtain ⟨kk, hrd⟩ := hrd
  have hrd : opd regs x (fun v => evLoad P t v h kk) = true := hrd
  rw [hv] at hrd
  unfold evLoad at hrd
  simp only at hrd
  split at hrd <;> try (cases hrd; done)
  case h_2 => rename_i g n c hc; rw [hc] at he; exact any he
  rename_i n esz c hc
  clear hrd
  rw [hc] at he
  refine ⟨_, T.set (.cells n 0 (c.keep (fun j => decide (off ≤ j ∧ j < off + i.size)))) (T.keep .gone (fun j => decide (j = id)) h) id, he, ?_, ?_, ?_, ?_⟩
  · intro i' g' hg'
    cases pr with
    | none => trivial
    | some l =>
      intro id' hl
      obtain ⟨n', e', c', h2, ⟨p0, hp0, h20⟩, h3⟩ := hg' id' hl
      exact ⟨n', e', c', h2, ⟨p0, by simp [hp0], h20⟩, fun j hj => by obtain ⟨p, hp, h4⟩ := h3 j hj; exact ⟨p, by simp [hp], h4⟩⟩
  all_goals
    have hk : T.get .gone (T.keep .gone (fun j => decide (j = id)) h) id = .cells n esz c := by rw [T.get_keep]; simp [hc]
    have gid : T.get .gone (T.set (.cells n 0 (c.keep (fun j => decide (off ≤ j ∧ j < off + i.size)))) (T.keep .gone (fun j => decide (j = id)) h) id) id = .cells n 0 (c.keep (fun j => decide (off ≤ j ∧ j < off + i.size))) :=
      T.get_set_live _ _ _ _ (by rw [hk]; intro e; cases e)
    have gne : ∀ j, j ≠ id → T.get .gone (T.set (.cells n 0 (c.keep (fun j => decide (off ≤ j ∧ j < off + i.size)))) (T.keep .gone (fun j => decide (j = id)) h) id) j = .gone := fun j hj => by
      rw [T.get_set_ne _ _ _ _ _ hj, T.get_keep]; simp [hj]
  · refine ⟨fun j hj => ?_, fun j fs hj => ?_, fun j p9 o9 q9 c9 hj => ?_⟩
    · by_cases e : j = id
      · subst e
        rw [gid, hc]
        refine ⟨n, esz, c, rfl, Nat.le_refl _, .inl rfl, fun q => ?_⟩
        rw [Cs.keep_get]
        by_cases hq : off ≤ q ∧ q < off + i.size
        · right; simp [hq]
        · left; simp [hq]
      · rw [gne j e] at hj; cases hj
    · by_cases e : j = id
      · subst e; rw [gid] at hj; cases hj
      · rw [gne j e] at hj; cases hj
    · by_cases e : j = id
      · subst e; rw [gid] at hj; cases hj
      · rw [gne j e] at hj; cases hj
  · cases pr with
    | none => trivial
    | some l =>
      intro j hj
      by_cases e : j = id
      · subst e
        refine ⟨_, _, _, gid, ⟨(j, off, i.size, ix), by simp, rfl, rfl⟩, fun q hq => ⟨(j, off, i.size, ix), by simp, rfl, ?_, rfl⟩⟩
        rw [Cs.keep_get] at hq
        by_cases hq' : off ≤ q ∧ q < off + i.size
        · exact hq'
        · simp [hq'] at hq
      · rw [gne j e] at hj; cases hj
  · intro kk
    show opd regs x (fun v => evLoad P t v _ kk) = opd regs x (fun v => evLoad P t v h kk)
    rw [hv, hv]
    unfold evLoad
    simp only [gid, hc]
    unfold evCells
    simp only [hi]
    cases P.underlying t with
    | none => rfl
    | some d =>
      simp only
      have e1 : ∀ q, off ≤ q → q < off + i.size → (c.keep (fun j => decide (off ≤ j ∧ j < off + i.size))).get q = c.get q := fun q a b => by
        rw [Cs.keep_get]; simp [a, b]
      rw [rdC_ok, rdC_ok, e1 off (Nat.le_refl _) (by omega)]
      have e2 : (List.range' off i.size).map (fun j => (c.keep (fun j => decide (off ≤ j ∧ j < off + i.size))).get j) = (List.range' off i.size).map fun j => c.get j := by
        refine List.map_congr_left fun q hq => ?_
        rw [List.mem_range'_1] at hq
        exact e1 q hq.1 hq.2
      rw [e2]

theorem flrOK_of {h : Heap} {id : Nat} {b b' : Bool} (he : flrOK h id b = true) (hb : b' = true) : flrOK h id b' = true := by
  unfold flrOK at *
  generalize T.get AO.gone h 0 = o at *
  cases o with
  | floor n => obtain ⟨h1, _⟩ := bc_and he; show bc (Nat.ble n id) b' false = true; rw [h1, hb]; rfl
  | _ => exact hb

/-- what a store leaves -/
theorem store_at {P : Program} {call : CallF} {ext : Exts} {t : TypeId} {x y : Operand} {regs : Regs} {h : Heap} {nxt id off : Nat} {i : TypeInfo} {k kp : K} (he : evOp P call ext kp (.store t x y) regs h nxt k = true)
    (hx : ∀ {k : AV → Bool}, opd regs x k = k (.p id off)) (hi : P.info? t = some i) :
    ∃ n esz c c', T.get .gone h id = .cells n esz c ∧ (∀ k : K, k .un (T.set (.cells n esz c') h id) nxt = true → evOp P call ext kp (.store t x y) regs h nxt k = true) ∧ k .un (T.set (.cells n esz c') h id) nxt = true ∧
      ∀ j, j < off ∨ off + i.size ≤ j → c'.get j = c.get j := by
  have he : opd regs x (fun x => opd regs y fun y => evStore P t x y h fun h' => k .un h' nxt) = true := he
  rw [hx] at he
  obtain ⟨yv, hy, he⟩ := (lin_opd regs y).val he
  unfold evStore at he
  simp only at he
  split at he <;> try (cases he; done)
  rename_i n esz c hc
  rw [hi] at he
  simp only at he
  obtain ⟨l, hl, he⟩ := (lin_cellsK yv).val he
  obtain ⟨h1, he⟩ := bc_and he
  obtain ⟨h2, he⟩ := bc_and he
  have hfl := (flrOK_ok he).2
  rw [wrC_eq, T.setK_eq] at hfl
  refine ⟨n, esz, c, wrCs l c off, hc, fun k' hk' => ?_, hfl, fun j hj => ?_⟩
  · show opd regs x (fun x => opd regs y fun y => evStore P t x y h fun h' => k' .un h' nxt) = true
    rw [hx, hy]
    unfold evStore
    simp only [hc, hi]
    rw [hl, h1, bc_true, h2, bc_true]
    refine flrOK_of he ?_
    rw [wrC_eq, T.setK_eq]
    exact hk'
  · have hlen := lenIs_ok h1
    exact wrCs_out (by rw [hlen]; exact hj)

noncomputable def srtEq (a b : Srt) : Bool := match a, b with
  | .b, .b => true
  | .i k, .i l => Nat.beq (ikc k) (ikc l)
  | .f, .f => true
  | .s, .s => true
  | _, _ => false
theorem srtEq_ok {a b : Srt} (h : srtEq a b = true) : a = b := by
  cases a <;> cases b <;> first | rfl | cases h | (rw [ikc_inj h])
/-- the same words -/
noncomputable def sameS (a b : AV) : Bool := match a, b with
  | .no, .no => true
  | .un, .un => true
  | .b x, .b y => bc x y (bc y false true)
  | .i k m, .i k' n => bc (Nat.beq (ikc k) (ikc k')) (intEq m n) false
  | .f .f64 x, .f .f64 y => Nat.beq x y
  | .nan, .nan => true
  | .s l x, .s m y => bc (Nat.beq l m) (Nat.beq x y) false
  | .pn, .pn => true
  | .p i o, .p j q => bc (Nat.beq i j) (Nat.beq o q) false
  | .pg i o, .pg j q => bc (Nat.beq i j) (Nat.beq o q) false
  | .sn, .sn => true
  | .sl a b c d, .sl a' b' c' d' => bc (Nat.beq a a') (bc (Nat.beq b b') (bc (Nat.beq c c') (Nat.beq d d') false) false) false
  | .so a b c d, .so a' b' c' d' => bc (Nat.beq a a') (bc (Nat.beq b b') (bc (Nat.beq c c') (Nat.beq d d') false) false) false
  | .fnil, .fnil => true
  | .inil, .inil => true
  | .mp i, .mp j => Nat.beq i j
  | .mpn, .mpn => true
  | .ii k, .ii k' => Nat.beq (ikc k) (ikc k')
  | .x t e, .x t' e' => bc (srtEq t t') (seEq e e') false
  | .any, .any => true
  | .sx i m e f, .sx i' m' e' f' => bc (Nat.beq i i') (bc (Nat.beq m m') (bc (seEq e e') (seEq f f') false) false) false
  | .sz i e, .sz i' e' => bc (Nat.beq i i') (seEq e e') false
  | .sr i e, .sr i' e' => bc (Nat.beq i i') (seEq e e') false
  | _, _ => false
theorem intEq_of {a b : Int} (h : intEq a b = true) : a = b := by
  cases a <;> cases b <;> first | (rw [Nat.eq_of_beq_eq_true h]) | cases h
theorem sameS_ok {a b : AV} (h : sameS a b = true) : a = b := by
  unfold sameS at h
  split at h <;> try rfl
  · rename_i x y; cases x <;> cases y <;> first | rfl | cases h
  · obtain ⟨h1, h2⟩ := bc_and h; rw [ikc_inj h1, intEq_of h2]
  · rw [Nat.eq_of_beq_eq_true h]
  · obtain ⟨h1, h2⟩ := bc_and h; rw [Nat.eq_of_beq_eq_true h1, Nat.eq_of_beq_eq_true h2]
  · obtain ⟨h1, h2⟩ := bc_and h; rw [Nat.eq_of_beq_eq_true h1, Nat.eq_of_beq_eq_true h2]
  · obtain ⟨h1, h2⟩ := bc_and h; rw [Nat.eq_of_beq_eq_true h1, Nat.eq_of_beq_eq_true h2]
  · obtain ⟨h1, h2⟩ := bc_and h; obtain ⟨h2, h3⟩ := bc_and h2; obtain ⟨h3, h4⟩ := bc_and h3
    rw [Nat.eq_of_beq_eq_true h1, Nat.eq_of_beq_eq_true h2, Nat.eq_of_beq_eq_true h3, Nat.eq_of_beq_eq_true h4]
  · obtain ⟨h1, h2⟩ := bc_and h; obtain ⟨h2, h3⟩ := bc_and h2; obtain ⟨h3, h4⟩ := bc_and h3
    rw [Nat.eq_of_beq_eq_true h1, Nat.eq_of_beq_eq_true h2, Nat.eq_of_beq_eq_true h3, Nat.eq_of_beq_eq_true h4]
  · rw [Nat.eq_of_beq_eq_true h]
  · rw [ikc_inj h]
  · obtain ⟨h1, h2⟩ := bc_and h; rw [srtEq_ok h1, seEq_ok h2]
  · obtain ⟨h1, h2⟩ := bc_and h; obtain ⟨h2, h3⟩ := bc_and h2; obtain ⟨h3, h4⟩ := bc_and h3
    rw [Nat.eq_of_beq_eq_true h1, Nat.eq_of_beq_eq_true h2, seEq_ok h3, seEq_ok h4]
  · obtain ⟨h1, h2⟩ := bc_and h; rw [Nat.eq_of_beq_eq_true h1, seEq_ok h2]
  · obtain ⟨h1, h2⟩ := bc_and h; rw [Nat.eq_of_beq_eq_true h1, seEq_ok h2]
  · cases h
noncomputable def sameSL (a : List AV) : List AV → Bool := List.rec (motive := fun _ => List AV → Bool) (fun b => List.rec (motive := fun _ => Bool) true (fun _ _ _ => false) b) (fun v _ ih b => List.rec (motive := fun _ => Bool) false (fun u us _ => bc (sameS v u) (ih us) false) b) a
theorem sameSL_ok : ∀ {a b : List AV}, sameSL a b = true → a = b
  | [], [], _ => rfl
  | [], _ :: _, h => by cases h
  | _ :: _, [], h => by cases h
  | v :: a, u :: b, h => by
    have h : bc (sameS v u) (sameSL a b) false = true := h
    obtain ⟨h1, h2⟩ := bc_and h
    rw [sameS_ok h1, sameSL_ok h2]
noncomputable def sameX (a b : AV) : Bool := match a, b with
  | .fn (.func g) l m, .fn (.func g') l' m' => bc (Nat.beq g g') (bc (sameSL l l') (sameSL m m') false) false
  | .ifc t (.ag l), .ifc t' (.ag l') => bc (Nat.beq t t') (sameSL l l') false
  | .ifc t v, .ifc t' v' => bc (Nat.beq t t') (sameS v v') false
  | a, b => sameS a b
theorem sameX_ok {a b : AV} (h : sameX a b = true) : a = b := by
  unfold sameX at h
  split at h
  · obtain ⟨h1, h2⟩ := bc_and h; obtain ⟨h2, h3⟩ := bc_and h2
    rw [Nat.eq_of_beq_eq_true h1, sameSL_ok h2, sameSL_ok h3]
  · obtain ⟨h1, h2⟩ := bc_and h
    rw [Nat.eq_of_beq_eq_true h1, sameSL_ok h2]
  · obtain ⟨h1, h2⟩ := bc_and h
    rw [Nat.eq_of_beq_eq_true h1, sameS_ok h2]
  · exact sameS_ok h
noncomputable def sameN (c c' : Cs) (n : Nat) : Nat → Bool := Nat.rec (motive := fun _ => Nat → Bool) (fun _ => true) (fun _ ih off => bc (sameX (c.get off) (c'.get off)) (ih (Nat.succ off)) false) n
theorem sameN_ok {c c' : Cs} : ∀ {n off : Nat}, sameN c c' n off = true → ∀ j, off ≤ j → j < off + n → c.get j = c'.get j
  | 0, _, _, j, h1, h2 => by omega
  | n + 1, off, h, j, h1, h2 => by
    obtain ⟨h3, h4⟩ := bc_and (b := sameX (c.get off) (c'.get off)) (x := sameN c c' n (off + 1)) h
    by_cases e : j = off
    · subst e; exact sameX_ok h3
    · exact sameN_ok h4 j (by omega) (by omega)
noncomputable def eszEq (e e' : Esz) : Bool := bc (Nat.beq e.sz e'.sz) (bc (bc e.z e'.z (bc e'.z false true)) (match e.el, e'.el with
  | some t, some t' => Nat.beq t t'
  | none, none => true
  | _, _ => false) false) false
theorem eszEq_ok {e e' : Esz} (h : eszEq e e' = true) : e = e' := by
  obtain ⟨a, b, c⟩ := e
  obtain ⟨a', b', c'⟩ := e'
  obtain ⟨h1, h2⟩ := bc_and h
  obtain ⟨h2, h3⟩ := bc_and h2
  obtain rfl : a = a' := Nat.eq_of_beq_eq_true h1
  obtain rfl : c = c' := by cases c <;> cases c' <;> first | rfl | cases h2
  have : b = b' := by
    cases b <;> cases b' <;> first | rfl | cases h3 | (rw [Nat.eq_of_beq_eq_true h3])
  rw [this]
/-- the stretch reads as it did -/
noncomputable def sameAt (h h' : Heap) (id off sz : Nat) : Bool := match T.get .gone h id, T.get .gone h' id with
  | .cells n e c, .cells n' e' c' => bc (Nat.beq n n') (bc (eszEq e e') (sameN c c' sz off) false) false
  | _, _ => false
theorem sameAt_ok {h h' : Heap} {id off sz : Nat} (he : sameAt h h' id off sz = true) : ∃ n e c c', T.get .gone h id = .cells n e c ∧ T.get .gone h' id = .cells n e c' ∧ ∀ j, off ≤ j → j < off + sz → c.get j = c'.get j := by
  unfold sameAt at he
  split at he <;> try (cases he; done)
  rename_i n e c n' e' c' h1 h2
  obtain ⟨k1, k2⟩ := bc_and he
  obtain ⟨k2, k3⟩ := bc_and k2
  obtain rfl := Nat.eq_of_beq_eq_true k1
  obtain rfl := eszEq_ok k2
  exact ⟨n, e, c, c', h1, h2, sameN_ok k3⟩
/-- all that was read ahead, but what is surely read before, reads as it did -/
noncomputable def keptOK (pr : Rds) (b : Nat) (h h' : Heap) : Bool := match pr with
  | none => false
  | some l => l.all fun p => bc (bitB b p.2.2.2) true (sameAt h h' p.1 p.2.1 p.2.2.1)
theorem keptOK_ok {l : List (Nat × Nat × Nat × Nat)} {b : Nat} {h h' : Heap} (he : keptOK (some l) b h h' = true) {p : Nat × Nat × Nat × Nat} (hp : p ∈ l) (nb : ¬ b.testBit p.2.2.2 = true) : sameAt h h' p.1 p.2.1 p.2.2.1 = true := by
  have := List.all_eq_true.1 he p hp
  rcases bc_or this with ⟨h1, _⟩ | ⟨_, h1⟩
  · exact absurd (bitB_iff.1 h1) nb
  · exact h1

noncomputable def evBeside (P : Program) (call : CallF) (ext : Exts) (kp : Regs → K) (nt : Nat) (o : Oper) (b : Nat) (pr : Rds) (regs : Regs) (h : Heap) (nxt : Nat) (k : S) : Bool := match o.op with
  | .store t x y => opd regs x fun xv => match xv with
    | .p id off => (match P.info? t with
      | some i => bc (clearOf pr b id off i.size) (evOp P call ext (kp regs) (.store t x y) regs h nxt fun v h' nxt' => putK o.dst nt v regs fun regs' => k regs' h' nxt') (evFloor P call ext kp nt o regs h nxt k)
      | none => false)
    | _ => false
  | .call c => bc pr.isSome (evOp P call ext (kp regs) (.call c) regs h nxt fun v h' nxt' => bc (keptOK pr b h h') (putK o.dst nt v regs fun regs' => k regs' h' nxt') false) (evFloor P call ext kp nt o regs h nxt k)
  | _ => evFloor P call ext kp nt o regs h nxt k

/-- an operation of no memory; what is known goes along -/
noncomputable def evPick (P : Program) (fs : Facts) (nt : Nat) (o : Oper) (regs : Regs) (k : Regs → Bool) : Bool := match o.op with
  | .pick c x y => opd regs c fun c => pickK fs c (opd regs x fun v => bc (exK v) (putK o.dst nt v regs k) false) (opd regs y fun v => bc (exK v) (putK o.dst nt v regs k) false)
  | _ => evPure P nt o regs .nil k

noncomputable def evStep (P : Program) (call : CallF) (ext : Exts) (kp : Regs → K) (nt : Nat) (x : Inf) (m : Nat) (pr : Rds) (regs : Regs) (h : Heap) (nxt : Nat) (k : Rds → S) : Bool :=
  Nat.rec (motive := fun _ => Bool) (evPick P (factsOf h) nt x.o regs fun regs' => k pr regs' h nxt)
    (fun m _ => Nat.rec (motive := fun _ => Bool) (rdsOf P x.i x.o.op regs h pr fun pr' => evPure P nt x.o regs h fun regs' => k pr' regs' h nxt)
      (fun m _ => Nat.rec (motive := fun _ => Bool) (evOp P call ext (kp regs) x.o.op regs h nxt fun v h' nxt' => putK x.o.dst nt v regs fun regs' => k pr regs' h' nxt')
        (fun m _ => Nat.rec (motive := fun _ => Bool) (evBeside P call ext kp nt x.o x.b pr regs h nxt (k pr)) (fun m _ => Nat.rec (motive := fun _ => Bool) (evNew P x.o.op regs h nxt fun v h' nxt' => putK x.o.dst nt v regs fun regs' => k pr regs' h' nxt') (fun _ _ => false) m) m) m) m) m

/-- new blocks that may be made from here on: that they run is seen here -/
noncomputable def preK (P : Program) (ops : Array Oper) (regs : Regs) (b : Bool) (l : List Nat) : Bool :=
  List.rec (motive := fun _ => Bool) b (fun j _ ih => match ops[j]? with
    | some o => bc (wantP ops o regs (evNew P o.op regs .nil 0 fun _ _ _ => true) true) ih false
    | none => false) l

def New1 (P : Program) (o : Oper) (a : Act) (V0 : Nat → Value) (obj : Obj) : Prop :=
  Cold obj ∧ ∀ w, (execOp a.eval o).run P w = .ok (.value (V0 w.heap.size)) { w with heap := w.heap.push obj }
def NewV (P : Program) (o : Oper) (a : Act) : Prop :=
  ∀ w : World, ∃ V w', (execOp a.eval o).run P w = .ok (.value V) w' ∧ (w' = w ∨ w' = { w with drawn := w.drawn + 1 })
def NewAt (P : Program) (ops : Array Oper) (o : Oper) (a : Act) : Prop :=
  Region.wanted o (yielded ops a.tmps) = false ∨ (Region.wanted o (yielded ops a.tmps) = true ∧ ((∃ V0 obj, New1 P o a V0 obj) ∨ NewV P o a))

theorem New1.put {P : Program} {ops : Array Oper} {o : Oper} {a : Act} {V0 : Nat → Value} {obj : Obj} (h : New1 P o a V0 obj) (hs : ∀ cs b, o.op ≠ .select cs b) {dst : Option Tmp} (hd : ∀ d, dst = some d → d ∉ o.looksAt ops) (V : Value) : New1 P o (a.put dst V) V0 obj := by
  refine ⟨h.1, fun w => ?_⟩
  rw [execOp_put o hs a dst V hd]; exact h.2 w

theorem NewAt.put {P : Program} {ops : Array Oper} {o : Oper} {a : Act} (h : NewAt P ops o a) (hs : ∀ cs b, o.op ≠ .select cs b) {dst : Option Tmp} (hd : ∀ d, dst = some d → d ∉ o.looksAt ops) (V : Value) : NewAt P ops o (a.put dst V) := by
  unfold NewAt at *
  rw [wanted_put o a dst V hd]
  rcases h with h | ⟨h, ⟨V0, obj, h1⟩ | h1⟩
  · exact .inl h
  · exact .inr ⟨h, .inl ⟨V0, obj, h1.put hs hd V⟩⟩
  · refine .inr ⟨h, .inr fun w => ?_⟩
    rw [execOp_put o hs a dst V hd]; exact h1 w

theorem NewAt.lazy {P : Program} {nt : Nat} {ops : Array Oper} {o : Oper} (h : lazyOp P nt o = true) (a : Act) : NewAt P ops o a := by
  obtain ⟨t, inf, z, d, f1, f2, f3, f4, f5, f6⟩ := lazyOp_ok h
  refine .inr ⟨by simp [Region.wanted, f4], .inl ⟨fun b => .pointer (some ⟨b, 0, none⟩), .cells z.cells t (0, 0), cold_cells _ _, fun w => ?_⟩⟩
  unfold execOp
  simp only [f1]
  simp [alloc_run f2 f3]

theorem preK_ok {P : Program} {ops : Array Oper} {regs : Regs} {b : Bool} {E : Env} {a : Act} (r : Rr E regs a.tmps) : ∀ (l : List Nat), preK P ops regs b l = true → b = true ∧ ∀ j ∈ l, ∀ o, ops[j]? = some o → NewAt P ops o a
  | [], he => ⟨he, fun j hj => by cases hj⟩
  | j :: l, he => by
    have he : (match ops[j]? with
      | some o => bc (wantP ops o regs (evNew P o.op regs .nil 0 fun _ _ _ => true) true) (preK P ops regs b l) false
      | none => false) = true := he
    split at he <;> try (cases he; done)
    rename_i o ho
    obtain ⟨h1, he⟩ := bc_and he
    obtain ⟨h2, h3⟩ := preK_ok r l he
    refine ⟨h2, fun j' hj' o' ho' => ?_⟩
    rcases List.mem_cons.1 hj' with rfl | hj'
    · rw [ho] at ho'; cases ho'
      rcases wantP_ok h1 r with ⟨hw, hn⟩ | ⟨hw, _⟩
      · rcases evNew_ok hn r with ⟨v, ao, V0, obj, room, c1, c2, _⟩ | ⟨v, _, c1⟩
        · exact .inr ⟨hw, .inl ⟨V0, obj, c1, c2⟩⟩
        · exact .inr ⟨hw, .inr fun w => (c1 w).1⟩
      · exact .inl hw
    · exact h3 j' hj' o' ho'

noncomputable def evChain (P : Program) (call : CallF) (ext : Exts) (nt : Nat) (ops : Array Oper) (l : List (Inf × Nat)) (kq kn : S) : Rds → S :=
  List.rec (motive := fun _ => Rds → S) (fun _ => kn)
    (fun x _ ih pr regs h nxt => preK P ops regs (wantK ops x.1.o regs h
      (fun h => evStep P call ext (kpD ops kq) nt x.1 x.2 pr regs h nxt fun pr' regs' h' nxt' => ih pr' regs' h' nxt')
      (fun h => putK x.1.o.dst nt .un regs fun regs' => ih pr regs' h nxt)) x.1.pre) l

/-- what the order knows of the operations that were taken ahead -/
def FrOK (F : Fr) (E : Env) (h : Heap) (R : Nat) (pr : Rds) : Prop := ∀ i I, F i I → ∃ Ep g, I = IW Ep g ∧ Ep.le E ∧ SubF Ep g h ∧ (g = .nil ∨ R.testBit i = true) ∧ Cov i g pr

/-- what became of an operation that was done before its turn: passed by, a block, a value -/
inductive Ev where
  | skip
  | blk (b : Nat)
  | val

structure ListedD (ops : Array Oper) (D : Nat) (EA : Nat → Option Ev) (listed : Array Bool) : Prop where
  size : listed.size = ops.size
  bit : ∀ j, listed.getD j false = (D.testBit j || (EA j).isSome)

theorem ListedD.set {ops : Array Oper} {D : Nat} {EA : Nat → Option Ev} {listed : Array Bool} (r : ListedD ops D EA listed) {i : Nat} (hi : i < ops.size) : ListedD ops (addB D i) EA (listed.setIfInBounds i true) := by
  refine ⟨by simp [r.size], fun j => ?_⟩
  rw [addB_bit]
  by_cases e : i = j
  · subst e
    have : i < listed.size := by rw [r.size]; exact hi
    simp [this]
  · rw [getD_set_ne false e, r.bit]; simp [e]

theorem ListedD.early {ops : Array Oper} {D : Nat} {EA : Nat → Option Ev} {listed : Array Bool} (r : ListedD ops D EA listed) {i : Nat} {b : Ev} (hi : i < ops.size) :
    ListedD ops D (fun j => if j = i then some b else EA j) (listed.setIfInBounds i true) := by
  refine ⟨by simp [r.size], fun j => ?_⟩
  by_cases e : i = j
  · subst e
    have : i < listed.size := by rw [r.size]; exact hi
    simp [this]
  · rw [getD_set_ne false e, r.bit]; simp [Ne.symm e]

theorem ListedD.taken {ops : Array Oper} {D : Nat} {EA : Nat → Option Ev} {listed : Array Bool} (r : ListedD ops D EA listed) {i : Nat} {b : Ev} (hb : EA i = some b) :
    ListedD ops (addB D i) (fun j => if j = i then none else EA j) listed := by
  refine ⟨r.size, fun j => ?_⟩
  rw [addB_bit, r.bit]
  by_cases e : i = j
  · subst e; simp [hb]
  · simp [e, Ne.symm e]

theorem ListedD.true_ {ops : Array Oper} {D : Nat} {EA : Nat → Option Ev} {listed : Array Bool} (r : ListedD ops D EA listed) {i : Nat} (hi : i < ops.size) : listed.getD i true = (D.testBit i || (EA i).isSome) := by
  have : i < listed.size := by rw [r.size]; exact hi
  rw [← r.bit]; simp [this]

theorem ListedD.mk_rdy {ops : Array Oper} {D : Nat} {EA : Nat → Option Ev} {listed : Array Bool} (r : ListedD ops D EA listed) {x : Inf} (hx : InfOK ops x)
    (h1 : D.testBit x.i = false) (h2 : EA x.i = none) (h3 : ∀ t, x.d.testBit t = true → D.testBit t = true) : x.i ∈ rdy ops listed := by
  have hlt : x.i < ops.size := (Array.getElem?_eq_some_iff.1 hx.op).1
  unfold Vx.rdy
  rw [mem_ready, r.true_ hlt, h1, h2]
  refine ⟨rfl, x.o, hx.op, fun e he hb => ?_⟩
  rw [r.bit, h3 _ ((hx.dir _).2 ⟨x.o, hx.op, e, he, hb, rfl⟩)]
  rfl

/-- a new block that has really been made already, or passed by -/
def Done (P : Program) (ops : Array Oper) (o : Oper) (a : Act) (w : World) (d : Nat) : Ev → Prop
  | .skip => Region.wanted o (yielded ops a.tmps) = false ∧ a.tmps.getD d undef = undef
  | .val => Region.wanted o (yielded ops a.tmps) = true ∧ NewV P o a ∧ ∃ w1 w2, (execOp a.eval o).run P w1 = .ok (.value (a.tmps.getD d undef)) w2
  | .blk b => Region.wanted o (yielded ops a.tmps) = true ∧ ∃ V0 obj, New1 P o a V0 obj ∧ a.tmps.getD d undef = V0 b ∧ w.heap[b]? = some obj

theorem put_ne {a : Act} {dst : Option Tmp} {d : Nat} (h : dst ≠ some d) (V : Value) : (a.put dst V).tmps.getD d undef = a.tmps.getD d undef := by
  cases dst with
  | none => rfl
  | some d' =>
    have : d' ≠ d := fun e => h (by rw [e])
    simp [Act.put, Array.getElem?_setIfInBounds_ne this]

theorem Done.put {P : Program} {ops : Array Oper} {o : Oper} {a : Act} {w w' : World} {d : Nat} {e : Ev} (h : Done P ops o a w d e) (hs : ∀ cs b, o.op ≠ .select cs b) {dst : Option Tmp} (hd : ∀ d, dst = some d → d ∉ o.looksAt ops) (hn : dst ≠ some d) (V : Value)
    (hw : ∀ b, e = .blk b → w'.heap[b]? = w.heap[b]?) : Done P ops o (a.put dst V) w' d e := by
  cases e with
  | skip =>
    obtain ⟨h1, h2⟩ := h
    exact ⟨by rw [wanted_put o a dst V hd]; exact h1, by rw [put_ne hn]; exact h2⟩
  | blk b =>
    obtain ⟨h1, V0, obj, h2, h3, h4⟩ := h
    exact ⟨by rw [wanted_put o a dst V hd]; exact h1, V0, obj, h2.put hs hd V, by rw [put_ne hn]; exact h3, by rw [hw b rfl]; exact h4⟩
  | val =>
    obtain ⟨h1, h2, w1, w2, h3⟩ := h
    refine ⟨by rw [wanted_put o a dst V hd]; exact h1, fun w => ?_, w1, w2, ?_⟩
    · rw [execOp_put o hs a dst V hd]; exact h2 w
    · rw [execOp_put o hs a dst V hd, put_ne hn]; exact h3

/-- new blocks that have really been made already: nobody knows them -/
structure EAOK (P : Program) (ops : Array Oper) (nt Pr : Nat) (E : Env) (h : Heap) (w : World) (a : Act) (l : List (Inf × Nat)) (n0 : Nat) (EA : Nat → Option Ev) : Prop where
  mem : ∀ i e, EA i = some e → ∃ y ∈ l, y.1.i = i
  is : ∀ y ∈ l, ∀ e, EA y.1.i = some e → y.2 = 4 ∧ rdyL P nt Pr y.1 = true ∧ ∃ d, y.1.o.dst = some d ∧ Done P ops y.1.o a w d e
  blk : ∀ i b, EA i = some (.blk b) → n0 ≤ b ∧ b < w.heap.size ∧ ∀ id M, (T.get .gone h id).live = true → E id = some M → M.blk ≠ b
  inj : ∀ i j b, EA i = some (.blk b) → EA j = some (.blk b) → i = j

theorem EAOK.mono {P : Program} {ops : Array Oper} {nt Pr Pr' : Nat} {E : Env} {h : Heap} {w : World} {a : Act} {l : List (Inf × Nat)} {n0 : Nat} {EA : Nat → Option Ev} (k : EAOK P ops nt Pr E h w a l n0 EA)
    (hp : ∀ y, rdyL P nt Pr y = true → rdyL P nt Pr' y = true) : EAOK P ops nt Pr' E h w a l n0 EA :=
  ⟨k.mem, fun y hy e he => by obtain ⟨h1, h2, h3⟩ := k.is y hy e he; exact ⟨h1, hp _ h2, h3⟩, k.blk, k.inj⟩

theorem EAOK.fk {P : Program} {ops : Array Oper} {nt Pr : Nat} {E : Env} {h h1 : Heap} {w : World} {a : Act} {l : List (Inf × Nat)} {n0 : Nat} {EA : Nat → Option Ev} (k : EAOK P ops nt Pr E h w a l n0 EA) (f : Fk h h1) : EAOK P ops nt Pr E h1 w a l n0 EA :=
  ⟨k.mem, k.is, fun i b hb => by obtain ⟨h1, h2, h3⟩ := k.blk i b hb; exact ⟨h1, h2, fun id M hl => h3 id M (by rw [← f.live]; exact hl)⟩, k.inj⟩
theorem FrOK.fk {F : Fr} {E : Env} {h h1 : Heap} {R : Nat} {pr : Rds} (k : FrOK F E h R pr) (f : Fk h h1) : FrOK F E h1 R pr := fun i I hi => by
  obtain ⟨Ep, g, h1, h2, ⟨h3, h4⟩, h5⟩ := k i I hi
  refine ⟨Ep, g, h1, h2, ⟨fun j hj => ?_, h4⟩, h5⟩
  have := h3 j hj
  rw [f.same j (.inl (by rw [this.live]; exact hj))]; exact this

/-- what may be made at the list's head -/
def PrH (Pr : Nat) : List (Inf × Nat) → Nat
  | [] => Pr
  | (x, _) :: _ => addL Pr x.pre
theorem PrH_mono {P : Program} {nt Pr : Nat} (l : List (Inf × Nat)) (y : Inf) (h : rdyL P nt Pr y = true) : rdyL P nt (PrH Pr l) y = true := by
  cases l with
  | nil => exact h
  | cons x l => exact rdyL_mono h

/-- no dst of a lazy alloc still to come says anything -/
def NoYet (regs : Regs) (l : List (Inf × Nat)) : Prop := ∀ y ∈ l, y.2 = 4 → ∀ d, y.1.o.dst = some d → T.get .no regs d = .no

theorem live_known {E : Env} {h : Heap} {n : Nat} {w : World} (hr : HR E h n w) {i : Nat} (hl : (T.get .gone h i).live = true) : ∃ M, E i = some M := by
  have ho := hr.obj i
  cases hg : T.get .gone h i with
  | gone => rw [hg] at hl; cases hl
  | floor m => rw [hg] at hl; cases hl
  | facts m => rw [hg] at hl; cases hl
  | ali a1 a2 a3 a4 => rw [hg] at hl; cases hl
  | cells => rw [hg] at ho; obtain ⟨M, _, _, e, _⟩ := ho; exact ⟨M, e⟩
  | map => rw [hg] at ho; obtain ⟨M, _, e, _⟩ := ho; exact ⟨M, e⟩
  | siter => rw [hg] at ho; obtain ⟨M, e, _⟩ := ho; exact ⟨M, e⟩
  | glob => rw [hg] at ho; obtain ⟨M, _, _, _, e, _⟩ := ho; exact ⟨M, e⟩
  | rows => rw [hg] at ho; obtain ⟨M, _, _, e, _⟩ := ho; exact ⟨M, e⟩
  | blob => rw [hg] at ho; obtain ⟨M, _, _, e, _⟩ := ho; exact ⟨M, e⟩

theorem EAOK.go {P : Program} {ops : Array Oper} {nt Pr : Nat} {E E' : Env} {h h' : Heap} {w w' : World} {nxt : Nat} {a : Act} {x : Inf} {m : Nat} {l : List (Inf × Nat)} {n0 : Nat} {EA : Nat → Option Ev} (k : EAOK P ops nt Pr E h w a ((x, m) :: l) n0 EA)
    (hx : EA x.i = none) (hd : ∀ y ∈ l, y.2 = 4 → ∀ d, y.1.o.dst = some d → x.o.dst ≠ some d) (ha : ∀ y ∈ l, y.2 = 4 → rdyL P nt Pr y.1 = true → x.o.apart ops y.1.o = true) (hsel : ∀ y ∈ l, ∀ cs b, y.1.o.op ≠ .select cs b)
    (hr : HR E h nxt w) (g : Goes E h w E' h' w') (V : Value) : EAOK P ops nt Pr E' h' w' (a.put x.o.dst V) l n0 EA := by
  have nofp : ∀ i b, EA i = some (.blk b) → ¬ fp E h b := by
    rintro i b hb ⟨id, M, _, h2, h3, h4⟩
    exact (k.blk i b hb).2.2 id M h2 h3 h4
  refine ⟨fun i e hb => ?_, fun y hy e hb => ?_, fun i b hb => ?_, k.inj⟩
  · obtain ⟨y, hy, e'⟩ := k.mem i e hb
    rcases List.mem_cons.1 hy with rfl | hy
    · rw [← e', hx] at hb; cases hb
    · exact ⟨y, hy, e'⟩
  · obtain ⟨h4, h5, d, h6, h7⟩ := k.is y (by simp [hy]) e hb
    refine ⟨h4, h5, d, h6, h7.put (hsel y hy) (Oper.apart_spec (ha y hy h4 h5)).1 (hd y hy h4 d h6) V fun b eb => ?_⟩
    subst eb
    exact g.fr b (k.blk _ b hb).2.1 (nofp _ b hb)
  · obtain ⟨b1, b2, b3⟩ := k.blk i b hb
    refine ⟨b1, by have := g.size; omega, fun id M hl hM hMb => ?_⟩
    rcases Nat.lt_or_ge id (Vx.flr h) with hid | hid
    · rw [g.keep id hid] at hl
      obtain ⟨M', hM'⟩ := live_known hr hl
      have := g.ext _ _ hM'
      rw [hM] at this; cases this
      exact b3 id M hl hM' hMb
    · exact nofp i b hb (g.fpm b b2 ⟨id, M, by rw [g.flr]; exact hid, hl, hM, hMb⟩)

noncomputable def putR (dst : Option Tmp) (v : AV) (regs : Regs) : Regs := match dst with
  | none => regs
  | some d => T.set v regs d

theorem NoYet.put {regs : Regs} {x : Inf} {m : Nat} {l : List (Inf × Nat)} (n : NoYet regs ((x, m) :: l)) (hd : ∀ y ∈ l, y.2 = 4 → ∀ d, y.1.o.dst = some d → x.o.dst ≠ some d) {nt : Nat} {v : AV} {regs' : Regs}
    (e : regs' = putR x.o.dst v regs) : NoYet regs' l := by
  intro y hy h4 d hyd
  have := n y (by simp [hy]) h4 d hyd
  subst e
  cases hx : x.o.dst with
  | none => exact this
  | some d' =>
    have ne : d ≠ d' := fun e => hd y hy h4 d hyd (by rw [hx, e])
    show T.get .no (T.set v regs d') d = .no
    rw [T.get_set_ne _ _ _ _ _ ne]; exact this

theorem putK_at {dst : Option Tmp} {nt : Nat} {v : AV} {regs : Regs} {k : Regs → Bool} (he : putK dst nt v regs k = true) : k (putR dst v regs) = true := by
  cases dst with
  | none => exact he
  | some d =>
    obtain ⟨_, h2⟩ := bc_and he
    rw [T.setK_eq] at h2
    exact h2

theorem putK_st {E : Env} {regs : Regs} {h : Heap} {nxt nt : Nat} {a : Act} {w : World} {dst : Option Tmp} {v : AV} {V : Value} {k : Regs → Bool} (he : putK dst nt v regs k = true) (s : St DD E regs h nxt nt a w) (rv : Rv E v V) :
    St DD E (putR dst v regs) h nxt nt (a.put dst V) w ∧ k (putR dst v regs) = true := by
  refine ⟨?_, putK_at he⟩
  cases dst with
  | none => exact s
  | some d =>
    obtain ⟨h1, _⟩ := bc_and he
    exact s.put (Nat.le_of_ble_eq_true h1) rv

theorem wpF.steps {P : Program} {ops : Array Oper} {Q : Exit → Act → World → Prop} {j n : Nat} {F : Fr} {listed : Array Bool} {a : Act} {w : World} (hj : j ∈ rdy ops listed)
    (h : ∀ k ∈ rdy ops listed, wpOp P ops Q k (fun a' w' => (F.rest ops k).kept w w' ∧ wpF P ops Q n (F.rest ops k) (listed.setIfInBounds k true) a' w') a w) : wpF P ops Q (n + 1) F listed a w :=
  ⟨fun h => (by rw [h] at hj; cases hj), h⟩

theorem evChain_ok {P : Program} {call : CallF} {ext : Exts} (hcall : CallOK P call) (hext : ExtOK P ext) {nt : Nat} {ops : Array Oper} (hs : Region.noSelect ops = true) {kn : S} {kx : Nat → S} {kr : S}
    {E0 : Env} {h0 : Heap} {w0 : World} {n0' : Nat} (hr0 : HR E0 h0 n0' w0) (hj0 : JC.J E0 h0 w0) : ∀ (N : Nat) (l : List (Inf × Nat)) (D R Pr : Nat) (pr : Rds) (EA : Nat → Option Ev) (listed : Array Bool) (F : Fr) (E : Env) (regs : Regs) (h : Heap) (nxt : Nat) (a : Act) (w : World),
    (l.filter fun p => (EA p.1.i).isNone).length + l.length ≤ N →
    good P nt ops (2 ^ ops.size - 1) l D R Pr = true → (∀ p ∈ l, InfOK ops p.1) → ListedD ops D EA listed → Closed ops listed → FrOK F E h R pr → evChain P call ext nt ops l (kx 0) kn pr regs h nxt = true → St DD E regs h nxt nt a w → Goes E0 h0 w0 E h w →
    EAOK P ops nt (PrH Pr l) E h w a l w0.heap.size EA → NoYet regs l → (∀ y ∈ l, y.2 = 4 → rdyL P nt Pr y.1 = true → NewAt P ops y.1.o a) →
    wpF P ops (LeavesC (Clr ops) DD E0 h0 w0 nt kn kx kr) (l.filter fun p => (EA p.1.i).isNone).length F listed a w
  | N, [], D, R, Pr, pr, EA, listed, F, E, regs, h, nxt, a, w, _, hg, _, hl, hc, hF, he, st, g, ea, _, _ => by
    refine ⟨?_, E, regs, h, nxt, st, g, he⟩
    apply List.eq_nil_iff_forall_not_mem.2
    intro j hj
    have hlt : j < ops.size := by
      obtain ⟨_, o, ho, _⟩ := mem_ready.1 hj
      exact (Array.getElem?_eq_some_iff.1 ho).1
    rcases good_cover [] D R Pr hg j hlt with hd | ⟨_, hy, _⟩
    · have := not_listed hj
      rw [hl.bit, hd] at this; cases this
    · cases hy
  | 0, x :: l, D, R, Pr, pr, EA, listed, F, E, regs, h, nxt, a, w, hN, _, _, _, _, _, _, _, _, _, _, _ => by
    simp at hN
  | N + 1, (x, m) :: l, D, R, Pr, pr, EA, listed, F, E, regs, h, nxt, a, w, hN, hg, hinf, hl, hc, hF, heP, st, g, ea, ny, hpr => by
    have hne := good_ne hg
    obtain ⟨gg, g6⟩ := good_cons hg
    have hx : InfOK ops x := hinf (x, m) (by simp)
    have hlt : x.i < ops.size := (Array.getElem?_eq_some_iff.1 hx.op).1
    have hinf' : ∀ p ∈ l, InfOK ops p.1 := fun p hp => hinf p (by simp [hp])
    have hsel : ∀ y ∈ (x, m) :: l, ∀ cs b, y.1.o.op ≠ .select cs b := fun y hy cs b => Region.noSelect_spec hs y.1.i y.1.o cs b (hinf y hy).op
    have hsel' : ∀ y ∈ l, ∀ cs b, y.1.o.op ≠ .select cs b := fun y hy => hsel y (by simp [hy])
    have hQ : ∀ (v : Value) c a w, LeavesC (Clr ops) DD E0 h0 w0 nt kn kx kr (.panic c) (a.put x.o.dst v) w → LeavesC (Clr ops) DD E0 h0 w0 nt kn kx kr (.panic c) a w := fun v c a w hh => hh.unput hx.op
    have hL : ¬ LetsOut (LeavesC (Clr ops) DD E0 h0 w0 nt kn kx kr) := by
      rintro ⟨a, w, ⟨_, _, _, _, _, _, hh⟩⟩; exact hh
    have hdst : ∀ y ∈ l, y.2 = 4 → ∀ d, y.1.o.dst = some d → x.o.dst ≠ some d := gg.dst
    have ea : EAOK P ops nt (addL Pr x.pre) E h w a ((x, m) :: l) w0.heap.size EA := ea
    have mono : ∀ {R' pr'}, (∀ t, R.testBit t = true → R'.testBit t = true) → (∀ i g, Cov i g pr → Cov i g pr') → FrOK F E h R' pr' := fun hR hp i I hi => by
      obtain ⟨Ep, g', h1, h2, h3, h4, h5⟩ := hF i I hi
      exact ⟨Ep, g', h1, h2, h3, h4.imp id (hR i), hp _ _ h5⟩
    have he0 : preK P ops regs (wantK ops x.o regs h
      (fun h => evStep P call ext (kpD ops (kx 0)) nt x m pr regs h nxt fun pr' regs' h' nxt' => evChain P call ext nt ops l (kx 0) kn pr' regs' h' nxt')
      (fun h => putK x.o.dst nt .un regs fun regs' => evChain P call ext nt ops l (kx 0) kn pr regs' h nxt)) x.pre = true := heP
    obtain ⟨he, hpre⟩ := preK_ok st.regs _ he0
    have hpr' : ∀ y ∈ (x, m) :: l, y.2 = 4 → rdyL P nt (addL Pr x.pre) y.1 = true → NewAt P ops y.1.o a := fun y hy h4 hr => by
      by_cases hs' : lazyOp P nt y.1.o = true
      · exact .lazy hs' a
      · have hb : bitB (addL Pr x.pre) y.1.i = true := by
          unfold rdyL at hr
          cases hb : bitB (addL Pr x.pre) y.1.i
          · rw [hb] at hr; exact absurd hr hs'
          · rfl
        rcases addL_bit.1 (bitB_iff.1 hb) with hb | hb
        · refine hpr y hy h4 ?_
          unfold rdyL
          rw [bitB_iff.2 hb]; rfl
        · exact hpre _ hb _ (hinf y hy).op
    have hpr2 : ∀ V, ∀ y ∈ l, y.2 = 4 → rdyL P nt (addL Pr x.pre) y.1 = true → NewAt P ops y.1.o (a.put x.o.dst V) := fun V y hy h4 hr =>
      (hpr' y (by simp [hy]) h4 hr).put (hsel' y hy) (Oper.apart_spec (gg.apt y hy h4 hr)).1 V
    have apt2 : ∀ y ∈ (x, m) :: l, ∀ z ∈ (x, m) :: l, y.2 = 4 → z.2 = 4 → rdyL P nt (addL Pr x.pre) y.1 = true → rdyL P nt (addL Pr x.pre) z.1 = true → y.1.i ≠ z.1.i → ∀ d, y.1.o.dst = some d → d ∉ z.1.o.looksAt ops := by
      intro y hy z hz hy4 hz4 ry rz ne d hd
      rcases List.mem_cons.1 hy with rfl | hy <;> rcases List.mem_cons.1 hz with rfl | hz
      · exact absurd rfl ne
      · exact (Oper.apart_spec (gg.apt z hz hz4 rz)).1 d hd
      · exact (Oper.apart_spec (gg.apt y hy hy4 ry)).2.2 d hd
      · exact good_apt l _ _ _ g6 y hy z hz hy4 hz4 ry rz ne d hd
    cases hEA : EA x.i with
    | some e =>
      obtain ⟨hm, hrd, d, e2, hdone⟩ := ea.is (x, m) (by simp) e hEA
      have hm : m = 4 := hm
      have e2 : x.o.dst = some d := e2
      have hdone : Done P ops x.o a w d e := hdone
      subst hm
      have hfil : (((x, 4) :: l).filter fun p => (EA p.1.i).isNone) = l.filter fun p => ((fun j => if j = x.i then none else EA j) p.1.i : Option Ev).isNone := by
        rw [List.filter_cons]
        simp only [hEA, Option.isNone_some, Bool.false_eq_true, if_false]
        refine List.filter_congr fun y hy => ?_
        simp [hne y hy]
      have hNN : (l.filter fun p => ((fun j => if j = x.i then none else EA j) p.1.i : Option Ev).isNone).length + l.length ≤ N := by
        rw [← hfil]; simp at hN ⊢; omega
      have hpr3 : ∀ y ∈ l, y.2 = 4 → rdyL P nt (addL Pr x.pre) y.1 = true → NewAt P ops y.1.o a := fun y hy => hpr' y (by simp [hy])
      have rest : EAOK P ops nt (addL Pr x.pre) E h w a l w0.heap.size (fun j => if j = x.i then none else EA j) := by
        refine ⟨fun i b' hb' => ?_, fun y hy b' hb' => ?_, fun i b' hb' => ?_, fun i j b' hi hj => ?_⟩
        · by_cases e : i = x.i
          · simp [e] at hb'
          · simp only [e, if_false] at hb'
            obtain ⟨y, hy, e'⟩ := ea.mem i b' hb'
            rcases List.mem_cons.1 hy with rfl | hy
            · exact absurd e'.symm e
            · exact ⟨y, hy, e'⟩
        · simp only [hne y hy, if_false] at hb'
          exact ea.is y (by simp [hy]) b' hb'
        · by_cases e : i = x.i
          · simp [e] at hb'
          · simp only [e, if_false] at hb'
            exact ea.blk i b' hb'
        · by_cases ei : i = x.i
          · simp [ei] at hi
          · by_cases ej : j = x.i
            · simp [ej] at hj
            · simp only [ei, if_false] at hi
              simp only [ej, if_false] at hj
              exact ea.inj i j b' hi hj
      rw [hfil]
      obtain ⟨h, hr1, fk, hw1⟩ := wantK_ok he st.regs st.heap
      have hF := hF.fk fk
      have st : St DD E regs h nxt nt a w := ⟨st.regs, st.size, st.defers, hr1, JC.goes st.heap st.j fk.goes hr1⟩
      have g := g.trans fk.goes
      have ea := ea.fk fk
      have rest := rest.fk fk
      have mono : ∀ {R' pr'}, (∀ t, R.testBit t = true → R'.testBit t = true) → (∀ i g, Cov i g pr → Cov i g pr') → FrOK F E h R' pr' := fun hR hp i I hi => by
        obtain ⟨Ep, g', h1, h2, h3, h4, h5⟩ := hF i I hi
        exact ⟨Ep, g', h1, h2, h3, h4.imp id (hR i), hp _ _ h5⟩
      rcases hw1 with ⟨hw, he⟩ | ⟨hw, he⟩
      · have he : evNew P x.o.op regs h nxt (fun v h' nxt' => putK x.o.dst nt v regs fun regs' => evChain P call ext nt ops l (kx 0) kn pr regs' h' nxt') = true := he
        cases e with
        | skip => have := hdone.1; rw [hw] at this; cases this
        | val =>
          obtain ⟨_, hnv, w1, w2, e5⟩ := hdone
          rcases evNew_ok he st.regs with ⟨v, ao, V1, obj1, room, c1, c2, _⟩ | ⟨v, k3, c1⟩
          · exfalso
            obtain ⟨V, w', q1, q2⟩ := hnv w
            rw [c2 w] at q1
            cases q1
            rcases q2 with q2 | q2 <;> (have := congrArg (fun w : World => w.heap.size) q2; simp at this)
          · have rv := (c1 w1).2 _ _ e5
            have k3 := putK_at k3
            rw [e2] at k3
            have st' : St DD E (T.set v regs d) h nxt nt a w := by
              refine ⟨fun t' => ?_, st.size, st.defers, st.heap, st.j⟩
              by_cases e : t' = d
              · subst e
                rcases T.get_set_eq AV.no v regs t' with g | g <;> rw [g]
                · exact rv
                · simp [Rv]
              · rw [T.get_set_ne _ _ _ _ _ e]; exact st.regs t'
            exact evChain_ok hcall hext hs hr0 hj0 N l _ _ _ pr _ listed F _ _ _ _ a w hNN g6 hinf' (hl.taken hEA) hc (mono (fun t ht => ht) (fun _ _ h => h)) k3 st' g (EAOK.mono rest (PrH_mono l)) (ny.put hdst (x := x) (m := 4) (v := v) (nt := nt) (by rw [e2])) hpr3
        | blk b =>
          obtain ⟨_, V0, obj, hn1, e5, e6⟩ := hdone
          obtain ⟨b1, b2, b3⟩ := ea.blk x.i b hEA
          rcases evNew_ok he st.regs with ⟨v, ao, V1, obj1, room, c1, c2, k3, c4⟩ | ⟨v, _, c1⟩
          case inr =>
            exfalso
            obtain ⟨⟨V, w', q1, q2⟩, _⟩ := c1 w
            rw [hn1.2 w] at q1
            cases q1
            rcases q2 with q2 | q2 <;> (have := congrArg (fun w : World => w.heap.size) q2; simp at this)
          have hV : V0 b = V1 b ∧ obj = obj1 := by
            have q1 := hn1.2 { w with heap := Array.replicate b obj }
            have q2 := c2 { w with heap := Array.replicate b obj }
            rw [q1] at q2
            simp only [Array.size_replicate, Result.ok.injEq, Next.value.injEq] at q2
            refine ⟨q2.1, ?_⟩
            have hh := congrArg World.heap q2.2
            have h1 : ((Array.replicate b obj).push obj)[b]? = some obj := by rw [Array.getElem?_push]; simp
            have h2 : ((Array.replicate b obj).push obj1)[b]? = some obj1 := by rw [Array.getElem?_push]; simp
            have hh : (Array.replicate b obj).push obj = (Array.replicate b obj).push obj1 := hh
            rw [hh, h2] at h1
            cases h1; rfl
          obtain ⟨hV, rfl⟩ := hV
          have k3 := putK_at k3
          rw [e2] at k3
          have hle := Env.le_set (st.heap.fresh nxt (Nat.le_refl _)) ⟨b, 0, room⟩
          obtain ⟨c5, c6⟩ := c4 (fun i => if i = nxt then some ⟨b, 0, room⟩ else E i) b hle (by simp)
          have hr' := st.heap.adopt ⟨b, 0, room⟩ b2 b3 ao (c6 w e6)
          have g' := g.adopt st.heap ⟨b, 0, room⟩ b1 ao
          have st' : St DD (fun i => if i = nxt then some ⟨b, 0, room⟩ else E i) (T.set v regs d) (T.set ao h nxt) (nxt + 1) nt a w := by
            refine ⟨fun t' => ?_, st.size, st.defers, hr', JC.goes hr0 hj0 g' hr'⟩
            by_cases e : t' = d
            · subst e
              rcases T.get_set_eq AV.no v regs t' with g | g <;> rw [g]
              · rw [e5, hV]; exact c5
              · simp [Rv]
            · rw [T.get_set_ne _ _ _ _ _ e]; exact (st.regs.mono hle) t'
          refine evChain_ok hcall hext hs hr0 hj0 N l _ _ _ pr _ listed F _ _ _ _ a w hNN g6 hinf' (hl.taken hEA) hc ?_ k3 st' g' (EAOK.mono ?_ (PrH_mono l)) ?_ hpr3
          · intro i I hi
            obtain ⟨Ep, gh, h1, h2, h3, h4, h5⟩ := hF i I hi
            refine ⟨Ep, gh, h1, Env.le_trans h2 hle, ⟨fun j hj => ?_, h3.2⟩, h4, h5⟩
            have hle' := h3.1 j hj
            have : j ≠ nxt := by
              rintro rfl
              have := st.heap.lt j (Nat.le_refl _)
              rw [hle'.live, hj] at this; cases this
            rw [T.get_set_ne _ _ _ _ _ this]; exact hle'
          · refine ⟨fun i b' hb' => ?_, fun y hy b' hb' => ?_, fun i b' hb' => ?_, fun i j b' hi hj => ?_⟩
            · by_cases e : i = x.i
              · simp [e] at hb'
              · simp only [e, if_false] at hb'
                obtain ⟨y, hy, e'⟩ := ea.mem i b' hb'
                rcases List.mem_cons.1 hy with rfl | hy
                · exact absurd e'.symm e
                · exact ⟨y, hy, e'⟩
            · simp only [hne y hy, if_false] at hb'
              exact ea.is y (by simp [hy]) b' hb'
            · by_cases e : i = x.i
              · simp [e] at hb'
              · simp only [e, if_false] at hb'
                obtain ⟨c1, c2', c3⟩ := ea.blk i b' hb'
                refine ⟨c1, c2', fun id M hlv hM => ?_⟩
                by_cases en : id = nxt
                · have : M = ⟨b, 0, room⟩ := by simpa [en] using hM.symm
                  subst this
                  intro ebb
                  have ebb : b = b' := ebb
                  subst ebb
                  exact e (ea.inj i x.i b hb' hEA)
                · rw [T.get_set_ne _ _ _ _ _ en] at hlv
                  exact c3 id M hlv (by simpa [en] using hM)
            · by_cases ei : i = x.i
              · simp [ei] at hi
              · by_cases ej : j = x.i
                · simp [ej] at hj
                · simp only [ei, if_false] at hi
                  simp only [ej, if_false] at hj
                  exact ea.inj i j b' hi hj
          · exact ny.put hdst (x := x) (m := 4) (v := v) (nt := nt) (by rw [e2])
      · cases e with
        | blk b => have := hdone.1; rw [hw] at this; cases this
        | val => have := hdone.1; rw [hw] at this; cases this
        | skip =>
          obtain ⟨_, e5⟩ := hdone
          have k3 := putK_at he
          rw [e2] at k3
          have st' : St DD E (T.set .un regs d) h nxt nt a w := by
            refine ⟨fun t' => ?_, st.size, st.defers, st.heap, st.j⟩
            by_cases e : t' = d
            · subst e
              rcases T.get_set_eq AV.no .un regs t' with g | g <;> rw [g]
              · rw [e5, Rv]
              · simp [Rv]
            · rw [T.get_set_ne _ _ _ _ _ e]; exact st.regs t'
          exact evChain_ok hcall hext hs hr0 hj0 N l _ _ _ pr _ listed F _ _ _ _ a w hNN g6 hinf' (hl.taken hEA) hc (mono (fun t ht => ht) (fun _ _ h => h)) k3 st' g (EAOK.mono rest (PrH_mono l)) (ny.put hdst (x := x) (m := 4) (v := .un) (nt := nt) (by rw [e2])) hpr3
    | none =>
      have hr : x.i ∈ rdy ops listed := hl.mk_rdy hx gg.new hEA gg.rdy
      have hl' := hl.set hlt
      have hc' := hc.set hr
      have hlen : (((x, m) :: l).filter fun p => (EA p.1.i).isNone).length = (l.filter fun p => (EA p.1.i).isNone).length + 1 := by
        rw [List.filter_cons]; simp [hEA]
      have hN' : (l.filter fun p => (EA p.1.i).isNone).length + l.length ≤ N := by
        rw [hlen] at hN; simp at hN; omega
      have cover : ∀ j, j < ops.size → j ≠ x.i → listed.getD j true = false → ∃ y ∈ l, y.1.i = j ∧ EA j = none := fun j hj hne hun => by
        rw [hl.true_ hj, Bool.or_eq_false_iff] at hun
        obtain ⟨hun, hun2⟩ := hun
        have hn : EA j = none := by cases he : EA j with
          | none => rfl
          | some b => rw [he] at hun2; cases hun2
        rcases good_cover l _ _ _ g6 j hj with hd | hd
        · rw [addB_bit, hun, Bool.false_or, decide_eq_true_iff] at hd
          exact absurd hd.symm hne
        · obtain ⟨y, hy, e⟩ := hd; exact ⟨y, hy, e, hn⟩
      have free : m < 2 → ∀ j oj, ops[j]? = some oj → j ≠ x.i → listed.getD j true = false → ¬ Reach ops j x.i → x.o.apart ops oj = true := fun hm j oj hj hne hun hno => by
        obtain ⟨y, hy, rfl, _⟩ := cover j (Array.getElem?_eq_some_iff.1 hj).1 hne hun
        have hyo := (hinf' y hy).op
        rw [hj] at hyo; cases hyo
        rcases gg.free hm y hy with h | h
        · exact absurd ((hinf' y hy).bef _ h) hno
        · exact h
      have one : 2 ≤ m → ∀ k ∈ rdy ops listed, k = x.i ∨ ∃ y ∈ l, y.1.i = k ∧ y.2 = 4 ∧ EA k = none ∧ rdyL P nt (addL Pr x.pre) y.1 = true := fun hm k hk => by
        obtain ⟨hun, o, ho, hall⟩ := mem_ready.1 hk
        have hk' : k < ops.size := (Array.getElem?_eq_some_iff.1 ho).1
        by_cases e : k = x.i
        · exact .inl e
        · obtain ⟨y, hy, rfl, hn⟩ := cover k hk' e hun
          have early : ∀ t b, EA t = some b → ∃ z ∈ l, z.2 = 4 ∧ rdyL P nt (addL Pr x.pre) z.1 = true ∧ z.1.i = t := fun t b hb => by
            obtain ⟨z, hz, e⟩ := ea.mem t b hb
            rcases List.mem_cons.1 hz with rfl | hz'
            · have e : x.i = t := e
              rw [← e, hEA] at hb; cases hb
            · obtain ⟨k1, k2, _⟩ := ea.is z hz b (by rw [e]; exact hb)
              exact ⟨z, hz', k1, k2, e⟩
          have hdeps : ∀ t, y.1.d.testBit t = true → D.testBit t = true ∨ MayL P nt D (addL Pr x.pre) l t := fun t ht => by
            have := rdy_dir hk (((hinf' y hy).dir t).1 ht)
            rw [hl.bit, Bool.or_eq_true] at this
            refine this.imp id fun hs => ?_
            obtain ⟨b, hb⟩ := Option.isSome_iff_exists.1 hs
            obtain ⟨z, hz, k1, k2, e⟩ := early t b hb
            refine ⟨z, hz, k1, k2, fun t' ht' => ?_, e⟩
            have hz1 : listed.getD z.1.i false = true := by rw [hl.bit, e, hb]; simp
            have := hc _ _ hz1 (((hinf' z hz).dir t').1 ht')
            rw [hl.bit, Bool.or_eq_true] at this
            refine this.imp id fun hs' => ?_
            obtain ⟨b', hb'⟩ := Option.isSome_iff_exists.1 hs'
            obtain ⟨q, hq, q1, _, q3⟩ := early t' b' hb'
            exact ⟨q, hq, q1, q3⟩
          rcases gg.one hm y hy with ⟨h4, h5⟩ | h4
          · exact .inr ⟨y, hy, rfl, h4, hn, h5 hdeps⟩
          · exact absurd hdeps h4
      -- a new block that is made before its turn
      have lz : ∀ y ∈ (x, m) :: l, y.2 = 4 → EA y.1.i = none → rdyL P nt (addL Pr x.pre) y.1 = true → y.1.i ∈ rdy ops listed → wpOp P ops (LeavesC (Clr ops) DD E0 h0 w0 nt kn kx kr) y.1.i (fun a' w' => (F.rest ops y.1.i).kept w w' ∧
          wpF P ops (LeavesC (Clr ops) DD E0 h0 w0 nt kn kx kr) (l.filter fun p => (EA p.1.i).isNone).length (F.rest ops y.1.i) (listed.setIfInBounds y.1.i true) a' w') a w := by
        intro y hy hy4 hyE hyrd hyr
        obtain ⟨d, f5, f6⟩ := newOp_dst (good_lazy _ _ _ _ hg y hy hy4)
        have hyi := hinf y hy
        have hylt : y.1.i < ops.size := (Array.getElem?_eq_some_iff.1 hyi.op).1
        have hsz : a.tmps.size = nt := st.size
        have kept : ∀ w', HR E h nxt w' → (F.rest ops y.1.i).kept w w' := fun w' hrj i I hi hI => by
          obtain ⟨Ep, gh, rfl, h2, h3, _⟩ := hF i I hi.1
          exact IW.of h2 hrj h3
        have fin : ∀ (e : Ev) (Va : Value) (w' : World), HR E h nxt w' → Goes E0 h0 w0 E h w' → w.heap.size ≤ w'.heap.size → (∀ b, b < w.heap.size → w'.heap[b]? = w.heap[b]?) → Done P ops y.1.o (a.put y.1.o.dst Va) w' d e →
            (∀ b, e = .blk b → b = w.heap.size ∧ b < w'.heap.size) → wpF P ops (LeavesC (Clr ops) DD E0 h0 w0 nt kn kx kr) (l.filter fun p => (EA p.1.i).isNone).length (F.rest ops y.1.i) (listed.setIfInBounds y.1.i true) (a.put y.1.o.dst Va) w' := by
          intro e Va w' hrj gj hsw hold hdn hbe
          have hcnt := good_count (EA := EA) (b := e) _ _ _ _ hg y hy hyE
          have st' : St DD E regs h nxt nt (a.put y.1.o.dst Va) w' := by
            refine ⟨fun t' => ?_, by rw [f5]; simpa [Act.put] using hsz, by rw [f5]; simpa [Act.put] using st.defers, hrj, JC.goes hr0 hj0 gj hrj⟩
            by_cases e : t' = d
            · subst e
              rw [ny y hy hy4 _ f5]; simp [Rv]
            · rw [put_ne (by rw [f5]; intro h; cases h; exact e rfl)]; exact st.regs t'
          have ea' : EAOK P ops nt (PrH Pr ((x, m) :: l)) E h w' (a.put y.1.o.dst Va) ((x, m) :: l) w0.heap.size (fun j => if j = y.1.i then some e else EA j) := by
            refine ⟨fun i b hb => ?_, fun q hq b hb => ?_, fun i b hb => ?_, fun i j b hi hj => ?_⟩
            · by_cases ei : i = y.1.i
              · exact ⟨y, hy, ei.symm⟩
              · simp only [ei, if_false] at hb; exact ea.mem i b hb
            · by_cases ei : q.1.i = y.1.i
              · have := good_inj _ _ _ _ hg q hq y hy ei
                subst this
                simp only [if_true, Option.some.injEq] at hb
                subst hb
                exact ⟨hy4, hyrd, d, f5, hdn⟩
              · simp only [ei, if_false] at hb
                obtain ⟨h4, h5, d', h6, h7⟩ := ea.is q hq b hb
                refine ⟨h4, h5, d', h6, h7.put (hsel q hq) (fun d2 hd2 => apt2 y hy q hq hy4 h4 hyrd h5 (Ne.symm ei) d2 hd2) (good_dst _ _ _ _ hg q hq y hy h4 hy4 ei d' h6) Va fun b' eb => ?_⟩
                subst eb
                exact hold b' (ea.blk _ b' hb).2.1
            · by_cases ei : i = y.1.i
              · simp only [ei, if_true, Option.some.injEq] at hb
                obtain ⟨hb1, hb2⟩ := hbe b hb
                refine ⟨by have := g.size; omega, hb2, fun id M hlv hM hMb => ?_⟩
                have := st.heap.inw id M hM
                omega
              · simp only [ei, if_false] at hb
                obtain ⟨b1, b2, b3⟩ := ea.blk i b hb
                exact ⟨b1, by omega, b3⟩
            · by_cases ei : i = y.1.i <;> by_cases ej : j = y.1.i
              · rw [ei, ej]
              · simp only [ei, if_true, Option.some.injEq] at hi
                simp only [ej, if_false] at hj
                have h1 := (hbe b hi).1
                have := (ea.blk j _ hj).2.1
                omega
              · simp only [ej, if_true, Option.some.injEq] at hj
                simp only [ei, if_false] at hi
                have h1 := (hbe b hj).1
                have := (ea.blk i _ hi).2.1
                omega
              · simp only [ei, if_false] at hi
                simp only [ej, if_false] at hj
                exact ea.inj i j b hi hj
          have hpr4 : ∀ q ∈ (x, m) :: l, q.2 = 4 → rdyL P nt Pr q.1 = true → NewAt P ops q.1.o (a.put y.1.o.dst Va) := fun q hq h4 hrq => by
            by_cases ei : q.1.i = y.1.i
            · have := good_inj _ _ _ _ hg q hq y hy ei
              subst this
              cases e with
              | skip => exact .inl hdn.1
              | val => exact .inr ⟨hdn.1, .inr hdn.2.1⟩
              | blk b => obtain ⟨k1, V0, obj, k2, _⟩ := hdn; exact .inr ⟨k1, .inl ⟨V0, obj, k2⟩⟩
            · exact (hpr' q hq h4 (rdyL_mono hrq)).put (hsel q hq) (fun d2 hd2 => apt2 y hy q hq hy4 h4 hyrd (rdyL_mono hrq) (Ne.symm ei) d2 hd2) Va
          have := evChain_ok (kx := kx) (kr := kr) (E0 := E0) (h0 := h0) (w0 := w0) hcall hext hs hr0 hj0 N ((x, m) :: l) D R Pr pr (fun j => if j = y.1.i then some e else EA j) (listed.setIfInBounds y.1.i true) (F.rest ops y.1.i) E regs h nxt
            (a.put y.1.o.dst Va) w' (by dsimp only at hcnt ⊢; omega) hg hinf (hl.early hylt) (hc.set hyr) (fun i I hi => hF i I hi.1) heP st' gj ea' ny hpr4
          rw [hlen] at hcnt
          have e' : (((x, m) :: l).filter fun p => ((fun j => if j = y.1.i then some e else EA j) p.1.i : Option Ev).isNone).length = (l.filter fun p => (EA p.1.i).isNone).length := by omega
          rw [e'] at this
          exact this
        have tmd : ∀ Va, (a.put y.1.o.dst Va).tmps.getD d undef = Va := fun Va => by
          rw [f5]
          have : d < a.tmps.size := by rw [hsz]; exact f6
          simp [Act.put, this]
        have hself := selfOK_ok (good_self _ _ _ _ hg y hy hy4)
        unfold wpOp
        simp only [hyi.op]
        rcases hpr' y hy hy4 hyrd with hw | ⟨hw, ⟨V0, obj, hn1⟩ | hnv⟩
        · rw [if_neg (by simp [hw])]
          refine ⟨kept w st.heap, ?_⟩
          exact fin .skip undef w st.heap g (Nat.le_refl _) (fun _ _ => rfl) ⟨by rw [wanted_put y.1.o a _ undef hself]; exact hw, tmd undef⟩ (fun b hb => by cases hb)
        · rw [if_pos hw]
          refine .inl ?_
          unfold Oper.wp
          rw [hn1.2 w]
          simp only [Oper.upon]
          refine ⟨kept _ (st.heap.junk obj), ?_⟩
          refine fin (.blk w.heap.size) _ _ (st.heap.junk obj) (g.junk hn1.1) (by simp) (fun b hb => ?_) ⟨by rw [wanted_put y.1.o a _ _ hself]; exact hw, V0, obj, hn1.put (hsel y hy) hself _, tmd _, by simp⟩ (fun b hb => by cases hb; exact ⟨rfl, by simp⟩)
          show (w.heap.push obj)[b]? = _
          rw [Array.getElem?_push, if_neg (by omega)]
        · rw [if_pos hw]
          refine .inl ?_
          unfold Oper.wp
          obtain ⟨V, w', hrun, hw'⟩ := hnv w
          rw [hrun]
          simp only [Oper.upon]
          have hd0 : (execOp (a.put y.1.o.dst V).eval y.1.o) = execOp a.eval y.1.o := execOp_put y.1.o (hsel y hy) a _ V hself
          have dn : ∀ w3, Done P ops y.1.o (a.put y.1.o.dst V) w3 d .val := fun w3 =>
            ⟨by rw [wanted_put y.1.o a _ V hself]; exact hw, fun w => by rw [hd0]; exact hnv w, w, w', by rw [hd0, tmd]; exact hrun⟩
          rcases hw' with rfl | rfl
          · exact ⟨kept _ st.heap, fin .val V _ st.heap g (Nat.le_refl _) (fun _ _ => rfl) (dn _) (fun b hb => by cases hb)⟩
          · exact ⟨kept _ st.heap.drew, fin .val V _ st.heap.drew (g.trans (Goes.drew _ _ _)) (Nat.le_refl _) (fun _ _ => rfl) (dn _) (fun b hb => by cases hb)⟩
      rw [hlen]
      by_cases hm4 : m = 4
      · subst hm4
        refine wpF.steps hr fun k hk => ?_
        rcases one (by omega) k hk with rfl | ⟨y, hy, rfl, hy4, hyE, hyrd⟩
        · exact lz (x, 4) (by simp) rfl hEA (gg.lazy_ rfl).1.2 hr
        · exact lz y (by simp [hy]) hy4 hyE hyrd hk
      have step2 : 2 ≤ m → wpOp P ops (LeavesC (Clr ops) DD E0 h0 w0 nt kn kx kr) x.i (fun a' w' => (F.rest ops x.i).kept w w' ∧
          wpF P ops (LeavesC (Clr ops) DD E0 h0 w0 nt kn kx kr) (l.filter fun p => (EA p.1.i).isNone).length (F.rest ops x.i) (listed.setIfInBounds x.i true) a' w') a w →
          wpF P ops (LeavesC (Clr ops) DD E0 h0 w0 nt kn kx kr) ((l.filter fun p => (EA p.1.i).isNone).length + 1) F listed a w := fun hm hh => by
        refine wpF.steps hr fun k hk => ?_
        rcases one hm k hk with rfl | ⟨y, hy, rfl, hy4, hyE, hyrd⟩
        · exact hh
        · exact lz y (by simp [hy]) hy4 hyE hyrd hk
      obtain ⟨h, hr1, fk, hw1⟩ := wantK_ok he st.regs st.heap
      have hF := hF.fk fk
      have st : St DD E regs h nxt nt a w := ⟨st.regs, st.size, st.defers, hr1, JC.goes st.heap st.j fk.goes hr1⟩
      have g := g.trans fk.goes
      have ea := ea.fk fk
      have mono : ∀ {R' pr'}, (∀ t, R.testBit t = true → R'.testBit t = true) → (∀ i g, Cov i g pr → Cov i g pr') → FrOK F E h R' pr' := fun hR hp i I hi => by
        obtain ⟨Ep, g', h1, h2, h3, h4, h5⟩ := hF i I hi
        exact ⟨Ep, g', h1, h2, h3, h4.imp id (hR i), hp _ _ h5⟩
      have RR : ∀ t, R.testBit t = true → (bif Nat.beq m 1 then addB R x.i else R).testBit t = true := fun t ht => by
        cases Nat.beq m 1
        · exact ht
        · show (addB R x.i).testBit t = true
          rw [addB_bit, ht]; rfl
      have gov := gg.over
      have FrR : ∀ {R' pr'}, (∀ t, R.testBit t = true → R'.testBit t = true) → (∀ i g, Cov i g pr → Cov i g pr') → FrOK F E h R' pr' := mono
      -- an operation that is taken ahead
      have pureV : ∀ (pr' : Rds) (gh : Heap) (kk : Regs → Bool) (v0 : AV), m < 2 → Sub gh h ∧ FSub gh h → (gh = .nil ∨ m = 1) → (∀ i g, Cov i g pr → Cov i g pr') → Cov x.i gh pr' → Region.wanted x.o (yielded ops a.tmps) = true →
          exK v0 = true → putK x.o.dst nt v0 regs kk = true → (∀ (E1 : Env) (n1 : Nat) (w1 : World), E.le E1 → HR E1 gh n1 w1 → ∃ V, (execOp a.eval x.o).run P w1 = .ok (.value V) w1 ∧ Rv E1 v0 V) →
          (∀ regs', kk regs' = evChain P call ext nt ops l (kx 0) kn pr' regs' h nxt) → wpF P ops (LeavesC (Clr ops) DD E0 h0 w0 nt kn kx kr) ((l.filter fun p => (EA p.1.i).isNone).length + 1) F listed a w := by
        intro pr' gh kk v0 hm sb0 hgh hcov hcg hw hex he val hkk
        have sb : SubF E gh h := ⟨sb0.1, sb0.2.fok st.heap.fok⟩
        obtain ⟨V0, hrun, rv⟩ := val E _ w (Env.le_refl E) (st.heap.sub sb)
        obtain ⟨st', hk⟩ := putK_st he st rv
        rw [hkk] at hk
        refine wpF.take (v := V0) hx.op hs (hQ _) hL _ F listed a w hc (free hm) hr (I := IW E gh) (.inl ⟨hw, ?_⟩) (IW.of (Env.le_refl E) st.heap sb) ?_
        · rintro w1 ⟨E1, n1, hE, hr1⟩
          obtain ⟨V1, hrun1, rv1⟩ := val E1 n1 w1 hE hr1
          rw [hrun1, Rv.exact hE v0 V0 V1 hex rv rv1]
        · refine evChain_ok hcall hext hs hr0 hj0 N l _ _ _ pr' EA _ _ E _ h nxt _ w hN' g6 hinf' hl' hc' ?_ hk st' g ((ea.go hEA hdst gg.apt hsel' st.heap (Goes.refl _ _ _) V0).mono (PrH_mono l)) (ny.put hdst (nt := nt) rfl) (hpr2 V0)
          rintro i I (hi | ⟨rfl, rfl⟩)
          · exact FrR RR hcov i I hi
          · refine ⟨E, gh, rfl, Env.le_refl E, sb, ?_, hcg⟩
            rcases hgh with rfl | hm1
            · exact .inl rfl
            · right
              rw [hm1]
              show (addB R x.i).testBit x.i = true
              rw [addB_bit]; simp
      have pure : ∀ (pr' : Rds) (gh : Heap) (kk : Regs → Bool), m < 2 → Sub gh h ∧ FSub gh h → (gh = .nil ∨ m = 1) → (∀ i g, Cov i g pr → Cov i g pr') → Cov x.i gh pr' → Region.wanted x.o (yielded ops a.tmps) = true → evPure P nt x.o regs gh kk = true →
          (∀ regs', kk regs' = evChain P call ext nt ops l (kx 0) kn pr' regs' h nxt) → wpF P ops (LeavesC (Clr ops) DD E0 h0 w0 nt kn kx kr) ((l.filter fun p => (EA p.1.i).isNone).length + 1) F listed a w := by
        intro pr' gh kk hm sb0 hgh hcov hcg hw he hkk
        unfold evPure at he
        obtain ⟨v0, hv, he⟩ := (lin_evRd P x.o.op regs gh).val he
        obtain ⟨hex, he⟩ := bc_and he
        refine pureV pr' gh kk v0 hm sb0 hgh hcov hcg hw hex he (fun E1 n1 w1 hE hr1 => ?_) hkk
        classical
        have hk : evRd P x.o.op regs gh (fun v => decide (v = v0)) = true := by rw [hv]; simp
        obtain ⟨v', V, w', k1, k2, k3, k4⟩ := evRd_ok hk (st.regs.mono hE) hr1
        have : v' = v0 := by simpa using k4
        subst this
        rcases k2 with rfl | ⟨rfl, _⟩
        · exact ⟨V, k1, k3⟩
        · cases hex
      -- an operation that is not wanted
      have skip : ∀ (kk : Regs → Bool), Region.wanted x.o (yielded ops a.tmps) = false → putK x.o.dst nt .un regs kk = true →
          (∀ regs', kk regs' = evChain P call ext nt ops l (kx 0) kn pr regs' h nxt) → wpF P ops (LeavesC (Clr ops) DD E0 h0 w0 nt kn kx kr) ((l.filter fun p => (EA p.1.i).isNone).length + 1) F listed a w := by
        intro kk hw he hkk
        obtain ⟨st', hk⟩ := putK_st he st (V := undef) (by rw [Rv])
        rw [hkk] at hk
        have ea' := (ea.go hEA hdst gg.apt hsel' st.heap (Goes.refl _ _ _) undef).mono (PrH_mono l)
        have ny' : NoYet (putR x.o.dst .un regs) l := ny.put hdst (nt := nt) rfl
        rcases Nat.lt_or_ge m 2 with hm | hm
        · refine wpF.take (v := undef) hx.op hs (hQ _) hL _ F listed a w hc (free hm) hr (I := IW E .nil) (.inr ⟨hw, rfl⟩) (IW.of (Env.le_refl E) st.heap ⟨Sub.nil h, FOK.nil E⟩) ?_
          refine evChain_ok hcall hext hs hr0 hj0 N l _ _ _ pr EA _ _ E _ h nxt _ w hN' g6 hinf' hl' hc' ?_ hk st' g ea' ny' (hpr2 undef)
          rintro i I (hi | ⟨rfl, rfl⟩)
          · exact FrR RR (fun _ _ h => h) i I hi
          · exact ⟨E, .nil, rfl, Env.le_refl E, ⟨Sub.nil h, FOK.nil E⟩, .inl rfl, Cov.nil _ pr⟩
        · refine step2 hm ?_
          unfold wpOp
          simp only [hx.op]
          rw [if_neg (by simp [hw])]
          refine ⟨fun _ _ _ hI => hI, ?_⟩
          exact evChain_ok hcall hext hs hr0 hj0 N l _ _ _ pr EA _ _ E _ h nxt _ w hN' g6 hinf' hl' hc' (fun i I hi => FrR RR (fun _ _ h => h) i I hi.1) hk st' g ea' ny' (hpr2 undef)
      -- an operation that runs, and that leaves standing what was read ahead
      have run : 2 ≤ m → Region.wanted x.o (yielded ops a.tmps) = true → ∀ (kk : K), evOp P call ext (kpD ops (kx 0) regs) x.o.op regs h nxt kk = true →
          (∀ v h' nxt', kk v h' nxt' = true → putK x.o.dst nt v regs (fun regs' => evChain P call ext nt ops l (kx 0) kn pr regs' h' nxt') = true ∧
            ∀ i I, Fr.rest ops x.i F i I → ∀ Ep g, I = IW Ep g → SubF Ep g h → (g = .nil ∨ R.testBit i = true) → Cov i g pr → Sub g h' ∨ (g ≠ .nil ∧ m = 2)) → wpF P ops (LeavesC (Clr ops) DD E0 h0 w0 nt kn kx kr) ((l.filter fun p => (EA p.1.i).isNone).length + 1) F listed a w := by
        intro hm hw kk he hkk
        refine step2 hm ?_
        unfold wpOp
        simp only [hx.op]
        rw [if_pos hw]
        refine .inl (Oper.wp_mono ?_ (evOp_ok hcall hext he st.regs st.heap st.j _ fun V w' gv => LeavesC.thrown st g gv))
        rintro a' w' ⟨V, rfl, v, h', nxt', E', rv, hr', g', hk⟩
        obtain ⟨hk, hsub⟩ := hkk _ _ _ hk
        obtain ⟨st', hk⟩ := putK_st hk (st.mono g' hr') rv
        have fr : ∀ i I, Fr.rest ops x.i F i I → ∃ Ep g, I = IW Ep g ∧ Ep.le E' ∧ SubF Ep g h' ∧ (g = .nil ∨ R.testBit i = true) ∧ Cov i g pr := fun i I hi => by
          obtain ⟨Ep, gg, h1, h2, h3, h4, h5⟩ := hF i I hi.1
          rcases hsub i I hi Ep gg h1 h3 h4 h5 with h6 | ⟨h6, hm2⟩
          · exact ⟨Ep, gg, h1, Env.le_trans h2 g'.ext, ⟨h6, h3.2⟩, h4, h5⟩
          · rcases h4 with h4 | h4
            · exact absurd h4 h6
            · exact absurd (hx.bef _ (gov hm2 _ h4)) hi.2
        refine ⟨fun i I hi _ => ?_, ?_⟩
        · obtain ⟨Ep, gg, rfl, h2, h3, _⟩ := fr i I hi
          exact IW.of h2 hr' h3
        · refine evChain_ok hcall hext hs hr0 hj0 N l _ _ _ pr EA _ _ E' _ h' nxt' _ w' hN' g6 hinf' hl' hc' (fun i I hi => ?_) hk st' (g.trans g') ((ea.go hEA hdst gg.apt hsel' st.heap g' V).mono (PrH_mono l)) (ny.put hdst (nt := nt) rfl) (hpr2 V)
          obtain ⟨Ep, gg, h1, h2, h3, h4, h5⟩ := fr i I hi
          exact ⟨Ep, gg, h1, h2, h3, h4.imp id (RR i), h5⟩
      -- an operation that writes nothing that was there
      have flo : 2 ≤ m → Region.wanted x.o (yielded ops a.tmps) = true → evFloor P call ext (kpD ops (kx 0)) nt x.o regs h nxt (fun regs' h' nxt' => evChain P call ext nt ops l (kx 0) kn pr regs' h' nxt') = true → wpF P ops (LeavesC (Clr ops) DD E0 h0 w0 nt kn kx kr) ((l.filter fun p => (EA p.1.i).isNone).length + 1) F listed a w := by
        intro hm hw he
        unfold evFloor at he
        rw [T.setK_eq] at he
        obtain ⟨hfl, he⟩ := bc_and he
        have hfl := Nat.eq_of_beq_eq_true hfl
        refine step2 hm ?_
        unfold wpOp
        simp only [hx.op]
        rw [if_pos hw]
        have thr : ∀ V w', Gives E (T.set (.floor nxt) h 0) w (fun v h' nxt' => T.setK (T.get .gone h 0) h' 0 fun h'' => kpD ops (kx 0) regs v h'' nxt') V w' → Gives E h w (kpD ops (kx 0) regs) V w' := by
          rintro V w' ⟨v, h', nxt', E', rv, hr', g', hk⟩
          simp only [T.setK_eq] at hk
          obtain ⟨hr2, g2', _⟩ := st.heap.unfloor hfl hr' g'
          exact ⟨v, _, nxt', E', rv, hr2, g2', hk⟩
        refine .inl (Oper.wp_mono ?_ (evOp_ok hcall hext he st.regs (st.heap.floor hfl) (JC.flo st.heap rfl st.j) _ fun V w' gv => LeavesC.thrown st g (thr V w' gv)))
        rintro a' w' ⟨V, rfl, v, h', nxt', E', rv, hr', g', hk⟩
        simp only [T.setK_eq] at hk
        obtain ⟨hr2, g2', same⟩ := st.heap.unfloor hfl hr' g'
        obtain ⟨st', hk⟩ := putK_st hk (st.mono g2' hr2) rv
        have sub' : ∀ gg, Sub gg h → Sub gg (T.set (T.get .gone h 0) h' 0) := fun gg sg i hi => by
          have e := sg i hi
          have : i < nxt := by
            rcases Nat.lt_or_ge i nxt with hh | hh
            · exact hh
            · have := st.heap.lt i hh
              rw [e.live, hi] at this; cases this
          rw [same i this]; exact e
        have fr : ∀ i I, Fr.rest ops x.i F i I → ∃ Ep g, I = IW Ep g ∧ Ep.le E' ∧ SubF Ep g (T.set (T.get .gone h 0) h' 0) ∧ (g = .nil ∨ R.testBit i = true) ∧ Cov i g pr := fun i I hi => by
          obtain ⟨Ep, gg, h1, h2, h3, h4⟩ := hF i I hi.1
          exact ⟨Ep, gg, h1, Env.le_trans h2 g'.ext, ⟨sub' gg h3.1, h3.2⟩, h4⟩
        refine ⟨fun i I hi _ => ?_, ?_⟩
        · obtain ⟨Ep, gg, rfl, h2, h3, _⟩ := fr i I hi
          exact IW.of h2 hr2 h3
        · refine evChain_ok hcall hext hs hr0 hj0 N l _ _ _ pr EA _ _ E' _ _ nxt' _ w' hN' g6 hinf' hl' hc' (fun i I hi => ?_) hk st' (g.trans g2') ((ea.go hEA hdst gg.apt hsel' st.heap g2' V).mono (PrH_mono l)) (ny.put hdst (nt := nt) rfl) (hpr2 V)
          obtain ⟨Ep, gg, h1, h2, h3, h4, h5⟩ := fr i I hi
          exact ⟨Ep, gg, h1, h2, h3, h4.imp id (RR i), h5⟩
      rcases hw1 with ⟨hw, he⟩ | ⟨hw, he⟩
      case inr => exact skip _ hw he fun _ => rfl
      match m, he, hm4, pure, run, flo, pureV with
      | 0, he, _, pure, _, _, pureV =>
        have he : evPick P (factsOf h) nt x.o regs (fun regs' => evChain P call ext nt ops l (kx 0) kn pr regs' h nxt) = true := he
        unfold evPick at he
        split at he
        · rename_i c xx yy hop
          obtain ⟨cv, rc, he⟩ := opd_ok he st.regs
          have go : ∀ z, (∀ w1, (execOp a.eval x.o).run P w1 = .ok (.value (a.eval z)) w1) → opd regs z (fun v => bc (exK v) (putK x.o.dst nt v regs fun regs' => evChain P call ext nt ops l (kx 0) kn pr regs' h nxt) false) = true →
              wpF P ops (LeavesC (Clr ops) DD E0 h0 w0 nt kn kx kr) ((l.filter fun p => (EA p.1.i).isNone).length + 1) F listed a w := by
            intro z hz he
            obtain ⟨v0, rv0, he⟩ := opd_ok he st.regs
            obtain ⟨hex, he⟩ := bc_and he
            exact pureV pr .nil _ v0 (by omega) ⟨Sub.nil h, ⟨fun i fs e => (by cases e), fun i p off q cap e => (by cases e)⟩⟩ (.inl rfl) (fun _ _ h => h) (Cov.nil _ pr) hw hex he (fun E1 n1 w1 hE _ => ⟨_, hz w1, rv0.mono hE⟩) fun _ => rfl
          rcases pickK_ok he rc (factsOf_ok st.heap) with ⟨hc1, he⟩ | ⟨hc1, he⟩
          · exact go xx (fun w1 => by simp [execOp, hop, hc1, asBool]) he
          · exact go yy (fun w1 => by simp [execOp, hop, hc1, asBool]) he
        · exact pure pr .nil _ (by omega) ⟨Sub.nil h, ⟨fun i fs e => (by cases e), fun i p off q cap e => (by cases e)⟩⟩ (.inl rfl) (fun _ _ h => h) (Cov.nil _ pr) hw he fun _ => rfl
      | 1, he, _, pure, _, _, _ =>
        have he : rdsOf P x.i x.o.op regs h pr (fun pr' => evPure P nt x.o regs h fun regs' => evChain P call ext nt ops l (kx 0) kn pr' regs' h nxt) = true := he
        have hrd : ∃ kk, evRd P x.o.op regs h kk = true := by
          unfold rdsOf at he
          have out : ∀ {pr' : Rds} {kk : Regs → Bool}, evPure P nt x.o regs h kk = true → ∃ kk, evRd P x.o.op regs h kk = true := fun hh => ⟨_, hh⟩
          split at he
          · obtain ⟨v, _, he⟩ := (lin_opd regs _).val he
            split at he
            · split at he
              · rcases bc_or he with ⟨_, he⟩ | ⟨_, he⟩
                · split at he <;> exact ⟨_, he⟩
                · exact ⟨_, he⟩
              · exact ⟨_, he⟩
            · exact ⟨_, he⟩
          · exact ⟨_, he⟩
        obtain ⟨pr', gh, k1, k2, k3, k4, k5⟩ := rdsOf_ok he hrd
        exact pure pr' gh _ (by omega) k3 (.inr rfl) k2 k4 hw ((k5 _).trans k1) fun _ => rfl
      | 2, he, _, _, run, _, _ =>
        refine run (by omega) hw _ he fun v h' nxt' hk => ⟨hk, fun i I hi Ep gg _ _ _ _ => ?_⟩
        by_cases hn : gg = .nil
        · subst hn; exact .inl (Sub.nil _)
        · exact .inr ⟨hn, rfl⟩
      | 3, he, _, _, run, flo, _ =>
        have he : evBeside P call ext (kpD ops (kx 0)) nt x.o x.b pr regs h nxt (fun regs' h' nxt' => evChain P call ext nt ops l (kx 0) kn pr regs' h' nxt') = true := he
        unfold evBeside at he
        split at he
        case h_3 => exact flo (by omega) hw he
        case h_2 c0 hop =>
          rcases bc_or he with ⟨hp, he⟩ | ⟨_, he⟩
          case inr => exact flo (by omega) hw he
          rw [← hop] at he
          refine run (by omega) hw _ he fun v h' nxt' hk => ?_
          obtain ⟨hkept, hk⟩ := bc_and hk
          refine ⟨hk, fun i I hi Ep gg _ sg _ cv => .inl fun j hj => ?_⟩
          cases hpr : pr with
          | none => rw [hpr] at hp; cases hp
          | some lp =>
            rw [hpr] at hkept cv
            have hle := sg.1 j hj
            have nb : ∀ p : Nat × Nat × Nat × Nat, p.2.2.2 = i → ¬ x.b.testBit p.2.2.2 = true := fun p e hb => hi.2 (hx.bef _ (by rw [← e]; exact hb))
            obtain ⟨n0, e0, c0, h0', ⟨p0, hp0, q1, q2⟩, h1'⟩ := cv j hj
            obtain ⟨nn, ee, ca, cb, s1, s2, _⟩ := sameAt_ok (keptOK_ok hkept hp0 (nb p0 q2))
            rw [q1] at s1 s2
            rw [h0', s1] at hle
            obtain ⟨n1, e1, c1, h2', h3', h4', h5'⟩ := hle
            cases h2'
            rw [h0', s2]
            refine ⟨nn, ee, cb, rfl, h3', h4', fun q => ?_⟩
            by_cases hq : c0.get q = .no
            · exact .inl hq
            · right
              obtain ⟨p, hp', p1, p2, p3⟩ := h1' q hq
              obtain ⟨nn', ee', ca', cb', t1, t2, t3⟩ := sameAt_ok (keptOK_ok hkept hp' (nb p p3))
              rw [p1] at t1 t2
              rw [s1] at t1
              rw [s2] at t2
              cases t1; cases t2
              rw [← t3 q p2.1 p2.2]
              exact (h5' q).resolve_left hq
        rename_i t xo yo hop
        obtain ⟨xv, hxv, he⟩ := (lin_opd regs xo).val he
        split at he <;> try (cases he; done)
        rename_i id off
        split at he <;> try (cases he; done)
        rename_i inf hinf0
        rcases bc_or he with ⟨hcl, he⟩ | ⟨_, he⟩
        case inr => exact flo (by omega) hw he
        obtain ⟨n, esz, c, c', k1, k2, k3, k4⟩ := store_at he (fun {k} => hxv k) hinf0
        classical
        refine run (by omega) hw (fun v h' nxt' => decide (v = .un ∧ h' = T.set (.cells n esz c') h id ∧ nxt' = nxt) && putK x.o.dst nt v regs fun regs' => evChain P call ext nt ops l (kx 0) kn pr regs' h' nxt') ?_ ?_
        · rw [hop]
          refine k2 _ ?_
          simp only [and_self, decide_true, Bool.true_and]
          exact k3
        · intro v h' nxt' hk
          rw [Bool.and_eq_true, decide_eq_true_iff] at hk
          obtain ⟨⟨rfl, rfl, rfl⟩, hk⟩ := hk
          refine ⟨hk, fun i I hi Ep gg _ sg _ cv => .inl fun j hj => ?_⟩
          have hle := sg.1 j hj
          by_cases e : j = id
          · subst e
            rw [T.get_set_live _ _ _ _ (by rw [k1]; intro e; cases e)]
            rw [k1] at hle
            cases hpr : pr with
            | none => rw [hpr] at hcl; cases hcl
            | some lp =>
              rw [hpr] at hcl cv
              obtain ⟨n0, e0, c0, h0', _, h1'⟩ := cv j hj
              rw [h0'] at hle ⊢
              obtain ⟨n1, e1, c1, h2', h3', h4', h5'⟩ := hle
              cases h2'
              refine ⟨n, esz, c', rfl, h3', h4', fun q => ?_⟩
              by_cases hq : c0.get q = .no
              · exact .inl hq
              · right
                obtain ⟨p, hp, p1, p2, p3⟩ := h1' q hq
                have nb : ¬ x.b.testBit i = true := fun hb => hi.2 (hx.bef _ hb)
                have := clearOf_ok hcl hp p1
                rw [p3] at this
                have : p.2.1 + p.2.2.1 ≤ off ∨ off + inf.size ≤ p.2.1 := this.imp id (fun h => h.resolve_right nb)
                rw [k4 q (by omega)]
                rcases h5' q with h | h
                · exact absurd h hq
                · exact h
          · rw [T.get_set_ne _ _ _ _ _ e]; exact hle
      | 4, _, hm4, _, _, _, _ => exact absurd rfl hm4
      | m + 5, he, _, _, _, _, _ => cases he

/-- which operations may be taken ahead: 0, of no memory; 1, of memory as it is; 2, none -/
def kindOp (P : Program) (nt : Nat) (o : Oper) : Nat := match o.op with
  | .alloc _ | .buildSlice .. | .makeSlice .. | .makeMap _ none => bif newOp nt o then 4 else 2
  | .move _ | .assign _ | .pick .. | .build .. | .nilCheck _ | .unOp .. | .convert .. | .makeInterface .. | .makeFunc .. | .slice .. | .fieldAddr .. | .field .. | .indexAddr .. | .index .. | .typeAssert .. | .extract .. => 0
  | .load .. => 1
  | .lookup .. => 1
  | .binOp op t .. => (match op with
    | .quo => (match P.underlying t with
      | some (.float _) => bif newOp nt o then 4 else 0
      | _ => 0)
    | .eql | .neq => (match P.underlying t with
      | some (.pointer _) | some (.struct _) | some (.array ..) | some (.interface _) => 1
      | _ => 0)
    | _ => 0)
  | .call c => (match c.callee with
    | .builtin .len => (match c.argTypes[0]? with
      | some t => (match P.underlying t with
        | some (.map ..) => 1
        | _ => 0)
      | none => 1)
    | .builtin .min | .builtin .max => 0
    | _ => 2)
  | _ => 2

noncomputable def ordOf (P : Program) (nt : Nat) (ops : Array Oper) : List (Inf × Nat) := srch (lazyOp P nt) ops.size 0 0 0 (infs (kindOp P nt) ops.toList 0 [])

/-- the dsts of lazy allocs say nothing yet -/
noncomputable def clearK (l : List (Inf × Nat)) : Regs → (Regs → Bool) → Bool :=
  List.rec (motive := fun _ => Regs → (Regs → Bool) → Bool) (fun regs k => k regs)
    (fun y _ ih regs k => bc (Nat.beq y.2 4) (match y.1.o.dst with | some d => T.setK .no regs d fun r => ih r k | none => ih regs k) (ih regs k)) l

theorem set_no {regs : Regs} {d t : Nat} : T.get .no (T.set .no regs d) t = .no ∨ T.get .no (T.set .no regs d) t = T.get .no regs t := by
  by_cases e : t = d
  · subst e
    left
    rcases T.get_set_eq AV.no .no regs t with g | g <;> exact g
  · right; exact T.get_set_ne _ _ _ _ _ e

theorem clearK_ok : ∀ (l : List (Inf × Nat)) {regs : Regs} {k : Regs → Bool}, clearK l regs k = true → ∃ regs', k regs' = true ∧ (∀ t, T.get .no regs' t = .no ∨ T.get .no regs' t = T.get .no regs t) ∧ NoYet regs' l
  | [], regs, k, he => ⟨regs, he, fun _ => .inr rfl, fun y hy => by cases hy⟩
  | y :: l, regs, k, he => by
    have he : bc (Nat.beq y.2 4) (match y.1.o.dst with | some d => T.setK .no regs d fun r => clearK l r k | none => clearK l regs k) (clearK l regs k) = true := he
    have done : ∀ {regs1 : Regs}, clearK l regs1 k = true → (∀ t, T.get .no regs1 t = .no ∨ T.get .no regs1 t = T.get .no regs t) → (y.2 = 4 → ∀ d, y.1.o.dst = some d → T.get .no regs1 d = .no) →
        ∃ regs', k regs' = true ∧ (∀ t, T.get .no regs' t = .no ∨ T.get .no regs' t = T.get .no regs t) ∧ NoYet regs' (y :: l) := by
      intro regs1 he h1 h2
      obtain ⟨regs', k1, k2, k3⟩ := clearK_ok l he
      refine ⟨regs', k1, fun t => ?_, fun z hz h4 d hd => ?_⟩
      · rcases k2 t with h | h
        · exact .inl h
        · rw [h]; exact h1 t
      · rcases List.mem_cons.1 hz with rfl | hz
        · rcases k2 d with h | h
          · exact h
          · rw [h]; exact h2 h4 d hd
        · exact k3 z hz h4 d hd
    rcases bc_or he with ⟨_, he⟩ | ⟨h4, he⟩
    · split at he
      · rename_i d hd
        rw [T.setK_eq] at he
        refine done he (fun t => set_no) fun _ d' hd' => ?_
        rw [hd] at hd'; cases hd'
        rcases T.get_set_eq AV.no .no regs d with g | g <;> exact g
      · rename_i hd
        exact done he (fun _ => .inr rfl) fun _ d' hd' => by rw [hd] at hd'; cases hd'
    · exact done he (fun _ => .inr rfl) fun h => by rw [h] at h4; cases h4

noncomputable def evDraw (P : Program) (ext : Exts) (call : CallF) : DrawF := fun ops nt kq kn regs h nxt =>
  bc (Nat.beq (List.length (ordOf P nt ops)) ops.size) (bc (Region.noSelect ops) (bc (good P nt ops (2 ^ ops.size - 1) (ordOf P nt ops) 0 0 0)
    (clearK (ordOf P nt ops) regs fun regs => evChain P call ext nt ops (ordOf P nt ops) kq kn (some []) regs h nxt) false) false) false

theorem evDraw_ok {P : Program} {ext : Exts} (hm : P.follows .mixedOrders = true) (hext : ExtOK P ext) (call : CallF) (hcall : CallOK P call) : DrawOK P (evDraw P ext call) := by
  intro DD id ops nt kn kx kr E regs h nxt a w he st
  obtain ⟨e1, he⟩ := bc_and he
  obtain ⟨e2, he⟩ := bc_and he
  obtain ⟨e3, he⟩ := bc_and he
  obtain ⟨regs', he, hc, hny⟩ := clearK_ok _ he
  have e1 := Nat.eq_of_beq_eq_true e1
  refine wp_mono (Q := LeavesC (Clr ops) DD E h w nt kn kx kr) (wp_region_any hm ?_) fun e a w hh => hh.weak
  refine wpF.any (F := fun _ _ => False) ?_
  have hinf : ∀ p ∈ ordOf P nt ops, InfOK ops p.1 := fun p hp => by
    obtain ⟨x, hx, l, e⟩ := srch_mem _ _ _ _ _ _ p hp
    rw [e]; exact (infs_ok _ 0 [] (by simp) (by simp) x hx).with_ l
  have := evChain_ok (kx := kx) (kr := kr) (E0 := E) (h0 := h) (w0 := w) hcall hext e2 st.heap st.j _ (ordOf P nt ops) 0 0 0 (some []) (fun _ => none) (Array.replicate ops.size false) (fun _ _ => False) E regs' h nxt a { w with drawn := w.drawn + 1 } (Nat.le_refl _) e3 hinf
    ⟨by simp, fun j => by by_cases hj : j < ops.size <;> simp [hj]⟩ (fun j i hj _ => by by_cases h : j < ops.size <;> simp [h] at hj) (fun _ _ hh => hh.elim) he
    ⟨fun t => by
      rcases hc t with h | h <;> rw [h]
      · simp [Rv]
      · exact st.regs t, st.size, st.defers, st.heap.drew, JC.goes st.heap st.j (Goes.drew _ _ _) st.heap.drew⟩ (Goes.drew _ _ _)
    ⟨fun _ _ h => (by cases h), fun _ _ _ h => (by cases h), fun _ _ h => (by cases h), fun _ _ _ h => (by cases h)⟩ hny (fun y _ _ hr => by
      unfold rdyL at hr
      have : bitB 0 y.1.i = false := by
        cases hb : bitB 0 y.1.i
        · rfl
        · have := bitB_iff.1 hb; simp at this
      rw [this] at hr
      exact .lazy hr a)
  have e4 : ((ordOf P nt ops).filter fun p => ((fun _ => none : Nat → Option Ev) p.1.i).isNone).length = ops.size := by
    rw [← e1]; simp
  rw [e4] at this
  exact this

/-- the evaluator of calls, whole -/
noncomputable def evaluate (P : Program) (sp : Specs) (ext : Exts) (lf n : Nat) : CallF := evCall P sp ext (evDraw P ext) lf n
theorem evaluate_ok {P : Program} {sp : Specs} {ext : Exts} (hm : P.follows .mixedOrders = true) (hsp : SpecOK P sp) (hext : ExtOK P ext) {lf n : Nat} : CallOK P (evaluate P sp ext lf n) :=
  evCall_ok hsp hext (fun call hcall => evDraw_ok hm hext call hcall) n
end Go.Proofs.YtbmekbpgoakkbaaGreatDoor.Vx
