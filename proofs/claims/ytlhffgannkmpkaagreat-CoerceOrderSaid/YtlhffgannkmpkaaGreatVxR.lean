/- Drawn regions: the evaluator and its law. No condition. -/
import Derived.Test.YtlhffgannkmpkaaGreatVxQ
set_option linter.unusedVariables false
set_option linter.unusedSimpArgs false
namespace Go.Proofs.YtlhffgannkmpkaaGreat.Vx
open Go

noncomputable def evPure (P : Program) (nt : Nat) (o : Oper) (regs : Regs) (g : Heap) (k : Regs → Bool) : Bool :=
  evRd P o.op regs g fun v => bc (exK v) (putK o.dst nt v regs k) false

noncomputable def evFloor (P : Program) (call : CallF) (ext : Exts) (nt : Nat) (o : Oper) (regs : Regs) (h : Heap) (nxt : Nat) (k : S) : Bool :=
  T.setK (.floor nxt) h 0 fun hf => bc (Nat.beq (flr hf) nxt)
    (evOp P call ext o.op regs hf nxt fun v h' nxt' => T.setK (T.get .gone h 0) h' 0 fun h'' => putK o.dst nt v regs fun regs' => k regs' h'' nxt') false

/-! ### What is read ahead -/
/-- stretches of blocks; 'none': anything -/
abbrev Rds := Option (List (Nat × Nat × Nat × Nat))

def Cov (i : Nat) (g : Heap) (pr : Rds) : Prop := match pr with
  | none => True
  | some l => ∀ id, (T.get .gone g id).live = true → ∃ n e c, T.get .gone g id = .cells n e c ∧ ∀ j, T.get .no c j ≠ .no → ∃ p ∈ l, p.1 = id ∧ (p.2.1 ≤ j ∧ j < p.2.1 + p.2.2.1) ∧ p.2.2.2 = i

theorem Cov.nil (i : Nat) (pr : Rds) : Cov i .nil pr := by
  cases pr with
  | none => trivial
  | some l => intro id hi; cases hi

noncomputable def rdsOf (P : Program) (ix : Nat) (o : Op) (regs : Regs) (pr : Rds) (k : Rds → Bool) : Bool := match o with
  | .load t x => opd regs x fun v => match v with
    | .p id off => (match P.info? t with
      | some i => bc (Nat.ble 1 i.size) (k (pr.map fun l => (id, off, i.size, ix) :: l)) (k none)
      | none => k none)
    | _ => k none
  | _ => k none

/-- nothing of the stretch is among those, but what is surely read before -/
def clearOf (pr : Rds) (b id off sz : Nat) : Bool := match pr with
  | none => false
  | some l => l.all fun p => bif Nat.beq p.1 id then (bif Nat.ble (p.2.1 + p.2.2.1) off then true else bif Nat.ble (off + sz) p.2.1 then true else bitB b p.2.2.2) else true

theorem clearOf_ok {l : List (Nat × Nat × Nat × Nat)} {b id off sz : Nat} (h : clearOf (some l) b id off sz = true) {p : Nat × Nat × Nat × Nat} (hp : p ∈ l) (e : p.1 = id) : p.2.1 + p.2.2.1 ≤ off ∨ off + sz ≤ p.2.1 ∨ b.testBit p.2.2.2 = true := by
  have := List.all_eq_true.1 h p hp
  have e' : Nat.beq p.1 id = true := by rw [e]; exact Nat.beq_refl id
  rw [e'] at this
  cases hb : Nat.ble (p.2.1 + p.2.2.1) off
  · rw [hb] at this
    cases hc : Nat.ble (off + sz) p.2.1
    · rw [hc] at this; exact .inr (.inr (bitB_iff.1 this))
    · exact .inr (.inl (Nat.le_of_ble_eq_true hc))
  · exact .inl (Nat.le_of_ble_eq_true hb)

theorem rdsOf_ok {P : Program} {ix : Nat} {o : Op} {regs : Regs} {pr : Rds} {k : Rds → Bool} {h : Heap} (he : rdsOf P ix o regs pr k = true) (hrd : ∃ kk, evRd P o regs h kk = true) :
    ∃ pr' g, k pr' = true ∧ (∀ i g', Cov i g' pr → Cov i g' pr') ∧ Sub g h ∧ Cov ix g pr' ∧ ∀ kk, evRd P o regs g kk = evRd P o regs h kk := by
  have any : k none = true → ∃ pr' g, k pr' = true ∧ (∀ i g', Cov i g' pr → Cov i g' pr') ∧ Sub g h ∧ Cov ix g pr' ∧ ∀ kk, evRd P o regs g kk = evRd P o regs h kk := fun hk =>
    ⟨none, h, hk, fun _ _ _ => trivial, Sub.refl h, trivial, fun _ => rfl⟩
  unfold rdsOf at he
  split at he
  case h_2 => exact any he
  rename_i t x
  obtain ⟨v, hv, he⟩ := (lin_opd regs x).val he
  split at he
  case h_2 => exact any he
  rename_i id off
  split at he
  case h_2 => exact any he
  rename_i i hi
  rcases bc_or he with ⟨h1, he⟩ | ⟨_, he⟩
  case inr => exact any he
  have h1 := Nat.le_of_ble_eq_true h1
  obtain ⟨kk, hrd⟩ := hrd
  have hrd : opd regs x (fun v => evLoad P t v h kk) = true := hrd
  rw [hv] at hrd
  unfold evLoad at hrd
  simp only at hrd
  split at hrd <;> try (cases hrd; done)
  rename_i n esz c hc
  clear hrd
  refine ⟨_, T.set (.cells n 0 (T.keep .no (fun j => decide (off ≤ j ∧ j < off + i.size)) c)) (T.keep .gone (fun j => decide (j = id)) h) id, he, ?_, ?_, ?_, ?_⟩
  · intro i' g' hg'
    cases pr with
    | none => trivial
    | some l =>
      intro id' hl
      obtain ⟨n', e', c', h2, h3⟩ := hg' id' hl
      exact ⟨n', e', c', h2, fun j hj => by obtain ⟨p, hp, h4⟩ := h3 j hj; exact ⟨p, by simp [hp], h4⟩⟩
  all_goals
    have hk : T.get .gone (T.keep .gone (fun j => decide (j = id)) h) id = .cells n esz c := by rw [T.get_keep]; simp [hc]
    have gid : T.get .gone (T.set (.cells n 0 (T.keep .no (fun j => decide (off ≤ j ∧ j < off + i.size)) c)) (T.keep .gone (fun j => decide (j = id)) h) id) id = .cells n 0 (T.keep .no (fun j => decide (off ≤ j ∧ j < off + i.size)) c) :=
      T.get_set_live _ _ _ _ (by rw [hk]; intro e; cases e)
    have gne : ∀ j, j ≠ id → T.get .gone (T.set (.cells n 0 (T.keep .no (fun j => decide (off ≤ j ∧ j < off + i.size)) c)) (T.keep .gone (fun j => decide (j = id)) h) id) j = .gone := fun j hj => by
      rw [T.get_set_ne _ _ _ _ _ hj, T.get_keep]; simp [hj]
  · intro j hj
    by_cases e : j = id
    · subst e
      rw [gid, hc]
      refine ⟨n, esz, c, rfl, Nat.le_refl _, .inl rfl, fun q => ?_⟩
      rw [T.get_keep]
      by_cases hq : off ≤ q ∧ q < off + i.size
      · right; simp [hq]
      · left; simp [hq]
    · rw [gne j e] at hj; cases hj
  · cases pr with
    | none => trivial
    | some l =>
      intro j hj
      by_cases e : j = id
      · subst e
        refine ⟨_, _, _, gid, fun q hq => ⟨(j, off, i.size, ix), by simp, rfl, ?_, rfl⟩⟩
        rw [T.get_keep] at hq
        by_cases hq' : off ≤ q ∧ q < off + i.size
        · exact hq'
        · simp [hq'] at hq
      · rw [gne j e] at hj; cases hj
  · intro kk
    show opd regs x (fun v => evLoad P t v _ kk) = opd regs x (fun v => evLoad P t v h kk)
    rw [hv, hv]
    unfold evLoad
    simp only [gid, hc, hi]
    cases P.underlying t with
    | none => rfl
    | some d =>
      simp only
      have e1 : ∀ q, off ≤ q → q < off + i.size → T.get .no (T.keep .no (fun j => decide (off ≤ j ∧ j < off + i.size)) c) q = T.get .no c q := fun q a b => by
        rw [T.get_keep]; simp [a, b]
      rw [rdN_ok, rdN_ok, e1 off (Nat.le_refl _) (by omega)]
      have e2 : (List.range' off i.size).map (fun j => T.get .no (T.keep .no (fun j => decide (off ≤ j ∧ j < off + i.size)) c) j) = (List.range' off i.size).map fun j => T.get .no c j := by
        refine List.map_congr_left fun q hq => ?_
        rw [List.mem_range'_1] at hq
        exact e1 q hq.1 hq.2
      rw [e2]

theorem flrOK_of {h : Heap} {id : Nat} {b b' : Bool} (he : flrOK h id b = true) (hb : b' = true) : flrOK h id b' = true := by
  unfold flrOK at *
  generalize T.get AO.gone h 0 = o at *
  cases o with
  | floor n => obtain ⟨h1, _⟩ := bc_and he; show bc (Nat.ble n id) b' false = true; rw [h1, hb]; rfl
  | _ => exact hb

/-- what a store leaves -/
theorem store_at {P : Program} {call : CallF} {ext : Exts} {t : TypeId} {x y : Operand} {regs : Regs} {h : Heap} {nxt id off : Nat} {i : TypeInfo} {k : K} (he : evOp P call ext (.store t x y) regs h nxt k = true)
    (hx : ∀ {k : AV → Bool}, opd regs x k = k (.p id off)) (hi : P.info? t = some i) :
    ∃ n esz c c', T.get .gone h id = .cells n esz c ∧ (∀ k : K, k .un (T.set (.cells n esz c') h id) nxt = true → evOp P call ext (.store t x y) regs h nxt k = true) ∧ k .un (T.set (.cells n esz c') h id) nxt = true ∧
      ∀ j, j < off ∨ off + i.size ≤ j → T.get .no c' j = T.get .no c j := by
  have he : opd regs x (fun x => opd regs y fun y => evStore P t x y h fun h' => k .un h' nxt) = true := he
  rw [hx] at he
  obtain ⟨yv, hy, he⟩ := (lin_opd regs y).val he
  unfold evStore at he
  simp only at he
  split at he <;> try (cases he; done)
  rename_i n esz c hc
  rw [hi] at he
  simp only at he
  obtain ⟨l, hl, he⟩ := (lin_cellsK yv).val he
  obtain ⟨h1, he⟩ := bc_and he
  obtain ⟨h2, he⟩ := bc_and he
  have hfl := (flrOK_ok he).2
  rw [wrL_eq, T.setK_eq] at hfl
  refine ⟨n, esz, c, wrLs l c off, hc, fun k' hk' => ?_, hfl, fun j hj => ?_⟩
  · show opd regs x (fun x => opd regs y fun y => evStore P t x y h fun h' => k' .un h' nxt) = true
    rw [hx, hy]
    unfold evStore
    simp only [hc, hi]
    rw [hl, h1, bc_true, h2, bc_true]
    refine flrOK_of he ?_
    rw [wrL_eq, T.setK_eq]
    exact hk'
  · have hlen := lenIs_ok h1
    have aux : ∀ (l : List AV) (c : T AV) (o : Nat), (j < o ∨ o + l.length ≤ j) → T.get .no (wrLs l c o) j = T.get .no c j := by
      intro l
      induction l with
      | nil => intro c o _; rfl
      | cons v l ihl =>
        intro c o ho
        show T.get .no (wrLs l (T.set v c o) (o + 1)) j = _
        simp only [List.length_cons] at ho
        rw [ihl _ _ (by omega), T.get_set_ne _ _ _ _ _ (by omega)]
    exact aux l c off (by rw [hlen]; exact hj)

noncomputable def evBeside (P : Program) (call : CallF) (ext : Exts) (nt : Nat) (o : Oper) (b : Nat) (pr : Rds) (regs : Regs) (h : Heap) (nxt : Nat) (k : S) : Bool := match o.op with
  | .store t x y => opd regs x fun xv => match xv with
    | .p id off => (match P.info? t with
      | some i => bc (clearOf pr b id off i.size) (evOp P call ext (.store t x y) regs h nxt fun v h' nxt' => putK o.dst nt v regs fun regs' => k regs' h' nxt') (evFloor P call ext nt o regs h nxt k)
      | none => false)
    | _ => false
  | _ => evFloor P call ext nt o regs h nxt k

noncomputable def evStep (P : Program) (call : CallF) (ext : Exts) (nt : Nat) (x : Inf) (m : Nat) (pr : Rds) (regs : Regs) (h : Heap) (nxt : Nat) (k : Rds → S) : Bool :=
  Nat.rec (motive := fun _ => Bool) (evPure P nt x.o regs .nil fun regs' => k pr regs' h nxt)
    (fun m _ => Nat.rec (motive := fun _ => Bool) (rdsOf P x.i x.o.op regs pr fun pr' => evPure P nt x.o regs h fun regs' => k pr' regs' h nxt)
      (fun m _ => Nat.rec (motive := fun _ => Bool) (evOp P call ext x.o.op regs h nxt fun v h' nxt' => putK x.o.dst nt v regs fun regs' => k pr regs' h' nxt')
        (fun _ _ => evBeside P call ext nt x.o x.b pr regs h nxt (k pr)) m) m) m

noncomputable def evChain (P : Program) (call : CallF) (ext : Exts) (nt : Nat) (ops : Array Oper) (l : List (Inf × Nat)) (kn : S) : Rds → S :=
  List.rec (motive := fun _ => Rds → S) (fun _ => kn)
    (fun x _ ih pr regs h nxt => wantK ops x.1.o regs
      (evStep P call ext nt x.1 x.2 pr regs h nxt fun pr' regs' h' nxt' => ih pr' regs' h' nxt')
      (putK x.1.o.dst nt .un regs fun regs' => ih pr regs' h nxt)) l

/-- what the order knows of the operations that were taken ahead -/
def FrOK (F : Fr) (E : Env) (h : Heap) (R : Nat) (pr : Rds) : Prop := ∀ i I, F i I → ∃ Ep g, I = IW Ep g ∧ Ep.le E ∧ Sub g h ∧ (g = .nil ∨ R.testBit i = true) ∧ Cov i g pr

structure ListedD (ops : Array Oper) (D : Nat) (listed : Array Bool) : Prop where
  size : listed.size = ops.size
  bit : ∀ j, listed.getD j false = D.testBit j

theorem ListedD.set {ops : Array Oper} {D : Nat} {listed : Array Bool} (r : ListedD ops D listed) {i : Nat} (hi : i < ops.size) : ListedD ops (addB D i) (listed.setIfInBounds i true) := by
  refine ⟨by simp [r.size], fun j => ?_⟩
  rw [addB_bit]
  by_cases e : i = j
  · subst e
    have : i < listed.size := by rw [r.size]; exact hi
    simp [this]
  · rw [getD_set_ne false e, r.bit]; simp [e]

theorem ListedD.true_ {ops : Array Oper} {D : Nat} {listed : Array Bool} (r : ListedD ops D listed) {i : Nat} (hi : i < ops.size) : listed.getD i true = D.testBit i := by
  have : i < listed.size := by rw [r.size]; exact hi
  rw [← r.bit]; simp [this]

theorem ListedD.rdy {ops : Array Oper} {D : Nat} {listed : Array Bool} (r : ListedD ops D listed) {x : Inf} (hx : InfOK ops x) :
    x.i ∈ rdy ops listed ↔ D.testBit x.i = false ∧ ∀ t, x.d.testBit t = true → D.testBit t = true := by
  have hlt : x.i < ops.size := (Array.getElem?_eq_some_iff.1 hx.op).1
  unfold Vx.rdy
  rw [mem_ready, r.true_ hlt]
  refine and_congr_right fun _ => ?_
  constructor
  · rintro ⟨o, ho, hall⟩ t ht
    obtain ⟨o', ho', e, he, hb, rfl⟩ := (hx.dir t).1 ht
    rw [ho] at ho'; cases ho'
    rw [← r.bit]; exact hall e he hb
  · intro h
    refine ⟨x.o, hx.op, fun e he hb => ?_⟩
    rw [r.bit]
    exact h _ ((hx.dir _).2 ⟨x.o, hx.op, e, he, hb, rfl⟩)

theorem evChain_ok {P : Program} {call : CallF} {ext : Exts} (hcall : CallOK P call) (hext : ExtOK P ext) {nt : Nat} {ops : Array Oper} (hs : Region.noSelect ops = true) {kn : S} {kx : Nat → S} {kr : S}
    {E0 : Env} {h0 : Heap} {w0 : World} : ∀ (l : List (Inf × Nat)) (D R : Nat) (pr : Rds) (listed : Array Bool) (F : Fr) (E : Env) (regs : Regs) (h : Heap) (nxt : Nat) (a : Act) (w : World),
    good ops (2 ^ ops.size - 1) l D R = true → (∀ p ∈ l, InfOK ops p.1) → ListedD ops D listed → Closed ops listed → FrOK F E h R pr → evChain P call ext nt ops l kn pr regs h nxt = true → St E regs h nxt nt a w → Goes E0 h0 w0 E h w →
    wpF P ops (Leaves E0 h0 w0 nt kn kx kr) l.length F listed a w
  | [], D, R, pr, listed, F, E, regs, h, nxt, a, w, hg, _, hl, hc, hF, he, st, g => by
    refine ⟨?_, E, regs, h, nxt, st, g, he⟩
    apply List.eq_nil_iff_forall_not_mem.2
    intro j hj
    have hlt : j < ops.size := by
      obtain ⟨_, o, ho, _⟩ := mem_ready.1 hj
      exact (Array.getElem?_eq_some_iff.1 ho).1
    rcases good_cover [] D R hg j hlt with hd | ⟨_, hy, _⟩
    · have := not_listed hj
      rw [hl.bit, hd] at this; cases this
    · cases hy
  | (x, m) :: l, D, R, pr, listed, F, E, regs, h, nxt, a, w, hg, hinf, hl, hc, hF, he, st, g => by
    obtain ⟨g1, g2, g3, g4, g5, g6⟩ := good_cons hg
    have hx : InfOK ops x := hinf (x, m) (by simp)
    have hlt : x.i < ops.size := (Array.getElem?_eq_some_iff.1 hx.op).1
    have hr : x.i ∈ rdy ops listed := (hl.rdy hx).2 ⟨g1, g2⟩
    have hinf' : ∀ p ∈ l, InfOK ops p.1 := fun p hp => hinf p (by simp [hp])
    have hl' := hl.set hlt
    have hc' := hc.set hr
    have hQ : ∀ c a w, ¬ Leaves E0 h0 w0 nt kn kx kr (.panic c) a w := by
      rintro c a w ⟨_, _, _, _, _, _, hh⟩; exact hh
    have hL : ¬ LetsOut (Leaves E0 h0 w0 nt kn kx kr) := by
      rintro ⟨a, w, ⟨_, _, _, _, _, _, hh⟩⟩; exact hh
    have cover : ∀ j, j < ops.size → j ≠ x.i → listed.getD j true = false → ∃ y ∈ l, y.1.i = j := fun j hj hne hun => by
      rw [hl.true_ hj] at hun
      rcases good_cover l _ _ g6 j hj with hd | hd
      · rw [addB_bit, hun, Bool.false_or, decide_eq_true_iff] at hd
        exact absurd hd.symm hne
      · exact hd
    have free : m < 2 → ∀ j oj, ops[j]? = some oj → j ≠ x.i → listed.getD j true = false → ¬ Reach ops j x.i → x.o.apart ops oj = true := fun hm j oj hj hne hun hno => by
      obtain ⟨y, hy, rfl⟩ := cover j (Array.getElem?_eq_some_iff.1 hj).1 hne hun
      have hyo := (hinf' y hy).op
      rw [hj] at hyo; cases hyo
      rcases g4 hm y hy with h | h
      · exact absurd ((hinf' y hy).bef _ h) hno
      · exact h
    have one : 2 ≤ m → ∀ k ∈ rdy ops listed, k = x.i := fun hm k hk => by
      obtain ⟨hun, o, ho, _⟩ := mem_ready.1 hk
      have hk' : k < ops.size := (Array.getElem?_eq_some_iff.1 ho).1
      by_cases e : k = x.i
      · exact e
      · obtain ⟨y, hy, rfl⟩ := cover k hk' e hun
        exact absurd ((hl.rdy (hinf' y hy)).1 hk).2 (g3 hm y hy)
    have RR : ∀ t, R.testBit t = true → (bif Nat.beq m 1 then addB R x.i else R).testBit t = true := fun t ht => by
      cases Nat.beq m 1
      · exact ht
      · show (addB R x.i).testBit t = true
        rw [addB_bit, ht]; rfl
    have FrR : ∀ {R' pr'}, (∀ t, R.testBit t = true → R'.testBit t = true) → (∀ i g, Cov i g pr → Cov i g pr') → FrOK F E h R' pr' := fun hR hp i I hi => by
      obtain ⟨Ep, g', h1, h2, h3, h4, h5⟩ := hF i I hi
      exact ⟨Ep, g', h1, h2, h3, h4.imp id (hR i), hp _ _ h5⟩
    -- an operation that is taken ahead
    have pure : ∀ (pr' : Rds) (gh : Heap) (kk : Regs → Bool), m < 2 → Sub gh h → (gh = .nil ∨ m = 1) → (∀ i g, Cov i g pr → Cov i g pr') → Cov x.i gh pr' → Region.wanted x.o (yielded ops a.tmps) = true → evPure P nt x.o regs gh kk = true →
        (∀ regs', kk regs' = evChain P call ext nt ops l kn pr' regs' h nxt) → wpF P ops (Leaves E0 h0 w0 nt kn kx kr) (l.length + 1) F listed a w := by
      intro pr' gh kk hm sb hgh hcov hcg hw he hkk
      unfold evPure at he
      obtain ⟨v0, hv, he⟩ := (lin_evRd P x.o.op regs gh).val he
      obtain ⟨hex, he⟩ := bc_and he
      have val : ∀ (E1 : Env) (n1 : Nat) (w1 : World), E.le E1 → HR E1 gh n1 w1 → ∃ V, (execOp a.eval x.o).run P w1 = .ok (.value V) w1 ∧ Rv E1 v0 V := by
        intro E1 n1 w1 hE hr1
        classical
        have hk : evRd P x.o.op regs gh (fun v => decide (v = v0)) = true := by rw [hv]; simp
        obtain ⟨v', V, w', k1, k2, k3, k4⟩ := evRd_ok hk (st.regs.mono hE) hr1
        have : v' = v0 := by simpa using k4
        subst this
        rcases k2 with rfl | ⟨rfl, _⟩
        · exact ⟨V, k1, k3⟩
        · cases hex
      obtain ⟨V0, hrun, rv⟩ := val E _ w (Env.le_refl E) (st.heap.sub sb)
      obtain ⟨regs', st', hk⟩ := putK_ok he st rv
      rw [hkk] at hk
      refine wpF.take (v := V0) hx.op hs hQ hL _ F listed a w hc (free hm) hr (I := IW E gh) (.inl ⟨hw, ?_⟩) (IW.of (Env.le_refl E) st.heap sb) ?_
      · rintro w1 ⟨E1, n1, hE, hr1⟩
        obtain ⟨V1, hrun1, rv1⟩ := val E1 n1 w1 hE hr1
        rw [hrun1, Rv.exact hE v0 V0 V1 hex rv rv1]
      · refine evChain_ok hcall hext hs l _ _ pr' _ _ E regs' h nxt _ w g6 hinf' hl' hc' ?_ hk st' g
        rintro i I (hi | ⟨rfl, rfl⟩)
        · exact FrR RR hcov i I hi
        · refine ⟨E, gh, rfl, Env.le_refl E, sb, ?_, hcg⟩
          rcases hgh with rfl | hm1
          · exact .inl rfl
          · right
            rw [hm1]
            show (addB R x.i).testBit x.i = true
            rw [addB_bit]; simp
    -- an operation that is not wanted
    have skip : ∀ (kk : Regs → Bool), Region.wanted x.o (yielded ops a.tmps) = false → putK x.o.dst nt .un regs kk = true →
        (∀ regs', kk regs' = evChain P call ext nt ops l kn pr regs' h nxt) → wpF P ops (Leaves E0 h0 w0 nt kn kx kr) (l.length + 1) F listed a w := by
      intro kk hw he hkk
      obtain ⟨regs', st', hk⟩ := putK_ok he st (V := undef) (by rw [Rv])
      rw [hkk] at hk
      rcases Nat.lt_or_ge m 2 with hm | hm
      · refine wpF.take (v := undef) hx.op hs hQ hL _ F listed a w hc (free hm) hr (I := IW E .nil) (.inr ⟨hw, rfl⟩) (IW.of (Env.le_refl E) st.heap (Sub.nil h)) ?_
        refine evChain_ok hcall hext hs l _ _ pr _ _ E regs' h nxt _ w g6 hinf' hl' hc' ?_ hk st' g
        rintro i I (hi | ⟨rfl, rfl⟩)
        · exact FrR RR (fun _ _ h => h) i I hi
        · exact ⟨E, .nil, rfl, Env.le_refl E, Sub.nil h, .inl rfl, Cov.nil _ pr⟩
      · refine wpF.step hr (one hm) ?_
        unfold wpOp
        simp only [hx.op]
        rw [if_neg (by simp [hw])]
        refine ⟨fun _ _ _ hI => hI, ?_⟩
        exact evChain_ok hcall hext hs l _ _ pr _ _ E regs' h nxt _ w g6 hinf' hl' hc' (fun i I hi => FrR RR (fun _ _ h => h) i I hi.1) hk st' g
    -- an operation that runs, and that leaves standing what was read ahead
    have run : 2 ≤ m → Region.wanted x.o (yielded ops a.tmps) = true → ∀ (kk : K), evOp P call ext x.o.op regs h nxt kk = true →
        (∀ v h' nxt', kk v h' nxt' = true → putK x.o.dst nt v regs (fun regs' => evChain P call ext nt ops l kn pr regs' h' nxt') = true ∧
          ∀ i I, Fr.rest ops x.i F i I → ∀ Ep g, I = IW Ep g → Sub g h → (g = .nil ∨ R.testBit i = true) → Cov i g pr → Sub g h' ∨ (g ≠ .nil ∧ m = 2)) → wpF P ops (Leaves E0 h0 w0 nt kn kx kr) (l.length + 1) F listed a w := by
      intro hm hw kk he hkk
      refine wpF.step hr (one hm) ?_
      unfold wpOp
      simp only [hx.op]
      rw [if_pos hw]
      refine .inl (Oper.wp_mono ?_ (evOp_ok hcall hext he st.regs st.heap _))
      rintro a' w' ⟨V, rfl, v, h', nxt', E', rv, hr', g', hk⟩
      obtain ⟨hk, hsub⟩ := hkk _ _ _ hk
      obtain ⟨regs', st', hk⟩ := putK_ok hk (st.mono g'.ext hr') rv
      have fr : ∀ i I, Fr.rest ops x.i F i I → ∃ Ep g, I = IW Ep g ∧ Ep.le E' ∧ Sub g h' ∧ (g = .nil ∨ R.testBit i = true) ∧ Cov i g pr := fun i I hi => by
        obtain ⟨Ep, gg, h1, h2, h3, h4, h5⟩ := hF i I hi.1
        rcases hsub i I hi Ep gg h1 h3 h4 h5 with h6 | ⟨h6, hm2⟩
        · exact ⟨Ep, gg, h1, Env.le_trans h2 g'.ext, h6, h4, h5⟩
        · rcases h4 with h4 | h4
          · exact absurd h4 h6
          · exact absurd (hx.bef _ (g5 hm2 _ h4)) hi.2
      refine ⟨fun i I hi _ => ?_, ?_⟩
      · obtain ⟨Ep, gg, rfl, h2, h3, _⟩ := fr i I hi
        exact IW.of h2 hr' h3
      · refine evChain_ok hcall hext hs l _ _ pr _ _ E' regs' h' nxt' _ w' g6 hinf' hl' hc' (fun i I hi => ?_) hk st' (g.trans g')
        obtain ⟨Ep, gg, h1, h2, h3, h4, h5⟩ := fr i I hi
        exact ⟨Ep, gg, h1, h2, h3, h4.imp id (RR i), h5⟩
    -- an operation that writes nothing that was there
    have flo : 2 ≤ m → Region.wanted x.o (yielded ops a.tmps) = true → evFloor P call ext nt x.o regs h nxt (fun regs' h' nxt' => evChain P call ext nt ops l kn pr regs' h' nxt') = true → wpF P ops (Leaves E0 h0 w0 nt kn kx kr) (l.length + 1) F listed a w := by
      intro hm hw he
      unfold evFloor at he
      rw [T.setK_eq] at he
      obtain ⟨hfl, he⟩ := bc_and he
      have hfl := Nat.eq_of_beq_eq_true hfl
      refine wpF.step hr (one hm) ?_
      unfold wpOp
      simp only [hx.op]
      rw [if_pos hw]
      refine .inl (Oper.wp_mono ?_ (evOp_ok hcall hext he st.regs (st.heap.floor hfl) _))
      rintro a' w' ⟨V, rfl, v, h', nxt', E', rv, hr', g', hk⟩
      simp only [T.setK_eq] at hk
      obtain ⟨hr2, g2', same⟩ := st.heap.unfloor hfl hr' g'
      obtain ⟨regs', st', hk⟩ := putK_ok hk (st.mono g'.ext hr2) rv
      have sub' : ∀ gg, Sub gg h → Sub gg (T.set (T.get .gone h 0) h' 0) := fun gg sg i hi => by
        have e := sg i hi
        have : i < nxt := by
          rcases Nat.lt_or_ge i nxt with hh | hh
          · exact hh
          · have := st.heap.lt i hh
            rw [e.live, hi] at this; cases this
        rw [same i this]; exact e
      have fr : ∀ i I, Fr.rest ops x.i F i I → ∃ Ep g, I = IW Ep g ∧ Ep.le E' ∧ Sub g (T.set (T.get .gone h 0) h' 0) ∧ (g = .nil ∨ R.testBit i = true) ∧ Cov i g pr := fun i I hi => by
        obtain ⟨Ep, gg, h1, h2, h3, h4⟩ := hF i I hi.1
        exact ⟨Ep, gg, h1, Env.le_trans h2 g'.ext, sub' gg h3, h4⟩
      refine ⟨fun i I hi _ => ?_, ?_⟩
      · obtain ⟨Ep, gg, rfl, h2, h3, _⟩ := fr i I hi
        exact IW.of h2 hr2 h3
      · refine evChain_ok hcall hext hs l _ _ pr _ _ E' regs' _ nxt' _ w' g6 hinf' hl' hc' (fun i I hi => ?_) hk st' (g.trans g2')
        obtain ⟨Ep, gg, h1, h2, h3, h4, h5⟩ := fr i I hi
        exact ⟨Ep, gg, h1, h2, h3, h4.imp id (RR i), h5⟩
    have he : wantK ops x.o regs
      (evStep P call ext nt x m pr regs h nxt fun pr' regs' h' nxt' => evChain P call ext nt ops l kn pr' regs' h' nxt')
      (putK x.o.dst nt .un regs fun regs' => evChain P call ext nt ops l kn pr regs' h nxt) = true := he
    rcases wantK_ok he st.regs with ⟨hw, he⟩ | ⟨hw, he⟩
    case inr => exact skip _ hw he fun _ => rfl
    match m, he, pure, run, flo with
    | 0, he, pure, _, _ => exact pure pr .nil _ (by omega) (Sub.nil h) (.inl rfl) (fun _ _ h => h) (Cov.nil _ pr) hw he fun _ => rfl
    | 1, he, pure, _, _ =>
      have he : rdsOf P x.i x.o.op regs pr (fun pr' => evPure P nt x.o regs h fun regs' => evChain P call ext nt ops l kn pr' regs' h nxt) = true := he
      have hrd : ∃ kk, evRd P x.o.op regs h kk = true := by
        unfold rdsOf at he
        have out : ∀ {pr' : Rds} {kk : Regs → Bool}, evPure P nt x.o regs h kk = true → ∃ kk, evRd P x.o.op regs h kk = true := fun hh => ⟨_, hh⟩
        split at he
        · obtain ⟨v, _, he⟩ := (lin_opd regs _).val he
          split at he
          · split at he
            · rcases bc_or he with ⟨_, he⟩ | ⟨_, he⟩
              · exact ⟨_, he⟩
              · exact ⟨_, he⟩
            · exact ⟨_, he⟩
          · exact ⟨_, he⟩
        · exact ⟨_, he⟩
      obtain ⟨pr', gh, k1, k2, k3, k4, k5⟩ := rdsOf_ok he hrd
      exact pure pr' gh _ (by omega) k3 (.inr rfl) k2 k4 hw ((k5 _).trans k1) fun _ => rfl
    | 2, he, _, run, _ =>
      refine run (by omega) hw _ he fun v h' nxt' hk => ⟨hk, fun i I hi Ep gg _ _ _ _ => ?_⟩
      by_cases hn : gg = .nil
      · subst hn; exact .inl (Sub.nil _)
      · exact .inr ⟨hn, rfl⟩
    | m + 3, he, _, run, flo =>
      have he : evBeside P call ext nt x.o x.b pr regs h nxt (fun regs' h' nxt' => evChain P call ext nt ops l kn pr regs' h' nxt') = true := he
      unfold evBeside at he
      split at he
      case h_2 => exact flo (by omega) hw he
      rename_i t xo yo hop
      obtain ⟨xv, hxv, he⟩ := (lin_opd regs xo).val he
      split at he <;> try (cases he; done)
      rename_i id off
      split at he <;> try (cases he; done)
      rename_i inf hinf0
      rcases bc_or he with ⟨hcl, he⟩ | ⟨_, he⟩
      case inr => exact flo (by omega) hw he
      obtain ⟨n, esz, c, c', k1, k2, k3, k4⟩ := store_at he (fun {k} => hxv k) hinf0
      classical
      refine run (by omega) hw (fun v h' nxt' => decide (v = .un ∧ h' = T.set (.cells n esz c') h id ∧ nxt' = nxt) && putK x.o.dst nt v regs fun regs' => evChain P call ext nt ops l kn pr regs' h' nxt') ?_ ?_
      · rw [hop]
        refine k2 _ ?_
        simp only [and_self, decide_true, Bool.true_and]
        exact k3
      · intro v h' nxt' hk
        rw [Bool.and_eq_true, decide_eq_true_iff] at hk
        obtain ⟨⟨rfl, rfl, rfl⟩, hk⟩ := hk
        refine ⟨hk, fun i I hi Ep gg _ sg _ cv => .inl fun j hj => ?_⟩
        have hle := sg j hj
        by_cases e : j = id
        · subst e
          rw [T.get_set_live _ _ _ _ (by rw [k1]; intro e; cases e)]
          rw [k1] at hle
          cases hpr : pr with
          | none => rw [hpr] at hcl; cases hcl
          | some lp =>
            rw [hpr] at hcl cv
            obtain ⟨n0, e0, c0, h0', h1'⟩ := cv j hj
            rw [h0'] at hle ⊢
            obtain ⟨n1, e1, c1, h2', h3', h4', h5'⟩ := hle
            cases h2'
            refine ⟨n, esz, c', rfl, h3', h4', fun q => ?_⟩
            by_cases hq : T.get .no c0 q = .no
            · exact .inl hq
            · right
              obtain ⟨p, hp, p1, p2, p3⟩ := h1' q hq
              have nb : ¬ x.b.testBit i = true := fun hb => hi.2 (hx.bef _ hb)
              have := clearOf_ok hcl hp p1
              rw [p3] at this
              have : p.2.1 + p.2.2.1 ≤ off ∨ off + inf.size ≤ p.2.1 := this.imp id (fun h => h.resolve_right nb)
              rw [k4 q (by omega)]
              rcases h5' q with h | h
              · exact absurd h hq
              · exact h
        · rw [T.get_set_ne _ _ _ _ _ e]; exact hle

/-- which operations may be taken ahead: 0, of no memory; 1, of memory as it is; 2, none -/
def kindOp (P : Program) (o : Oper) : Nat := match o.op with
  | .move _ | .assign _ | .pick .. | .build .. | .nilCheck _ | .unOp .. | .convert .. | .makeInterface .. | .makeFunc .. | .slice .. | .fieldAddr .. | .field .. | .indexAddr .. | .index .. | .typeAssert .. | .extract .. => 0
  | .load .. => 1
  | .binOp op t .. => (match op with
    | .eql | .neq => (match P.underlying t with
      | some (.pointer _) | some (.struct _) | some (.array ..) | some (.interface _) => 1
      | _ => 0)
    | _ => 0)
  | .call c => (match c.callee with
    | .builtin .len => 1
    | .builtin .min | .builtin .max => 0
    | _ => 2)
  | _ => 2

noncomputable def ordOf (P : Program) (ops : Array Oper) : List (Inf × Nat) := srch ops.size 0 0 (infs (kindOp P) ops.toList 0 [])

noncomputable def evDraw (P : Program) (ext : Exts) (call : CallF) : DrawF := fun ops nt kn regs h nxt =>
  bc (Nat.beq (List.length (ordOf P ops)) ops.size) (bc (Region.noSelect ops) (bc (good ops (2 ^ ops.size - 1) (ordOf P ops) 0 0) (evChain P call ext nt ops (ordOf P ops) kn (some []) regs h nxt) false) false) false

theorem evDraw_ok {P : Program} {ext : Exts} (hm : P.follows .mixedOrders = true) (hext : ExtOK P ext) (call : CallF) (hcall : CallOK P call) : DrawOK P (evDraw P ext call) := by
  intro id ops nt kn kx kr E regs h nxt a w he st
  obtain ⟨e1, he⟩ := bc_and he
  obtain ⟨e2, he⟩ := bc_and he
  obtain ⟨e3, he⟩ := bc_and he
  have e1 := Nat.eq_of_beq_eq_true e1
  refine wp_region_any hm ?_
  refine wpF.any (F := fun _ _ => False) ?_
  have hinf : ∀ p ∈ ordOf P ops, InfOK ops p.1 := fun p hp => infs_ok _ 0 [] (by simp) (by simp) p.1 (srch_mem _ _ _ _ p hp)
  have := evChain_ok (kx := kx) (kr := kr) (E0 := E) (h0 := h) (w0 := w) hcall hext e2 (ordOf P ops) 0 0 (some []) (Array.replicate ops.size false) (fun _ _ => False) E regs h nxt a { w with drawn := w.drawn + 1 } e3 hinf
    ⟨by simp, fun j => by by_cases hj : j < ops.size <;> simp [hj]⟩ (fun j i hj _ => by by_cases h : j < ops.size <;> simp [h] at hj) (fun _ _ hh => hh.elim) he
    ⟨st.regs, st.size, st.defers, st.heap.drew⟩ (Goes.drew _ _ _)
  rw [e1] at this
  exact this

/-- the evaluator of calls, whole -/
noncomputable def evaluate (P : Program) (ext : Exts) (lf n : Nat) : CallF := evCall P ext (evDraw P ext) lf n
theorem evaluate_ok {P : Program} {ext : Exts} (hm : P.follows .mixedOrders = true) (hext : ExtOK P ext) {lf n : Nat} : CallOK P (evaluate P ext lf n) :=
  evCall_ok hext (fun call hcall => evDraw_ok hm hext call hcall) n
end Go.Proofs.YtlhffgannkmpkaaGreat.Vx
