/- A function with one loop whose heads are a graph of states: at a head one of several that are told, what is known of given values is kept. No condition. -/
import Derived.Test.YtaecedlhiclkdaaGreatDoorVxZh
set_option linter.unusedVariables false
set_option linter.unusedSimpArgs false
set_option linter.constructorNameAsVariable false
namespace Go.Proofs.YtaecedlhiclkdaaGreatDoor.Vx
open Go
set_option maxRecDepth 100000

/-! ### A value told otherwise -/
abbrev Wk := List (AV × AV)
def WkOK (E : Env) (wk : Wk) : Prop := ∀ p ∈ wk, ∀ V, Rv E p.1 V → Rv E p.2 V
theorem wk_nil {E : Env} : WkOK E [] := fun _ h => by cases h
/-- the same; methods of a value of an interface, slices that are given -/
noncomputable def sameQ (a b : AV) : Bool := match a, b with
  | .fn (.method s) [.ifc t (.ag l)] [], .fn (.method s') [.ifc t' (.ag l')] [] => bc (s == s') (bc (Nat.beq t t') (sameSL l l') false) false
  | .sx i m e f, .sx i' m' e' f' => bc (Nat.beq i i') (bc (Nat.beq m m') (bc (seEq e e') (seEq f f') false) false) false
  | a, b => sameW a b
theorem sameQ_ok {a b : AV} (h : sameQ a b = true) : a = b := by
  unfold sameQ at h
  split at h
  · obtain ⟨h1, h⟩ := bc_and h
    obtain ⟨h2, h3⟩ := bc_and h
    rw [eq_of_beq h1, Nat.eq_of_beq_eq_true h2, sameSL_ok h3]
  · obtain ⟨h1, h⟩ := bc_and h
    obtain ⟨h2, h⟩ := bc_and h
    obtain ⟨h3, h4⟩ := bc_and h
    rw [Nat.eq_of_beq_eq_true h1, Nat.eq_of_beq_eq_true h2, seEq_ok h3, seEq_ok h4]
  · exact sameW_ok h
noncomputable def wkIn (wk : Wk) (a b : AV) : Bool := List.rec (motive := fun _ => Bool) false (fun p _ ih => bc (bc (sameQ a p.1) (sameQ b p.2) false) true ih) wk
theorem wkIn_ok {E : Env} {a b : AV} : ∀ {wk : Wk}, WkOK E wk → wkIn wk a b = true → ∀ V, Rv E a V → Rv E b V
  | [], _, h => by cases h
  | p :: wk, ok, h => by
    have h : bc (bc (sameQ a p.1) (sameQ b p.2) false) true (wkIn wk a b) = true := h
    rcases bc_or h with ⟨h1, _⟩ | ⟨_, h2⟩
    · obtain ⟨e1, e2⟩ := bc_and h1
      rw [sameQ_ok e1, sameQ_ok e2]
      exact ok p List.mem_cons_self
    · exact wkIn_ok (fun q hq => ok q (List.mem_cons_of_mem _ hq)) h2
noncomputable def wk1 (wk : Wk) (a b : AV) : Bool := bc (sameQ a b) true (wkIn wk a b)
theorem wk1_ok {E : Env} {wk : Wk} {a b : AV} (ok : WkOK E wk) (h : wk1 wk a b = true) : ∀ V, Rv E a V → Rv E b V := by
  rcases bc_or h with ⟨h1, _⟩ | ⟨_, h2⟩
  · rw [sameQ_ok h1]; exact fun _ r => r
  · exact wkIn_ok ok h2
noncomputable def wkL (f : AV → AV → Bool) (a : List AV) : List AV → Bool := List.rec (motive := fun _ => List AV → Bool) (fun b => List.rec (motive := fun _ => Bool) true (fun _ _ _ => false) b) (fun v _ ih b => List.rec (motive := fun _ => Bool) false (fun u us _ => bc (f v u) (ih us) false) b) a
theorem wkL_ok {E : Env} {f : AV → AV → Bool} (hf : ∀ a b, f a b = true → ∀ V, Rv E a V → Rv E b V) : ∀ {a b : List AV}, wkL f a b = true → ∀ Vs, RvL E a Vs → RvL E b Vs
  | [], [], _ => fun _ r => r
  | [], _ :: _, h => by cases h
  | _ :: _, [], h => by cases h
  | v :: a, u :: b, h => by
    have h : bc (f v u) (wkL f a b) false = true := h
    obtain ⟨h1, h2⟩ := bc_and h
    intro Vs r
    rw [RvL] at r ⊢
    obtain ⟨x, xs, e, r1, r2⟩ := r
    exact ⟨x, xs, e, hf v u h1 x r1, wkL_ok hf h2 xs r2⟩
noncomputable def wkAg (f : AV → AV → Bool) (a b : AV) : Bool := bc (f a b) true (match a, b with
  | .ag l, .ag l' => wkL f l l'
  | _, _ => false)
theorem wkAg_ok {E : Env} {f : AV → AV → Bool} (hf : ∀ a b, f a b = true → ∀ V, Rv E a V → Rv E b V) (a b : AV) (h : wkAg f a b = true) : ∀ V, Rv E a V → Rv E b V := by
  rcases bc_or h with ⟨h1, _⟩ | ⟨_, h2⟩
  · exact hf a b h1
  · split at h2
    · intro V r
      rw [Rv] at r ⊢
      obtain ⟨vs, e, r⟩ := r
      exact ⟨vs, e, wkL_ok hf h2 _ r⟩
    · cases h2
/-- three ags deep -/
noncomputable def wkX (wk : Wk) : AV → AV → Bool := wkAg (wkAg (wkAg (wk1 wk)))
theorem wkX_ok {E : Env} {wk : Wk} (ok : WkOK E wk) {a b : AV} (h : wkX wk a b = true) : ∀ V, Rv E a V → Rv E b V :=
  wkAg_ok (wkAg_ok (wkAg_ok (fun _ _ h => wk1_ok ok h))) a b h

/-! ### A head's state -/
noncomputable def wkP (wk : Wk) (h : Heap) (id : Nat) (o : ObjL) : Bool := match T.get .gone h id with
  | .cells n e c => bc (Nat.beq n o.n) (bc (eszEq e o.esz) (bc (Nat.beq o.l.length n) (rdC c n 0 fun l => wkL (wkX wk) l o.l) false) false) false
  | _ => false
theorem wkL_nth {f : AV → AV → Bool} : ∀ {a b : List AV}, wkL f a b = true → ∀ j, j < b.length → f (nthR a j) (nthR b j) = true
  | [], [], _, j, hj => by cases hj
  | [], _ :: _, h, _, _ => by cases h
  | _ :: _, [], h, _, _ => by cases h
  | v :: a, u :: b, h, j, hj => by
    have h : bc (f v u) (wkL f a b) false = true := h
    obtain ⟨h1, h2⟩ := bc_and h
    cases j with
    | zero => exact h1
    | succ j => exact wkL_nth h2 j (by simpa using hj)
theorem wkP_ok {E : Env} {wk : Wk} (ok : WkOK E wk) {h : Heap} {id : Nat} {o : ObjL} (he : wkP wk h id o = true) : ∃ c, T.get .gone h id = .cells o.n o.esz c ∧ o.l.length = o.n ∧ ∀ j, j < o.n → ∀ V, Rv E (c.get j) V → Rv E (nthR o.l j) V := by
  unfold wkP at he
  split at he <;> try (cases he; done)
  rename_i n e c hc
  obtain ⟨h1, he1⟩ := bc_and he
  obtain ⟨h2, he2⟩ := bc_and he1
  obtain ⟨h3, he3⟩ := bc_and he2
  rw [rdC_ok] at he3
  have h1 := Nat.eq_of_beq_eq_true h1
  have h3 := Nat.eq_of_beq_eq_true h3
  have h2 := eszEq_ok h2
  clear he he1 he2
  subst h1 h2
  refine ⟨c, hc, h3, fun j hj => ?_⟩
  have := wkX_ok ok (wkL_nth he3 j (by rw [h3]; exact hj))
  rw [nthR_eq] at this
  simpa [List.getD_eq_getElem?_getD, hj] using this
noncomputable def wkPs (wk : Wk) (h : Heap) (R : Rows) : Bool := List.rec (motive := fun _ => Bool) true (fun p _ ih => bc (Nat.ble 1 p.1) (bc (wkP wk h p.1 p.2) ih false) false) R
theorem wkPs_ok {wk : Wk} {h : Heap} : ∀ {R : Rows}, wkPs wk h R = true → ∀ p ∈ R, 1 ≤ p.1 ∧ wkP wk h p.1 p.2 = true
  | [], _, p, hp => by cases hp
  | q :: R, he, p, hp => by
    have he : bc (Nat.ble 1 q.1) (bc (wkP wk h q.1 q.2) (wkPs wk h R) false) false = true := he
    obtain ⟨h1, he⟩ := bc_and he
    obtain ⟨h2, he⟩ := bc_and he
    rcases List.mem_cons.1 hp with rfl | hp
    · exact ⟨Nat.le_of_ble_eq_true h1, h2⟩
    · exact wkPs_ok he p hp
noncomputable def wkRegs (wk : Wk) (rs : List (Nat × AV)) (regs : Regs) : Bool := List.rec (motive := fun _ => Bool) true (fun p _ ih => bc (wkX wk (T.get .no regs p.1) p.2) ih false) rs
theorem wkRegs_ok {wk : Wk} {regs : Regs} : ∀ {rs : List (Nat × AV)}, wkRegs wk rs regs = true → ∀ t v, (t, v) ∈ rs → wkX wk (T.get .no regs t) v = true
  | [], _, _, _, h => by cases h
  | p :: rs, he, t, v, h => by
    have he : bc (wkX wk (T.get .no regs p.1) p.2) (wkRegs wk rs regs) false = true := he
    obtain ⟨h1, he⟩ := bc_and he
    rcases List.mem_cons.1 h with e | h
    · cases e; exact h1
    · exact wkRegs_ok he t v h
/-- a fact told follows from what is known -/
noncomputable def hasF1 (fs : Facts) (p : SE × Bool) : Bool := bc p.2 (Nat.beq (decX fs p.1) 1) (Nat.ble 2 (decX fs p.1))
/-- all that is asked can be told -/
def Told (E : Env) (need : Facts) : Prop := ∀ p ∈ need, ∃ b, den E p.1 = some (.bool b)
theorem Told.mono {E E' : Env} (h : E.le E') {need : Facts} (t : Told E need) : Told E' need := fun p hp => by
  obtain ⟨b, hb⟩ := t p hp
  exact ⟨b, den_mono h _ _ hb⟩
theorem hasF1_ok {E : Env} {fs : Facts} (hf : Holds E fs) {p : SE × Bool} (hd : ∃ b, den E p.1 = some (.bool b)) (h : hasF1 fs p = true) : den E p.1 = some (.bool p.2) := by
  obtain ⟨b, hb⟩ := hd
  obtain ⟨d1, d2⟩ := decX_ok hf hb
  rcases bc_or h with ⟨h1, h2⟩ | ⟨h1, h2⟩
  · rw [hb, d1 (Nat.eq_of_beq_eq_true h2), h1]
  · rw [hb, d2 (Nat.le_of_ble_eq_true h2), h1]
noncomputable def hasFs (fs : Facts) (need : Facts) : Bool := List.rec (motive := fun _ => Bool) true (fun p _ ih => bc (hasF1 fs p) ih false) need
theorem hasFs_ok {E : Env} {fs : Facts} (hf : Holds E fs) : ∀ {need : Facts}, Told E need → hasFs fs need = true → Holds E need
  | [], _, _ => fun _ h => by cases h
  | p :: need, hd, h => by
    have h : bc (hasF1 fs p) (hasFs fs need) false = true := h
    obtain ⟨h1, h2⟩ := bc_and h
    intro q hq
    rcases List.mem_cons.1 hq with rfl | hq
    · exact hasF1_ok hf (hd q List.mem_cons_self) h1
    · exact hasFs_ok hf (fun r hr => hd r (List.mem_cons_of_mem _ hr)) h2 q hq

/-- at a head, in a state: `c`, where `need` is known -/
noncomputable def atG (F m : Nat) (wk : Wk) (c : Can) (need : Facts) : S := fun regs h nxt =>
  bc (wkRegs wk c.rs regs) (bc (Nat.ble nxt c.N) (bc (Nat.ble m c.N) (bc (okR F c.R) (bc (wkPs wk h c.R) (hasFs (factsOf h) need) false) false) false) false) false

theorem headG {E0 E : Env} {h0 h : Heap} {m F nxt : Nat} {w0 w : World} {regs : Regs} {nt : Nat} {a : Act} {c : Can} {wk : Wk} {need : Facts} (h1 : 1 ≤ F) (ok : WkOK E wk) (td : Told E need) (base : Holds E need → HR E0 h0 m w0 ∧ (∀ k, ¬ fp E0 h0 k) ∧ flr h0 = F)
    (he : atG F m wk c need regs h nxt = true) (st : St [] E regs h nxt nt a w) (cm : Calm w0.heap.size w0 E h w) (hE : E0.le E) (hF : flr h = F) :
    St [] E (regsOf c.rs) (rowsH c.R h0) c.N nt a w ∧ Calm w0.heap.size w0 E (rowsH c.R h0) w ∧ flr (rowsH c.R h0) = F := by
  obtain ⟨k1, he⟩ := bc_and he
  obtain ⟨k2, he⟩ := bc_and he
  obtain ⟨k3, he⟩ := bc_and he
  obtain ⟨k4, he⟩ := bc_and he
  obtain ⟨k5, k6⟩ := bc_and he
  have k1 := wkRegs_ok k1
  have k2 := Nat.le_of_ble_eq_true k2
  have k3 := Nat.le_of_ble_eq_true k3
  have k4 := okR_ok k4
  have hr := st.heap
  obtain ⟨hr0, nf0, hF0⟩ := base (hasFs_ok (factsOf_ok hr) td k6)
  have known : ∀ i L, (T.get .gone h0 i).live = true → E i = some L → E0 i = some L := fun i L hl hL => by
    obtain ⟨L0, hL0⟩ := ro_spot (hr0.obj i) hl
    have := hE i L0 hL0
    rw [hL] at this; cases this; exact hL0
  have row : ∀ i o, (i, o) ∈ c.R → (T.get .gone h i).live = true ∧ RO E w i (.cells o.n o.esz (wrCs o.l ⟨o.w, bigR⟩ 0)) := fun i o ho => by
    obtain ⟨_, hp⟩ := wkPs_ok k5 _ ho
    obtain ⟨cc, c1, c2, c3⟩ := wkP_ok ok hp
    have := hr.obj i
    dsimp only at c1
    rw [c1] at this
    refine ⟨by rw [c1]; rfl, ?_⟩
    obtain ⟨L, arr, el, a1, a2, a3, a4, a5⟩ := this
    refine ⟨L, arr, el, a1, a2, a3, a4, fun j hj => ?_⟩
    rcases wrCs_in (l := o.l) (c := ⟨o.w, bigR⟩) (off := 0) (i := j) (by have : o.l.length = o.n := c2; omega) with e2 | e2 <;> rw [Nat.zero_add] at e2 <;> rw [e2]
    · exact c3 j hj _ (a5 j hj)
    · simp [Rv]
  have parts : ∀ i, (T.get .gone (rowsH c.R h0) i).live = true → (inR i c.R = false ∧ (T.get .gone h0 i).live = true) ∨ (inR i c.R = true ∧ (T.get .gone h i).live = true) := fun i hi => by
    rcases rowsH_get2 c.R h0 i with ⟨e, g⟩ | ⟨e, g | ⟨o, ho, g⟩⟩
    · exact .inl ⟨e, by rw [g] at hi; exact hi⟩
    · rw [g] at hi; cases hi
    · exact .inr ⟨e, (row i o ho).1⟩
  have geF : ∀ i, inR i c.R = true → F ≤ i := fun i hi => by
    obtain ⟨o, ho⟩ := of_inR hi
    exact k4 i o ho
  have low : inR 0 c.R = false := by
    cases e : inR 0 c.R with
    | false => rfl
    | true => have := geF 0 e; omega
  have zero : T.get .gone (rowsH c.R h0) 0 = T.get .gone h0 0 := by
    rcases rowsH_get2 c.R h0 0 with ⟨_, g⟩ | ⟨e, _⟩
    · exact g
    · rw [low] at e; cases e
  have flr' : flr (rowsH c.R h0) = F := by unfold flr; rw [zero]; exact hF0
  have isfp : ∀ j M, inR j c.R = true → (T.get .gone h j).live = true → E j = some M → fp E h M.blk := fun j M h1 h2 h3 => ⟨j, M, by rw [hF]; exact geF j h1, h2, h3, rfl⟩
  have cross : ∀ i j L M, (T.get .gone h0 i).live = true → inR j c.R = true → (T.get .gone h j).live = true → E i = some L → E j = some M → L.blk ≠ M.blk := fun i j L M hi hj hl hL hM e => by
    have := hr0.inw i L (known i L hi hL)
    exact cm.nofp M.blk (by rw [← e]; exact this) (isfp j M hj hl hM)
  refine ⟨⟨fun t => ?_, st.size, st.defers, ?_⟩, ⟨cm.below, cm.size, fun k hk ⟨i, L, a1, a2, a3, a4⟩ => ?_⟩, flr'⟩
  · rcases regsOf_get c.rs t with g | ⟨v, hv, g⟩
    · rw [g]; simp [Rv]
    · rw [g]; exact wkX_ok ok (k1 t v hv) _ (st.regs t)
  · refine ⟨fun i => ?_, fun i j L M hi hj hL hM e => ?_, fun i hi => ?_, fun i hi => hr.fresh i (by omega), hr.inw, by have := hr.pos; omega, by rw [flr']; have := hr.flle; omega, by rw [zero]; exact hr0.zero⟩
    · rcases rowsH_get2 c.R h0 i with ⟨e, g⟩ | ⟨e, g | ⟨o, ho, g⟩⟩
      · rw [g]
        cases hl : (T.get .gone h0 i).live with
        | false => exact ro_dead hE (hr0.obj i) hl
        | true =>
          obtain ⟨L0, hL0⟩ := ro_spot (hr0.obj i) hl
          refine RO.wide hE (RO.same (fun M hM => ?_) (hr0.obj i))
          exact cm.below.block M.blk (hr0.inw i M hM)
      · rw [g]; trivial
      · rw [g]; exact (row i o ho).2
    · rcases parts i hi with ⟨i1, i2⟩ | ⟨i1, i2⟩ <;> rcases parts j hj with ⟨j1, j2⟩ | ⟨j1, j2⟩
      · exact hr0.inj i j L M i2 j2 (known i L i2 hL) (known j M j2 hM) e
      · exact absurd e (cross i j L M i2 j1 j2 hL hM)
      · exact absurd e.symm (cross j i M L j2 i1 i2 hM hL)
      · exact hr.inj i j L M i2 j2 hL hM e
    · cases hl : (T.get .gone (rowsH c.R h0) i).live with
      | false => rfl
      | true =>
        rcases parts i hl with ⟨_, i2⟩ | ⟨_, i2⟩
        · rw [hr0.lt i (by omega)] at i2; cases i2
        · rw [hr.lt i (by omega)] at i2; cases i2
  · rcases parts i a2 with ⟨i1, i2⟩ | ⟨i1, i2⟩
    · exact nf0 k ⟨i, L, by rw [hF0]; rw [flr'] at a1; exact a1, i2, known i L i2 a3, a4⟩
    · rw [← a4] at hk
      exact cm.nofp L.blk hk (isfp i L i1 i2 a3)

/-- one of the states that are told -/
noncomputable def atAny (F m : Nat) (wk : Wk) (cans : Nat → Can) (needs : Nat → Facts) (l : List Nat) : S := fun regs h nxt =>
  List.rec (motive := fun _ => Bool) false (fun s _ ih => bc (atG F m wk (cans s) (needs s) regs h nxt) true ih) l
theorem atAny_ok {F m : Nat} {wk : Wk} {cans : Nat → Can} {needs : Nat → Facts} {regs : Regs} {h : Heap} {nxt : Nat} : ∀ {l : List Nat}, atAny F m wk cans needs l regs h nxt = true → ∃ s ∈ l, atG F m wk (cans s) (needs s) regs h nxt = true
  | [], he => by cases he
  | s :: l, he => by
    have he : bc (atG F m wk (cans s) (needs s) regs h nxt) true (atAny F m wk cans needs l regs h nxt) = true := he
    rcases bc_or he with ⟨h1, _⟩ | ⟨_, h2⟩
    · exact ⟨s, List.mem_cons_self, h1⟩
    · obtain ⟨t, ht, hk⟩ := atAny_ok h2
      exact ⟨t, List.mem_cons_of_mem _ ht, hk⟩

/-- the loop: states go up, `K` is above them all -/
theorem loopG_ok {P : Program} {calls : Nat → CallF} {ext : Exts} {draws : Nat → DrawF} (hcall : ∀ s, CallOK P (calls s)) (hext : ExtOK P ext) (hdraw : ∀ s, DrawOK P (draws s)) {nt : Nat} {E0 : Env} {h0 : Nat → Heap} {m F K : Nat} {w0 : World} {kr : S} {cl : Code}
    {cans : Nat → Can} {needs : Nat → Facts} {nexts : Nat → List Nat} {wks : Nat → Wk}
    (h1 : 1 ≤ F) (base : ∀ s E, E0.le E → Holds E (needs s) → HR E0 (h0 s) m w0 ∧ (∀ b, ¬ fp E0 (h0 s) b) ∧ flr (h0 s) = F) (hwk : ∀ s E, E0.le E → WkOK E (wks s)) (htd : ∀ s, Told E0 (needs s)) (hn : loopsOf cl = [])
    (hup : ∀ s, s < K → ∀ t ∈ nexts s, s < t ∧ t < K)
    (hit : ∀ s, s < K → (∃ E, E0.le E ∧ Holds E (needs s)) → roundB P (calls s) ext (draws s) nt cl (h0 s) (cans s) (atAny F m (wks s) cans needs (nexts s)) kr = true)
    (kn : S) (kx : Nat → S) {wk : Wk} (s : Nat) (hs : s < K) (E : Env) (regs : Regs) (h : Heap) (nxt : Nat) (a : Act) (w : World) (ok : WkOK E wk) (he : atG F m wk (cans s) (needs s) regs h nxt = true) (st : St [] E regs h nxt nt a w) (cm : Calm w0.heap.size w0 E h w) (hE : E0.le E) (hF : flr h = F) :
    (Code.loop cl).wp P (LeavesB w0.heap.size w0 E0 F nt kn kx kr) a w := by
  refine wp_loop_rounds (K + 1) ?_
  have key : ∀ (n s : Nat), s < K → K ≤ s + n → ∀ (wk : Wk) (E : Env) (regs : Regs) (h : Heap) (nxt : Nat) (a : Act) (w : World), WkOK E wk → atG F m wk (cans s) (needs s) regs h nxt = true → St [] E regs h nxt nt a w → Calm w0.heap.size w0 E h w → E0.le E → flr h = F →
      Code.rounds P cl (LeavesB w0.heap.size w0 E0 F nt kn kx kr) n a w := by
    intro n
    induction n with
    | zero => intro s hs hk; omega
    | succ n ih =>
      intro s hs hk wk E regs h nxt a w ok he st cm hE hF
      have need : Holds E (needs s) := by
        obtain ⟨_, e⟩ := bc_and he
        obtain ⟨_, e⟩ := bc_and e
        obtain ⟨_, e⟩ := bc_and e
        obtain ⟨_, e⟩ := bc_and e
        obtain ⟨_, e⟩ := bc_and e
        exact hasFs_ok (factsOf_ok st.heap) ((htd s).mono hE) e
      obtain ⟨st1, cm1, hF1⟩ := headG h1 ok ((htd s).mono hE) (base s E hE) he st cm hE hF
      have hl := hit s hs ⟨E, hE, need⟩
      unfold roundB at hl
      rw [rowsK_eq] at hl
      rw [rounds_succ]
      refine wp_mono (evCodeJ_ok (hcall s) hext (hdraw s) cl (fun l hl => by rw [hn] at hl; cases hl) _ _ E _ _ _ a w hl st1 cm1 hE hF1) ?_
      intro e a' w' hh
      obtain ⟨E', regs', h', nxt', s1, s2, s3, s4, hk'⟩ := hh
      cases e with
      | normal =>
        obtain ⟨t, ht, hk'⟩ := atAny_ok hk'
        obtain ⟨u1, u2⟩ := hup s hs t ht
        exact ih t u2 (by omega) (wks s) E' regs' h' nxt' a' w' (hwk s E' s3) hk' s1 s2 s3 s4
      | exit i => cases hk'
      | ret => exact ⟨E', regs', h', nxt', s1, s2, s3, s4, hk'⟩
      | goto l => exact hk'.elim
      | panic l => exact hk'.elim
      | outgrown => exact hk'.elim
  exact key (K + 1) s hs (by omega) wk E regs h nxt a w ok he st cm hE hF

theorem lawG {P : Program} {call : CallF} {calls : Nat → CallF} {ext : Exts} {draw : DrawF} {draws : Nat → DrawF} (hcall0 : CallOK P call) (hdraw0 : DrawOK P draw) (hcall : ∀ s, CallOK P (calls s)) (hext : ExtOK P ext) (hdraw : ∀ s, DrawOK P (draws s)) {g : FuncId} {fn : Func} {c cl : Code} (hfn : P.funcs[g]? = some fn) (hb : fn.body = some c) (hc : loopsOf c = [cl]) (hn : loopsOf cl = [])
    {args : List AV} {ARGS : Array Value} {E0 : Env} {h0 : Heap} {h0s : Nat → Heap} {m F K : Nat} {w0 : World} {cans : Nat → Can} {needs : Nat → Facts} {starts : List Nat} {nexts : Nat → List Nat} {wks : Nat → Wk} (ra : RvL E0 args ARGS.toList) (hle : args.length ≤ fn.ntmps)
    (h1 : 1 ≤ F) (hr0 : HR E0 h0 m w0) (nf0 : ∀ k, ¬ fp E0 h0 k) (hF0 : flr h0 = F)
    (base : ∀ s E, E0.le E → Holds E (needs s) → HR E0 (h0s s) m w0 ∧ (∀ b, ¬ fp E0 (h0s s) b) ∧ flr (h0s s) = F) (hwk : ∀ s E, E0.le E → WkOK E (wks s)) (htd : ∀ s, Told E0 (needs s)) (hst : ∀ s ∈ starts, s < K) (hup : ∀ s, s < K → ∀ t ∈ nexts s, s < t ∧ t < K)
    (hfirst : evCodeJ P call ext draw fn.ntmps (atAny F m [] cans needs starts) c (retT P fn) (fun _ => noK) (retT P fn) (wrLs args big 0) h0 m = true)
    (hit : ∀ s, s < K → (∃ E, E0.le E ∧ Holds E (needs s)) → roundB P (calls s) ext (draws s) fn.ntmps cl (h0s s) (cans s) (atAny F m (wks s) cans needs (nexts s)) (retT P fn) = true) :
    Calls P g ARGS w0 fun e w' => e = .returned (.bool true) ∧ RowKit.Below w0.heap.size w0 w' := by
  have st := st_enter ra hle hr0
  have cm0 : Calm w0.heap.size w0 E0 h0 w0 := ⟨RowKit.Below.refl _ _, Nat.le_refl _, fun k _ => nf0 k⟩
  refine calls_of_wp hfn hb (wp_mono (evCodeJ_ok hcall0 hext hdraw0 (B := w0.heap.size) (w0 := w0) (E0 := E0) (F := F) (kr := retT P fn) c (fun l hl => ?_) _ _ E0 _ h0 m _ w0 hfirst st cm0 (Env.le_refl _) hF0) ?_)
  · rw [hc] at hl
    obtain rfl : l = cl := by simpa using hl
    intro kn kx E regs h nxt a w he st cm hE hF
    obtain ⟨s, hs, he⟩ := atAny_ok he
    exact loopG_ok hcall hext hdraw h1 base hwk htd hn hup hit kn kx s (hst s hs) E regs h nxt a w wk_nil he st cm hE hF
  · intro e a' w' hl
    obtain ⟨E', regs', h', nxt', st', cm', hE', hF', hk⟩ := hl
    have fin : retT P fn regs' h' nxt' = true → a'.defers = [] ∧ ∃ v, (results fn a'.tmps).run P w' = .ok v w' ∧ (Ending.returned v = .returned (.bool true) ∧ RowKit.Below w0.heap.size w0 w') := by
      intro hk
      obtain ⟨v, V, h1, h2, h3⟩ := evRes_ok hk st'
      obtain ⟨x, _, rfl, _, _, hx⟩ := condK_ok h3 h2 st'.heap
      rcases hx with ⟨rfl, _⟩ | ⟨_, hx⟩
      · exact ⟨st'.defers, _, h1, rfl, cm'.below⟩
      · cases hx
    cases e with
    | normal => exact fin hk
    | ret => exact fin hk
    | exit i => cases hk
    | goto l => exact hk.elim
    | panic l => exact hk.elim
    | outgrown => exact hk.elim
end Go.Proofs.YtaecedlhiclkdaaGreatDoor.Vx
