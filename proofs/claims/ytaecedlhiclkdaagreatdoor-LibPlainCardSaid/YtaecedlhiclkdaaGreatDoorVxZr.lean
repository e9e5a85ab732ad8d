/- As VxZq; cells are told otherwise where the facts of the way allow it, and registers may be known better at a round's beginning. No condition. -/
import Derived.Test.YtaecedlhiclkdaaGreatDoorVxZq
set_option linter.unusedVariables false
set_option linter.unusedSimpArgs false
set_option linter.constructorNameAsVariable false
namespace Go.Proofs.YtaecedlhiclkdaaGreatDoor.Vx
open Go
set_option maxRecDepth 100000

abbrev GWk := List (Facts × AV × AV)
def GWkOK (E : Env) (gw : GWk) : Prop := ∀ p ∈ gw, Told E p.1 ∧ (Holds E p.1 → ∀ V, Rv E p.2.1 V → Rv E p.2.2 V)
noncomputable def fltG (fs : Facts) (gw : GWk) : Wk := List.rec (motive := fun _ => Wk) [] (fun p _ ih => Bool.rec (motive := fun _ => Wk) ih (p.2 :: ih) (hasFs fs p.1)) gw
theorem fltG_ok {E : Env} {fs : Facts} (hf : Holds E fs) : ∀ {gw : GWk}, GWkOK E gw → WkOK E (fltG fs gw)
  | [], _ => wk_nil
  | p :: gw, ok => by
    have ih := fltG_ok hf (gw := gw) fun q hq => ok q (List.mem_cons_of_mem _ hq)
    obtain ⟨td, hv⟩ := ok p List.mem_cons_self
    have e : fltG fs (p :: gw) = Bool.rec (motive := fun _ => Wk) (fltG fs gw) (p.2 :: fltG fs gw) (hasFs fs p.1) := rfl
    rw [e]
    cases hh : hasFs fs p.1 with
    | false => exact ih
    | true =>
      intro q hq
      rcases List.mem_cons.1 hq with rfl | hq
      · exact hv (hasFs_ok hf td hh)
      · exact ih q hq
noncomputable def atAnyG (F m : Nat) (gw : GWk) (cans : Nat → Can) (needs : Nat → Facts) (l : List Nat) : S := fun regs h nxt => atAny F m (fltG (factsOf h) gw) cans needs l regs h nxt
/-- the loop: states go up, `K` is above them all -/
theorem loopG2_ok {P : Program} {calls : Nat → CallF} {ext : Exts} {draws : Nat → DrawF} (hcall : ∀ s, CallOK P (calls s)) (hext : ExtOK P ext) (hdraw : ∀ s, DrawOK P (draws s)) {nt : Nat} {E0 : Env} {h0 : Nat → Heap} {m F K : Nat} {w0 : World} {kr : S} {cl : Code}
    {cans : Nat → Can} {needs : Nat → Facts} {nexts : Nat → List Nat} {cans' : Nat → Can} {gws : Nat → GWk}
    (h1 : 1 ≤ F) (base : ∀ s E, E0.le E → Holds E (needs s) → HR E0 (h0 s) m w0 ∧ (∀ b, ¬ fp E0 (h0 s) b) ∧ flr (h0 s) = F) (hwk : ∀ s E, E0.le E → GWkOK E (gws s)) (htd : ∀ s, Told E0 (needs s)) (hcan : ∀ s E, E0.le E → Holds E (needs s) → (cans' s).R = (cans s).R ∧ (cans' s).N = (cans s).N ∧ ∀ t V, Rv E (T.get .no (regsOf (cans s).rs) t) V → Rv E (T.get .no (regsOf (cans' s).rs) t) V) (hn : loopsOf cl = [])
    (hup : ∀ s, s < K → ∀ t ∈ nexts s, s < t ∧ t < K)
    (hit : ∀ s, s < K → (∃ E, E0.le E ∧ Holds E (needs s)) → roundB P (calls s) ext (draws s) nt cl (h0 s) (cans' s) (atAnyG F m (gws s) cans needs (nexts s)) kr = true)
    (kn : S) (kx : Nat → S) {wk : Wk} (s : Nat) (hs : s < K) (E : Env) (regs : Regs) (h : Heap) (nxt : Nat) (a : Act) (w : World) (ok : WkOK E wk) (he : atG F m wk (cans s) (needs s) regs h nxt = true) (st : St [] E regs h nxt nt a w) (cm : Calm w0.heap.size w0 E h w) (hE : E0.le E) (hF : flr h = F) :
    (Code.loop cl).wp P (LeavesB w0.heap.size w0 E0 F nt kn kx kr) a w := by
  refine wp_loop_rounds (K + 1) ?_
  have key : ∀ (n s : Nat), s < K → K ≤ s + n → ∀ (wk : Wk) (E : Env) (regs : Regs) (h : Heap) (nxt : Nat) (a : Act) (w : World), WkOK E wk → atG F m wk (cans s) (needs s) regs h nxt = true → St [] E regs h nxt nt a w → Calm w0.heap.size w0 E h w → E0.le E → flr h = F →
      Code.rounds P cl (LeavesB w0.heap.size w0 E0 F nt kn kx kr) n a w := by
    intro n
    induction n with
    | zero => intro s hs hk; omega
    | succ n ih =>
      intro s hs hk wk E regs h nxt a w ok he st cm hE hF
      have need : Holds E (needs s) := by
        obtain ⟨_, e⟩ := bc_and he
        obtain ⟨_, e⟩ := bc_and e
        obtain ⟨_, e⟩ := bc_and e
        obtain ⟨_, e⟩ := bc_and e
        obtain ⟨_, e⟩ := bc_and e
        exact hasFs_ok (factsOf_ok st.heap) ((htd s).mono hE) e
      obtain ⟨st1, cm1, hF1⟩ := headG h1 ok ((htd s).mono hE) (base s E hE) he st cm hE hF
      obtain ⟨q1, q2, q3⟩ := hcan s E hE need
      rw [← q1, ← q2] at st1
      rw [← q1] at cm1 hF1
      have st1 : St [] E (regsOf (cans' s).rs) (rowsH (cans' s).R (h0 s)) (cans' s).N nt a w := ⟨fun t => q3 t _ (st1.regs t), st1.size, st1.defers, st1.heap⟩
      have hl := hit s hs ⟨E, hE, need⟩
      unfold roundB at hl
      rw [rowsK_eq] at hl
      rw [rounds_succ]
      refine wp_mono (evCodeJ_ok (hcall s) hext (hdraw s) cl (fun l hl => by rw [hn] at hl; cases hl) _ _ E _ _ _ a w hl st1 cm1 hE hF1) ?_
      intro e a' w' hh
      obtain ⟨E', regs', h', nxt', s1, s2, s3, s4, hk'⟩ := hh
      cases e with
      | normal =>
        obtain ⟨t, ht, hk'⟩ := atAny_ok hk'
        obtain ⟨u1, u2⟩ := hup s hs t ht
        exact ih t u2 (by omega) (fltG (factsOf h') (gws s)) E' regs' h' nxt' a' w' (fltG_ok (factsOf_ok s1.heap) (hwk s E' s3)) hk' s1 s2 s3 s4
      | exit i => cases hk'
      | ret => exact ⟨E', regs', h', nxt', s1, s2, s3, s4, hk'⟩
      | goto l => exact hk'.elim
      | panic l => exact hk'.elim
      | outgrown => exact hk'.elim
  exact key (K + 1) s hs (by omega) wk E regs h nxt a w ok he st cm hE hF

theorem lawG2 {P : Program} {call : CallF} {calls : Nat → CallF} {ext : Exts} {draw : DrawF} {draws : Nat → DrawF} (hcall0 : CallOK P call) (hdraw0 : DrawOK P draw) (hcall : ∀ s, CallOK P (calls s)) (hext : ExtOK P ext) (hdraw : ∀ s, DrawOK P (draws s)) {g : FuncId} {fn : Func} {c cl : Code} (hfn : P.funcs[g]? = some fn) (hb : fn.body = some c) (hc : loopsOf c = [cl]) (hn : loopsOf cl = [])
    {args : List AV} {ARGS : Array Value} {E0 : Env} {h0 : Heap} {h0s : Nat → Heap} {m F K : Nat} {w0 : World} {cans : Nat → Can} {needs : Nat → Facts} {starts : List Nat} {nexts : Nat → List Nat} {cans' : Nat → Can} {gws : Nat → GWk} (ra : RvL E0 args ARGS.toList) (hle : args.length ≤ fn.ntmps)
    (h1 : 1 ≤ F) (hr0 : HR E0 h0 m w0) (nf0 : ∀ k, ¬ fp E0 h0 k) (hF0 : flr h0 = F)
    (base : ∀ s E, E0.le E → Holds E (needs s) → HR E0 (h0s s) m w0 ∧ (∀ b, ¬ fp E0 (h0s s) b) ∧ flr (h0s s) = F) (hwk : ∀ s E, E0.le E → GWkOK E (gws s)) (htd : ∀ s, Told E0 (needs s)) (hcan : ∀ s E, E0.le E → Holds E (needs s) → (cans' s).R = (cans s).R ∧ (cans' s).N = (cans s).N ∧ ∀ t V, Rv E (T.get .no (regsOf (cans s).rs) t) V → Rv E (T.get .no (regsOf (cans' s).rs) t) V) (hst : ∀ s ∈ starts, s < K) (hup : ∀ s, s < K → ∀ t ∈ nexts s, s < t ∧ t < K)
    (hfirst : evCodeJ P call ext draw fn.ntmps (atAny F m [] cans needs starts) c (retT P fn) (fun _ => noK) (retT P fn) (wrLs args big 0) h0 m = true)
    (hit : ∀ s, s < K → (∃ E, E0.le E ∧ Holds E (needs s)) → roundB P (calls s) ext (draws s) fn.ntmps cl (h0s s) (cans' s) (atAnyG F m (gws s) cans needs (nexts s)) (retT P fn) = true) :
    Calls P g ARGS w0 fun e w' => e = .returned (.bool true) ∧ RowKit.Below w0.heap.size w0 w' := by
  have st := st_enter ra hle hr0
  have cm0 : Calm w0.heap.size w0 E0 h0 w0 := ⟨RowKit.Below.refl _ _, Nat.le_refl _, fun k _ => nf0 k⟩
  refine calls_of_wp hfn hb (wp_mono (evCodeJ_ok hcall0 hext hdraw0 (B := w0.heap.size) (w0 := w0) (E0 := E0) (F := F) (kr := retT P fn) c (fun l hl => ?_) _ _ E0 _ h0 m _ w0 hfirst st cm0 (Env.le_refl _) hF0) ?_)
  · rw [hc] at hl
    obtain rfl : l = cl := by simpa using hl
    intro kn kx E regs h nxt a w he st cm hE hF
    obtain ⟨s, hs, he⟩ := atAny_ok he
    exact loopG2_ok hcall hext hdraw h1 base hwk htd hcan hn hup hit kn kx s (hst s hs) E regs h nxt a w wk_nil he st cm hE hF
  · intro e a' w' hl
    obtain ⟨E', regs', h', nxt', st', cm', hE', hF', hk⟩ := hl
    have fin : retT P fn regs' h' nxt' = true → a'.defers = [] ∧ ∃ v, (results fn a'.tmps).run P w' = .ok v w' ∧ (Ending.returned v = .returned (.bool true) ∧ RowKit.Below w0.heap.size w0 w') := by
      intro hk
      obtain ⟨v, V, h1, h2, h3⟩ := evRes_ok hk st'
      obtain ⟨x, _, rfl, _, _, hx⟩ := condK_ok h3 h2 st'.heap
      rcases hx with ⟨rfl, _⟩ | ⟨_, hx⟩
      · exact ⟨st'.defers, _, h1, rfl, cm'.below⟩
      · cases hx
    cases e with
    | normal => exact fin hk
    | ret => exact fin hk
    | exit i => cases hk
    | goto l => exact hk.elim
    | panic l => exact hk.elim
    | outgrown => exact hk.elim

/-! ### Some values, by symbols of their own -/
noncomputable def addEs (E : Env) (n : Nat) : List Value → Env
  | [] => E
  | V :: Vs => addEs (addE E n V) (n + 1) Vs
theorem HR.adds {h : Heap} {w : World} (hs : 0 < w.heap.size) : ∀ {E : Env} {n : Nat} (Vs : List Value), HR E h n w → HR (addEs E n Vs) h (n + Vs.length) w ∧ Goes E h w (addEs E n Vs) h w
  | E, n, [], hr => ⟨hr, Goes.refl _ _ _⟩
  | E, n, V :: Vs, hr => by
    obtain ⟨h1, h2⟩ := HR.adds hs Vs (hr.add V hs)
    refine ⟨?_, (hr.goes_add V).trans h2⟩
    have e : n + (V :: Vs).length = n + 1 + Vs.length := by simp only [List.length_cons]; omega
    rw [e]; exact h1
theorem den_addEs {h : Heap} {w : World} (hs : 0 < w.heap.size) : ∀ {E : Env} {n : Nat} (Vs : List Value), HR E h n w → (∀ U ∈ Vs, symOK U) → ∀ j U, Vs[j]? = some U → den (addEs E n Vs) (.sy (n + j)) = some U
  | E, n, [], _, _, j, U, hj => by cases hj
  | E, n, V :: Vs, hr, ok, 0, U, hj => by
    cases hj
    have h2 := (HR.adds hs Vs (hr.add V hs)).2
    exact den_mono h2.ext _ _ (den_add (ok V List.mem_cons_self))
  | E, n, V :: Vs, hr, ok, j + 1, U, hj => by
    have := den_addEs hs Vs (hr.add V hs) (fun U hU => ok U (List.mem_cons_of_mem _ hU)) j U hj
    rw [show n + 1 + j = n + (j + 1) from by omega] at this
    exact this
/-- an answer: how many symbols, what is known of them, the answer -/
abbrev Alt := Nat × Facts × AV
noncomputable def gapK (k : K) (h : Heap) (n : Nat) (alts : List Alt) : Bool := List.rec (motive := fun _ => Bool) true (fun p _ ih => bc (setF (p.2.1 ++ factsOf h) h fun h1 => forceN (Nat.add n p.1) fun m => k p.2.2 h1 m) ih false) alts
theorem gapK_ok {k : K} {h : Heap} {n : Nat} : ∀ {alts : List Alt}, gapK k h n alts = true → ∀ p ∈ alts, setF (p.2.1 ++ factsOf h) h (fun h1 => k p.2.2 h1 (n + p.1)) = true
  | [], _, p, hp => by cases hp
  | q :: alts, he, p, hp => by
    have he : bc (setF (q.2.1 ++ factsOf h) h fun h1 => forceN (Nat.add n q.1) fun m => k q.2.2 h1 m) (gapK k h n alts) false = true := he
    obtain ⟨h1, h2⟩ := bc_and he
    simp only [forceN_eq] at h1
    rcases List.mem_cons.1 hp with rfl | hp
    · exact h1
    · exact gapK_ok h2 p hp
/-- a contract: one of several answers, each with symbols of its own -/
noncomputable def gapC (pre : List AV → Heap → Bool) (alts : Nat → List Alt) : Ct := fun args h n k => bc (pre args h) (gapK k h n (alts n)) false
/-- V is told by v, wherever its symbols stand for Vs -/
def Tells (n : Nat) (Vs : List Value) (fs : Facts) (v : AV) (V : Value) : Prop := (∀ U ∈ Vs, symOK U) ∧ ∀ E : Env, (∀ j U, Vs[j]? = some U → den E (.sy (n + j)) = some U) → Rv E v V ∧ Holds E fs
theorem holds_app {E : Env} {a b : Facts} (ha : Holds E a) (hb : Holds E b) : Holds E (a ++ b) := fun p hp => by
  rcases List.mem_append.1 hp with h | h
  · exact ha p h
  · exact hb p h
theorem gapC_ok {P : Program} {g : FuncId} {pre : List AV → Heap → Bool} {alts : Nat → List Alt}
    (H : ∀ (args : List AV) (ARGS : Array Value) (E : Env) (h : Heap) (n : Nat) (w : World), pre args h = true → RvL E args ARGS.toList → HR E h n w → 0 < w.heap.size ∧ Calls P g ARGS w fun e w' => (∃ V, e = .returned V ∧ ∀ n, ∃ p ∈ alts n, ∃ Vs, Vs.length = p.1 ∧ Tells n Vs p.2.1 p.2.2 V) ∧ RowKit.Below w.heap.size w w') : CtOK P g (gapC pre alts) := by
  intro args ARGS E h n w k he ra hr
  obtain ⟨h1, h2⟩ := bc_and he
  obtain ⟨hs, hc⟩ := H args ARGS E h n w h1 ra hr
  refine hc.mono ?_
  rintro e w' ⟨⟨V, rfl, hV⟩, hb⟩
  obtain ⟨p, hp, Vs, hl, ok, tl⟩ := hV n
  have hs' : 0 < w'.heap.size := by have := hb.size; omega
  have hr' := hr.below hb
  obtain ⟨a1, a2⟩ := HR.adds hs' Vs hr'
  obtain ⟨t1, t2⟩ := tl _ (den_addEs hs' Vs hr' ok)
  obtain ⟨h1', k1, k2, k3⟩ := setF_ok (gapK_ok h2 p hp) a1 (holds_app t2 (factsOf_ok a1))
  refine ⟨V, rfl, p.2.2, h1', n + Vs.length, addEs E n Vs, t1, k2, ((Goes.below hb).trans a2).trans k3.goes, ?_⟩
  rw [hl]
  exact k1

/-! ### A run over tables and what is given; what is seen at the end -/
theorem closedXG {P : Program} {call : CallF} (hc : CallOK P call) {gl : List (Nat × List AV)} {n0 : Nat} {Vs : List Value} {fs : Facts} {g : FuncId} {args : List AV} {ARGS : Array Value} {nn : Nat} {fin : AV → Heap → Bool}
    (hn : gl.all (fun p => Nat.ble (p.1 + 2) n0) = true) (h1 : Nat.ble 1 n0 = true) (hbig : gl.all (fun p => Nat.ble (p.1 + 1) 1000000) = true)
    (hnn : n0 + Vs.length = nn) (hf : Holds (symEV gl n0 Vs) fs) (ra : RvL (symEV gl n0 Vs) args ARGS.toList) (hp : ∀ v h, fin (.pk v) h = false)
    (he : setF fs (startH gl n0) (fun h => call g args h nn (fun v h _ => fin v h)) = true) (w : World) (hs : 0 < w.heap.size)
    (hw : ∀ p ∈ gl, ∃ arr el fr, w.heap[p.1]? = some (.cells arr el fr) ∧ RvL (symEV gl n0 Vs) p.2 (arr.toList.take p.2.length)) :
    Calls P g ARGS w fun e w' => (∃ V v h' E', e = .returned V ∧ Rv E' v V ∧ Holds E' (factsOf h') ∧ fin v h' = true) ∧ RowKit.Below w.heap.size w w' := by
  subst hnn
  have hr := symG_ok hn h1 hbig hw (List.length_map _) (fun L hL => by obtain ⟨V, _, rfl⟩ := List.mem_map.1 hL; exact spot_blk V) hs
  obtain ⟨h1', he, hr1, fk⟩ := setF_ok he hr hf
  have z := startH_zero gl n0
  have fl : flr (startH gl n0) = n0 := by unfold flr; rw [z]
  have nofp : ∀ k, ¬ fp (symEV gl n0 Vs) h1' k := by
    rintro k ⟨i, L, a1, a2, _, _⟩
    rw [fk.flr, fl] at a1
    rw [fk.live] at a2
    cases i with
    | zero => rw [z] at a2; cases a2
    | succ i =>
      rcases startH_get gl n0 i with h | ⟨p, hp, e, h⟩
      · rw [h] at a2; cases a2
      · have := Nat.le_of_ble_eq_true (List.all_eq_true.1 hn p hp); omega
  refine (hc g args ARGS _ _ _ w _ he ra hr1).mono ?_
  rintro e w' (⟨V, rfl, v, h', nxt', E', rv, hr', gs, hk⟩ | ⟨V, rfl, v, h', nxt', E', rv, _, gs, hk⟩)
  · exact ⟨⟨V, v, h', E', rfl, rv, factsOf_ok hr', hk⟩, below_of gs nofp⟩
  · have hk : fin (.pk v) h' = true := hk
    rw [hp] at hk; cases hk

/-! ### A table of twenty words -/
def TableIn (w : World) (G : Nat) : Prop := ∃ (arr : Array Value) (el : TypeId) (fr : Nat × Nat) (zs : List Int), w.heap[G]? = some (.cells arr el fr) ∧ arr.toList.take 20 = zs.map (Value.int .u64) ∧ zs.length = 20 ∧ ∀ z ∈ zs, 0 ≤ z ∧ z ≤ 18446744073709551615
noncomputable def hasTab (G : Nat) (h : Heap) : Bool := match T.get .gone h (Nat.succ G) with
  | .glob g n c => bc (bc (Nat.beq g G) (Nat.ble (Nat.succ G) 1000000) false) (bc (Nat.ble 20 n) (rdN c 20 0 fun l => tabE l fun _ => true) false) false
  | _ => false
theorem tableIn_of {E : Env} {h : Heap} {n : Nat} {w : World} {G : Nat} (he : hasTab G h = true) (hr : HR E h n w) : TableIn w G ∧ 0 < w.heap.size := by
  unfold hasTab at he
  split at he <;> try (cases he; done)
  rename_i g' m c hg
  obtain ⟨h1, he1⟩ := bc_and he
  obtain ⟨h1, h2⟩ := bc_and h1
  obtain ⟨h3, he2⟩ := bc_and he1
  have h1 := Nat.eq_of_beq_eq_true h1
  have h2 := Nat.le_of_ble_eq_true h2
  have h3 := Nat.le_of_ble_eq_true h3
  clear he he1
  subst h1
  rw [rdN_ok] at he2
  have ho := hr.obj (g' + 1)
  rw [hg] at ho
  obtain ⟨L, arr, el, fr, _, hLB, hb, hsz, hcs, _⟩ := ho
  obtain ⟨hL, hB⟩ := hLB (by omega)
  have hrow : RvL E ((List.range' 0 20).map fun j => T.get .no c j) ((List.range' 0 20).map fun j => arr.getD (L.base + j) undef) := RvL.of_range 20 0 fun j _ hj => hcs j (by omega)
  obtain ⟨es, zs, hvs, hz, ha, he3⟩ := tabE_ok _ he2 hrow
  have hlen : zs.length = 20 := by
    have := congrArg List.length hvs
    simpa using this.symm
  rw [hB] at hvs hsz
  rw [hL] at hb
  refine ⟨⟨arr, el, fr, zs, hb, ?_, hlen, hz⟩, by have := (Array.getElem?_eq_some_iff.1 hb).1; omega⟩
  rw [← hvs]
  apply List.ext_getElem?
  intro q
  rcases Nat.lt_or_ge q 20 with hq | hq
  · rw [List.getElem?_take_of_lt hq, List.getElem?_map, List.getElem?_range' hq]
    simp [show q < arr.size by omega]
  · rw [List.getElem?_eq_none (by simp; omega), List.getElem?_eq_none (by simp; omega)]

/-! ### A block that is given, of whatever place -/
noncomputable def addAt (E : Env) (i : Nat) (L : Spot) : Env := fun j => if j = i then some L else E j
theorem le_addAt {E : Env} {i : Nat} {L : Spot} (hn : E i = none) : E.le (addAt E i L) := fun j M hj => by
  unfold addAt
  by_cases e : j = i
  · rw [e, hn] at hj; cases hj
  · rw [if_neg e]; exact hj
theorem HR.addAt {E : Env} {h : Heap} {n : Nat} {w : World} (hr : HR E h n w) {i : Nat} {L : Spot} (hi : i < n) (hn : E i = none) (hd : (T.get .gone h i).live = false) (hb : L.blk < w.heap.size) : HR (addAt E i L) h n w := by
  have live : ∀ j, (T.get .gone h j).live = true → Vx.addAt E i L j = E j := fun j hj => by
    unfold Vx.addAt
    rw [if_neg]
    rintro rfl
    rw [hd] at hj; cases hj
  refine ⟨fun j => (hr.obj j).wide (le_addAt hn), fun a b L M ha hb hL hM e => ?_, hr.lt, fun j hj => ?_, fun j M hj => ?_, hr.pos, hr.flle, hr.zero⟩
  · rw [live a ha] at hL
    rw [live b hb] at hM
    exact hr.inj a b L M ha hb hL hM e
  · unfold Vx.addAt
    rw [if_neg (by omega)]
    exact hr.fresh j hj
  · unfold Vx.addAt at hj
    split at hj
    · cases hj; exact hb
    · exact hr.inw j M hj
theorem HR.setGlob {E : Env} {h : Heap} {n : Nat} {w : World} (hr : HR E h n w) {i g m : Nat} {c : T AV} {L : Spot} {arr : Array Value} {el : TypeId} {fr : Nat × Nat} (hg : 1000000 ≤ g) (h0 : i ≠ 0) (hi : i < flr h) (hE : E i = some L) (hb : w.heap[L.blk]? = some (.cells arr el fr)) (hsz : L.base + m ≤ arr.size)
    (hc : ∀ j, j < m → Rv E (T.get .no c j) (arr.getD (L.base + j) undef)) (hne : ∀ j M, j ≠ i → (T.get .gone h j).live = true → E j = some M → M.blk ≠ L.blk) (ht : TypB E i g L arr) :
    HR E (T.set (.glob g m c) h i) n w ∧ flr (T.set (.glob g m c) h i) = flr h := by
  have z : T.get .gone (T.set (.glob g m c) h i) 0 = T.get .gone h 0 := T.get_set_ne _ _ _ _ _ (Ne.symm h0)
  have fl : flr (T.set (.glob g m c) h i) = flr h := by unfold flr; rw [z]
  have hin : i < n := Nat.lt_of_lt_of_le hi hr.flle
  refine ⟨⟨fun j => ?_, fun a b L' M' ha hb' hL hM e => ?_, fun j hj => ?_, hr.fresh, hr.inw, hr.pos, by rw [fl]; exact hr.flle, by rw [z]; exact hr.zero⟩, fl⟩
  · by_cases e : j = i
    · subst e
      rcases T.get_set_eq AO.gone (.glob g m c) h j with q | q <;> rw [q]
      · exact ⟨L, arr, el, fr, hE, fun hlt => absurd hlt (by omega), hb, hsz, hc, ht⟩
      · trivial
    · rw [T.get_set_ne _ _ _ _ _ e]; exact hr.obj j
  · by_cases ea : a = i <;> by_cases eb : b = i
    · rw [ea, eb]
    · rw [T.get_set_ne _ _ _ _ _ eb] at hb'
      subst ea
      rw [hE] at hL; cases hL
      exact absurd e.symm (hne b M' eb hb' hM)
    · rw [T.get_set_ne _ _ _ _ _ ea] at ha
      subst eb
      rw [hE] at hM; cases hM
      exact absurd e (hne a L' ea ha hL)
    · rw [T.get_set_ne _ _ _ _ _ ea] at ha
      rw [T.get_set_ne _ _ _ _ _ eb] at hb'
      exact hr.inj a b L' M' ha hb' hL hM e
  · rw [T.get_set_ne _ _ _ _ _ (by omega)]; exact hr.lt j hj
theorem fp_setGlob {E : Env} {h : Heap} {i g m : Nat} {c : T AV} (h0 : i ≠ 0) (hi : i < flr h) {b : Nat} (hf : fp E (T.set (.glob g m c) h i) b) : fp E h b := by
  obtain ⟨j, L, a1, a2, a3, a4⟩ := hf
  have z : T.get .gone (T.set (.glob g m c) h i) 0 = T.get .gone h 0 := T.get_set_ne _ _ _ _ _ (Ne.symm h0)
  have fl : flr (T.set (.glob g m c) h i) = flr h := by unfold flr; rw [z]
  rw [fl] at a1
  rw [T.get_set_ne _ _ _ _ _ (by omega)] at a2
  exact ⟨j, L, a1, a2, a3, a4⟩
end Go.Proofs.YtaecedlhiclkdaaGreatDoor.Vx
