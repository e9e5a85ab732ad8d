/- Functions without a body, and a closed run as the row's step wants it. No condition. -/
import Derived.Test.YtbmekbpgoakkbaaGreatDoorVxR
import Derived.RowKit3
import Derived.Below
import Derived.ChangeSame
import Derived.Laws.FloatBits
import GoSem.Extern.Table
set_option linter.unusedVariables false
set_option linter.unusedSimpArgs false
set_option linter.constructorNameAsVariable false
set_option linter.unusedSectionVars false
namespace Go.Proofs.YtbmekbpgoakkbaaGreatDoor.Vx
open Go

theorem extern_run {P : Program} {g : FuncId} {fn : Func} {e : Array Value → Sem Value} (hfn : P.funcs[g]? = some fn) (hb : fn.body = none) (hn : (fn.name == "runtime.NumGoroutine") = false)
    (hx : Extern.findNext fn = none) (he : Extern.find fn = some e) (x : Value) (w : World) : (callFunc g #[x]).run P w = (do pure (.value (← e #[x])) : Sem Next).run P w := by
  unfold callFunc
  rw [Sem.run_bind, run_program]
  simp only [Result.andThen_ok, hfn, hn, hb, Option.isNone_none, if_true, hx, he]
  rfl

theorem extern_runs {P : Program} {g : FuncId} {fn : Func} {e : Array Value → Sem Value} (hfn : P.funcs[g]? = some fn) (hb : fn.body = none) (hn : (fn.name == "runtime.NumGoroutine") = false)
    (hx : Extern.findNext fn = none) (he : Extern.find fn = some e) (xs : Array Value) (w : World) : (callFunc g xs).run P w = (do pure (.value (← e xs)) : Sem Next).run P w := by
  unfold callFunc
  rw [Sem.run_bind, run_program]
  simp only [Result.andThen_ok, hfn, hn, hb, Option.isNone_none, if_true, hx, he]
  rfl

/-- what one function without a body does -/
def Ext1 (P : Program) (e : Array Value → Sem Value) (C : List AV → Heap → Nat → K → Bool) : Prop := ∀ (args : List AV) (ARGS : Array Value) (E : Env) (h : Heap) (nxt : Nat) (w : World) (k : K),
  C args h nxt k = true → RvL E args ARGS.toList → HR E h nxt w → ∃ V w', (e ARGS).run P w = .ok V w' ∧ Gives E h w k V w'

theorem Ext1.ok {P : Program} {g : FuncId} {fn : Func} {e : Array Value → Sem Value} {C : List AV → Heap → Nat → K → Bool} (c : Ext1 P e C) (hfn : P.funcs[g]? = some fn) (hb : fn.body = none) (hn : (fn.name == "runtime.NumGoroutine") = false)
    (hx : Extern.findNext fn = none) (he : Extern.find fn = some e) (args : List AV) (ARGS : Array Value) (E : Env) (h : Heap) (nxt : Nat) (w : World) (k : K)
    (hc : C args h nxt k = true) (ra : RvL E args ARGS.toList) (hr : HR E h nxt w) : ∃ V w', (callFunc g ARGS).run P w = .ok (.value V) w' ∧ Gives E h w k V w' := by
  obtain ⟨V, w', h1, h2⟩ := c args ARGS E h nxt w k hc ra hr
  exact ⟨V, w', by rw [extern_runs hfn hb hn hx he]; simp [h1], h2⟩

/-- of one scalar -/
noncomputable def ext1 (P : Program) (e : Array Value → Sem Value) : List AV → Heap → Nat → K → Bool := fun args h nxt k => match args with
  | [x] => pure1 P (fun X => e #[X]) x fun v => k v h nxt
  | _ => false
theorem ext1_ok (P : Program) (e : Array Value → Sem Value) : Ext1 P e (ext1 P e) := by
  intro args ARGS E h nxt w k hc ra hr
  unfold ext1 at hc
  split at hc <;> try (cases hc; done)
  obtain ⟨X, hX, rx⟩ := ra.one
  have hA : ARGS = #[X] := by apply Array.ext'; simpa using hX
  obtain ⟨v, W, h1, h2, h3⟩ := pure1_ok (w := w) hc rx
  exact ⟨W, w, by rw [hA]; exact h1, v, h, nxt, E, h2, hr, Goes.refl _ _ _, h3⟩

/-- of one float or its bits: expressions too -/
noncomputable def symExt (c : Nat) (s : Srt) (a : SE) (h : Heap) (k : AV → Bool) : Bool := match c, s with
  | 0, .f => k (.x (.i .u64) (.fn 0 a))
  | 1, .i .u64 => k (.x .f (.fn 1 a))
  | 2, .f => bc (Nat.beq (look (.cmp .eql a a) (factsOf h)) 1) (k (.x .f (.fn 2 a))) false
  | _, _ => false
noncomputable def extF (P : Program) (c : Nat) (e : Array Value → Sem Value) : List AV → Heap → Nat → K → Bool := fun args h nxt k => match args with
  | [.x s a] => symExt c s a h fun v => k v h nxt
  | args => ext1 P e args h nxt k
/-- what is to be shown of such a function -/
def ExtX (P : Program) (c : Nat) (e : Array Value → Sem Value) : Prop := ∀ {s : Srt} {a : SE} {E : Env} {h : Heap} {nxt : Nat} {w : World} {k : AV → Bool} {X : Value}, symExt c s a h k = true → Rv E (.x s a) X → HR E h nxt w →
  ∃ v V, (e #[X]).run P w = .ok V w ∧ Rv E v V ∧ k v = true
theorem extF_ok {P : Program} {c : Nat} {e : Array Value → Sem Value} (hx : ExtX P c e) : Ext1 P e (extF P c e) := by
  intro args ARGS E h nxt w k hc ra hr
  unfold extF at hc
  split at hc
  · obtain ⟨X, hX, rx⟩ := ra.one
    have hA : ARGS = #[X] := by apply Array.ext'; simpa using hX
    obtain ⟨v, V, h1, h2, h3⟩ := hx hc rx hr
    exact ⟨V, w, by rw [hA]; exact h1, v, h, nxt, E, h2, hr, Goes.refl _ _ _, h3⟩
  · exact ext1_ok P e _ _ _ _ _ _ _ hc ra hr
theorem extBits_ok (P : Program) : ExtX P 0 Extern.MathFloatBits.float64bits := by
  intro s a E h nxt w k X he rx hr
  cases s <;> simp only [symExt, Bool.false_eq_true] at he
  rw [Rv] at rx
  obtain ⟨hd, x, rfl, hlt⟩ := rx
  have e1 : IntKind.u64.min = 0 := rfl
  have e2 : IntKind.u64.max = 18446744073709551615 := rfl
  exact ⟨_, .int .u64 x, rfl, by rw [Rv]; exact ⟨by simp only [den, hd]; rfl, _, rfl, by omega, by omega⟩, he⟩
theorem extFrom_ok (P : Program) : ExtX P 1 Extern.MathFloatBits.float64frombits := by
  intro s a E h nxt w k X he rx hr
  cases s <;> simp only [symExt, Bool.false_eq_true] at he
  rename_i kk
  cases kk <;> simp only [Bool.false_eq_true] at he
  rw [Rv] at rx
  obtain ⟨hd, x, rfl, h1, h2⟩ := rx
  have e1 : IntKind.u64.min = 0 := rfl
  have e2 : IntKind.u64.max = 18446744073709551615 := rfl
  exact ⟨_, .float .f64 x.toNat, rfl, by rw [Rv]; exact ⟨by simp only [den, hd]; rfl, _, rfl, by omega⟩, he⟩
theorem extTrunc_ok (P : Program) : ExtX P 2 (Extern.MathFloor.toIntegral "math.archTrunc" .zero) := by
  intro s a E h nxt w k X he rx hr
  cases s <;> simp only [symExt, Bool.false_eq_true] at he
  obtain ⟨hl, he⟩ := bc_and he
  have hl := Nat.eq_of_beq_eq_true hl
  rw [Rv] at rx
  obtain ⟨hd, x, rfl, hlt⟩ := rx
  have hf := (look_ok (e := .cmp .eql a a) (factsOf_ok hr)).1 hl
  simp only [den, hd, cmpV, cmpF, Option.map_some, Option.some.injEq, Value.bool.injEq] at hf
  cases hdec : FloatKind.f64.decode x with
  | nan s t =>
    rw [order_nan0 (.inl ⟨s, t, hdec⟩)] at hf
    cases hf
  | _ =>
    refine ⟨_, .float .f64 (FloatKind.f64.encode ((FloatKind.f64.decode x).integral .zero)), ?_, ?_, he⟩
    · show ((match FloatKind.f64.decode x with
        | .nan s t => if FloatKind.f64.format.quiet t = t then pure (.float .f64 x) else do
          let kept ← choose (.extern "math.Floor,Ceil,Trunc,RoundToEven.signallingNaN kept" 2)
          pure (.float .f64 (if kept == 1 then x else FloatKind.f64.encode (.nan s (FloatKind.f64.format.quiet t))))
        | d => pure (.float .f64 (FloatKind.f64.encode (d.integral .zero))) : Sem Value)).run P w = _
      rw [hdec]; rfl
    · rw [Rv]
      refine ⟨by simp only [den, hd, apf, hdec], _, rfl, ?_⟩
      have := Ieee.Format.write_lt FloatKind.f64.format ((FloatKind.f64.decode x).integral .zero)
      exact this

/-- of two scalars -/
noncomputable def ext2 (P : Program) (e : Array Value → Sem Value) : List AV → Heap → Nat → K → Bool := fun args h nxt k => match args with
  | [x, y] => pure2 P (fun X Y => e #[X, Y]) x y fun v => k v h nxt
  | _ => false
theorem ext2_ok (P : Program) (e : Array Value → Sem Value) : Ext1 P e (ext2 P e) := by
  intro args ARGS E h nxt w k hc ra hr
  unfold ext2 at hc
  split at hc <;> try (cases hc; done)
  obtain ⟨X, Y, hX, rx, ry⟩ := ra.two
  have hA : ARGS = #[X, Y] := by apply Array.ext'; simpa using hX
  obtain ⟨v, W, h1, h2, h3⟩ := pure2_ok (w := w) hc rx ry
  exact ⟨W, w, by rw [hA]; exact h1, v, h, nxt, E, h2, hr, Goes.refl _ _ _, h3⟩

/-- the same again -/
noncomputable def extId : List AV → Heap → Nat → K → Bool := fun args h nxt k => match args with
  | [x] => k x h nxt
  | _ => false
theorem extId_ok (P : Program) : Ext1 P Extern.AbiNoEscape.same extId := by
  intro args ARGS E h nxt w k hc ra hr
  unfold extId at hc
  split at hc <;> try (cases hc; done)
  obtain ⟨X, hX, rx⟩ := ra.one
  have hA : ARGS = #[X] := by apply Array.ext'; simpa using hX
  exact ⟨X, w, by rw [hA]; rfl, _, h, nxt, E, rx, hr, Goes.refl _ _ _, hc⟩

theorem below_of {E E' : Env} {h h' : Heap} {w w' : World} (gs : Goes E h w E' h' w') (hf : ∀ k, ¬ fp E h k) : RowKit.Below w.heap.size w w' :=
  ⟨gs.os, gs.tape, gs.output, gs.size, fun k hk => gs.fr k hk (hf k)⟩

theorem digits_size : ∀ (n t : Nat) (acc : Array Value), (Extern.BytealgMakeNoZero.digits n t acc).size = acc.size + n
  | 0, _, _ => rfl
  | n + 1, t, acc => by
    rw [Extern.BytealgMakeNoZero.digits, digits_size n]; simp; omega

theorem extMakeNoZero_ok (P : Program) (ps rs : Array TypeId) : Ext1 P (Extern.BytealgMakeNoZero.makeNoZero ps rs) (extMakeNoZero P rs) := by
  intro args ARGS E h nxt w k hc ra hr
  unfold extMakeNoZero at hc
  split at hc <;> try (cases hc; done)
  rename_i z
  obtain ⟨X, hX, rx⟩ := ra.one
  have hA : ARGS = #[X] := by apply Array.ext'; simpa using hX
  rw [Rv] at rx; subst rx; subst hA
  obtain ⟨n, rfl, hc⟩ := natOf_ok hc
  split at hc <;> try (cases hc; done)
  rename_i t ht
  split at hc <;> try (cases hc; done)
  rename_i el hu
  obtain ⟨hn, hc⟩ := bc_and hc
  have hn := Nat.le_of_ble_eq_true hn
  rw [T.setK_eq, forceN_eq] at hc
  have h1 : ¬ (((n : Int) < 0) ∨ ((n : Int) > 2 ^ 48)) := by omega
  obtain ⟨cap, hcap, hrun⟩ : ∃ cap, n ≤ cap ∧ ∃ b, (Extern.BytealgMakeNoZero.makeNoZero ps rs #[.int .i64 (n : Int)]).run P w = .ok (.slice (some ⟨w.heap.size, 0, none⟩) n cap) { w with drawn := w.drawn + 1 + 1, heap := w.heap.push (.cells (Extern.BytealgMakeNoZero.digits cap b #[]) el (0, 0)) } := by
    refine ⟨(Question.appendCap n 0 el).cut (w.tape w.drawn (.appendCap n 0 el)), by simp only [Question.cut]; omega,
      (Question.extern "internal/bytealg.MakeNoZero.bytes" 0).cut (w.tape (w.drawn + 1) (.extern "internal/bytealg.MakeNoZero.bytes" 0)), ?_⟩
    have h2 : ¬ ((n : Int) < 0) := by omega
    have h3 : ¬ (2 ^ 48 < (n : Int)) := by omega
    have hdef : Extern.BytealgMakeNoZero.makeNoZero ps rs #[.int .i64 (n : Int)] = (do
        let some t := rs[0]? | stuck "bytealg.MakeNoZero: no result type"
        let .slice elem ← underlying t | stuck "bytealg.MakeNoZero: slice type expected"
        if (n : Int) < 0 || (n : Int) > 2 ^ 48 then runtimePanic (.error "makeslice: len out of range")
        let cap ← choose (.appendCap (n : Int).toNat 0 elem)
        askRoom cap
        let bytes ← choose (.extern "internal/bytealg.MakeNoZero.bytes" 0)
        let a ← newRow elem (Extern.BytealgMakeNoZero.digits cap bytes #[])
        pure (.slice (some a) (n : Int).toNat cap)) := rfl
    rw [hdef]
    have h4 : ¬ ((n : Int) < 0 ∨ 281474976710656 < (n : Int)) := by omega
    simp [ht, run_underlying' hu, Question.forced, newRow]
    rw [if_neg h4]
    rfl
  obtain ⟨b, hrun⟩ := hrun
  have hle := Env.le_set (hr.fresh nxt (Nat.le_refl _)) ⟨w.heap.size, 0, cap⟩
  obtain ⟨g1, g2⟩ := (hr.drew.drew).alloc (.cells (Extern.BytealgMakeNoZero.digits cap b #[]) el (0, 0)) (cold_cells _ _) ⟨w.heap.size, 0, cap⟩ rfl (.cells n ⟨1, some el, true⟩ ⟨1, bigR⟩)
    ⟨⟨w.heap.size, 0, cap⟩, Extern.BytealgMakeNoZero.digits cap b #[], el, by simp, by simp, by simp [digits_size]; omega, Esz.ok_row _ (by simp [digits_size]; omega), fun j hj => by rw [big_get]; simp [Rv]⟩
  refine ⟨_, _, hrun, _, _, _, _, ?_, g1, (Goes.drew _ _ _).trans ((Goes.drew _ _ _).trans g2), hc⟩
  rw [Rv]
  exact ⟨⟨w.heap.size, 0, cap⟩, by simp, by simp, by simpa using hcap⟩

/-- a closed run: what the evaluator answers, the program answers, and of what was there nothing turns -/
theorem closed {P : Program} {call : CallF} (hc : CallOK P call) {g : FuncId} {x : Bool} (he : call g [] (T.full .gone 20) 1 (fun v _ _ => match v with | .b y => (y == x) | _ => false) = true) (w : World) :
    Calls P g #[] w fun e w' => e = .returned (.bool x) ∧ RowKit.Below w.heap.size w w' := by
  have hr : HR (fun _ => none) (T.full .gone 20) 1 w := by
    have hg : ∀ i, T.get .gone (T.full AO.gone 20) i = .gone := fun i => T.get_full _ _ _
    refine ⟨fun i => by rw [hg]; trivial, fun i j L M hi => ?_, fun i _ => by rw [hg]; rfl, fun _ _ => rfl, fun i L h => (by cases h), Nat.le_refl _, ?_, by rw [hg]; rfl⟩
    · rw [hg] at hi; cases hi
    · unfold Vx.flr; rw [hg]; exact Nat.zero_le _
  refine (hc g [] #[] (fun _ => none) _ 1 w _ he RvL.nil hr trivial).mono ?_
  rintro e w' (⟨V, rfl, v, h', nxt', E', rv, _, gs, hk⟩ | ⟨V, rfl, v, h', nxt', E', rv, _, gs, hk⟩)
  case inr => cases hk
  simp only at hk
  split at hk
  case h_2 => cases hk
  rename_i y
  rw [Rv] at rv
  have : y = x := by simpa using hk
  subst this
  exact ⟨by rw [rv], below_of gs fun k => by
    rintro ⟨j, L, _, hl, _, _⟩
    rw [T.get_full] at hl; cases hl⟩

/-! ### Runs that read package variables -/
/-- the tables at their places, and a floor over them -/
noncomputable def startH (gl : List (Nat × List AV)) (n0 : Nat) : Heap :=
  T.set (.floor n0) (gl.foldr (fun p h => T.set (.glob p.1 p.2.length (wrLs p.2 big 0)) h (p.1 + 1)) (T.full .gone 20)) 0

theorem startH_get (gl : List (Nat × List AV)) (n0 i : Nat) : T.get .gone (startH gl n0) (i + 1) = .gone ∨ ∃ p ∈ gl, p.1 = i ∧ T.get .gone (startH gl n0) (i + 1) = .glob p.1 p.2.length (wrLs p.2 big 0) := by
  unfold startH
  rw [T.get_set_ne _ _ _ _ _ (by omega)]
  induction gl with
  | nil => left; exact T.get_full _ _ _
  | cons p gl ih =>
    rw [List.foldr_cons]
    by_cases e : i + 1 = p.1 + 1
    · have e' : p.1 = i := by omega
      rw [e]
      rcases T.get_set_eq AO.gone (.glob p.1 p.2.length (wrLs p.2 big 0)) (gl.foldr (fun p h => T.set (.glob p.1 p.2.length (wrLs p.2 big 0)) h (p.1 + 1)) (T.full .gone 20)) (p.1 + 1) with g | g
      · right; exact ⟨p, by simp, e', g⟩
      · left; exact g
    · rw [T.get_set_ne _ _ _ _ _ e]
      rcases ih with h | ⟨q, hq, h⟩
      · exact .inl h
      · exact .inr ⟨q, by simp [hq], h⟩

theorem set_ne_nil {x : AO} : ∀ (t : Heap) (i : Nat), t ≠ .nil → T.set x t i ≠ .nil
  | .nil, _, h => absurd rfl h
  | .node v l r, 0, _ => by intro e; cases e
  | .node v l r, i + 1, _ => by
    show Nat.rec (motive := fun _ => T AO) (.node v (T.set x l (i / 2)) r) (fun _ _ => .node v l (T.set x r (i / 2))) (i % 2) ≠ .nil
    rcases T.mod_two i with h | h <;> rw [h] <;> (intro e; cases e)

theorem startH_zero (gl : List (Nat × List AV)) (n0 : Nat) : T.get .gone (startH gl n0) 0 = .floor n0 := by
  unfold startH
  apply get_set0
  induction gl with
  | nil => intro e; cases e
  | cons p gl ih => exact set_ne_nil _ _ ih

/-- what a world holds of the tables -/
def HoldsG (w : World) (gl : List (Nat × List AV)) : Prop := ∀ p ∈ gl, ∃ arr el fr, w.heap[p.1]? = some (.cells arr el fr) ∧ ∀ E, RvL E p.2 (arr.toList.take p.2.length)

noncomputable def startE (gl : List (Nat × List AV)) : Env := fun i => if gl.any (fun p => Nat.beq (p.1 + 1) i) then some ⟨i - 1, 0, 0⟩ else none

theorem startE_some {gl : List (Nat × List AV)} {i : Nat} {L : Spot} (h : startE gl i = some L) : ∃ p ∈ gl, p.1 + 1 = i ∧ L = ⟨p.1, 0, 0⟩ := by
  unfold startE at h
  split at h
  · rename_i hh
    obtain ⟨p, hp, e⟩ := List.any_eq_true.1 hh
    have e := Nat.eq_of_beq_eq_true e
    refine ⟨p, hp, e, ?_⟩
    cases h
    subst e; rfl
  · cases h
theorem startE_of {gl : List (Nat × List AV)} {p : Nat × List AV} (hp : p ∈ gl) : startE gl (p.1 + 1) = some ⟨p.1, 0, 0⟩ := by
  unfold startE
  rw [if_pos (List.any_eq_true.2 ⟨p, hp, Nat.beq_refl _⟩)]
  rfl

theorem startH_ok {gl : List (Nat × List AV)} {n0 : Nat} {w : World} (hn : gl.all (fun p => Nat.ble (p.1 + 2) n0) = true) (h1 : Nat.ble 1 n0 = true) (hw : HoldsG w gl) : HR (startE gl) (startH gl n0) n0 w := by
  have hn : ∀ p ∈ gl, p.1 + 2 ≤ n0 := fun p hp => Nat.le_of_ble_eq_true (List.all_eq_true.1 hn p hp)
  have h1 := Nat.le_of_ble_eq_true h1
  have z := startH_zero gl n0
  have fl : flr (startH gl n0) = n0 := by unfold flr; rw [z]
  refine ⟨fun i => ?_, fun i j L M hi hj hL hM e => ?_, fun i hi => ?_, fun i hi => ?_, fun i L hL => ?_, h1, by rw [fl]; exact Nat.le_refl _, by rw [z]; rfl⟩
  · cases i with
    | zero => rw [z]; trivial
    | succ i =>
      rcases startH_get gl n0 i with h | ⟨p, hp, e, h⟩
      · rw [h]; trivial
      · rw [h]
        obtain ⟨arr, el, fr, k1, k2⟩ := hw p hp
        have hlen := (k2 (startE gl)).length
        refine ⟨⟨p.1, 0, 0⟩, arr, el, fr, by rw [← e]; exact startE_of hp, fun _ => ⟨rfl, rfl⟩, k1, by simp at hlen; simp; omega, (fun j hj => ?_), by rw [← e]; exact TypB.of_global⟩
        have := wrLs_new p.2 (arr.toList.take p.2.length) (k2 (startE gl)) j hj
        simpa [List.getElem?_take, hj] using this
  · obtain ⟨p, _, e1, rfl⟩ := startE_some hL
    obtain ⟨q, _, e2, rfl⟩ := startE_some hM
    have e : p.1 = q.1 := e
    omega
  · cases i with
    | zero => omega
    | succ i =>
      rcases startH_get gl n0 i with h | ⟨p, hp, e, h⟩
      · rw [h]; rfl
      · have := hn p hp; omega
  · cases hh : startE gl i with
    | none => rfl
    | some L =>
      obtain ⟨p, hp, e1, _⟩ := startE_some hh
      have := hn p hp; omega
  · obtain ⟨p, hp, _, rfl⟩ := startE_some hL
    obtain ⟨arr, el, fr, k1, _⟩ := hw p hp
    exact (Array.getElem?_eq_some_iff.1 k1).1

theorem startH_fp {gl : List (Nat × List AV)} {n0 : Nat} {w : World} (hr : HR (startE gl) (startH gl n0) n0 w) (k : Nat) : ¬ fp (startE gl) (startH gl n0) k := by
  rintro ⟨i, L, h1, h2, _, _⟩
  have fl : flr (startH gl n0) = n0 := by unfold flr; rw [startH_zero gl n0]
  rw [fl] at h1
  rw [hr.lt i h1] at h2; cases h2

/-- a closed run over package variables, of what is given -/
theorem closedA {P : Program} {call : CallF} (hc : CallOK P call) {gl : List (Nat × List AV)} {n0 : Nat} {g : FuncId} {args : List AV} {ARGS : Array Value} {x : Bool} (hn : gl.all (fun p => Nat.ble (p.1 + 2) n0) = true) (h1 : Nat.ble 1 n0 = true)
    (ra : ∀ E, RvL E args ARGS.toList) (he : call g args (startH gl n0) n0 (fun v _ _ => match v with | .b y => (y == x) | _ => false) = true) (w : World) (hw : HoldsG w gl) :
    Calls P g ARGS w fun e w' => e = .returned (.bool x) ∧ RowKit.Below w.heap.size w w' := by
  have hr := startH_ok hn h1 hw
  refine (hc g args ARGS _ _ n0 w _ he (ra _) hr trivial).mono ?_
  rintro e w' (⟨V, rfl, v, h', nxt', E', rv, _, gs, hk⟩ | ⟨V, rfl, v, h', nxt', E', rv, _, gs, hk⟩)
  case inr => cases hk
  simp only at hk
  split at hk
  case h_2 => cases hk
  rename_i y
  rw [Rv] at rv
  have : y = x := by simpa using hk
  subst this
  exact ⟨by rw [rv], below_of gs (startH_fp hr)⟩
/-- a closed run over package variables -/
theorem closedG {P : Program} {call : CallF} (hc : CallOK P call) {gl : List (Nat × List AV)} {n0 : Nat} {g : FuncId} {x : Bool} (hn : gl.all (fun p => Nat.ble (p.1 + 2) n0) = true) (h1 : Nat.ble 1 n0 = true)
    (he : call g [] (startH gl n0) n0 (fun v _ _ => match v with | .b y => (y == x) | _ => false) = true) (w : World) (hw : HoldsG w gl) :
    Calls P g #[] w fun e w' => e = .returned (.bool x) ∧ RowKit.Below w.heap.size w w' :=
  closedA hc hn h1 (fun _ => RvL.nil) he w hw
/-! ### The end of a law whose call makes memory and leaves what was there (the guide's lemma for it) -/
section
open Go.RowKit Go.WideShapes Go.ChangeShapes
variable {H : Type} {enc : TypeId × Value → H} {P : Program}
theorem post_below {f : Func} {s : ChangeSpec} {apart fresh handsOn again : Bool} {W W' : World} {args : Array Value} {v : Value} {ds gs : List (DataW H)} {before pa pv : List MemPlace}
    (hW : DataW.Whole enc P f.params.toList s.vars apart W args.toList ds gs before)
    (hres : ∀ (b : Nat) (sp : Nat → Bool) (hd : Bool), DataW.TrodAll enc P W' b sp hd f.resultTypes.toList (v.resultList f.resultTypes.size) (s.fn H (ds ++ gs)).results [])
    (hargs : ∀ sp : Nat → Bool, (∀ p ∈ before, sp p.block = true) → DataW.TrodAll enc P W' 0 sp true f.params.toList args.toList (s.fn H (ds ++ gs)).args pa)
    (hvars : ∀ sp : Nat → Bool, (∀ p ∈ before, sp p.block = true) → DataW.TrodVars enc P W' sp s.vars (s.fn H (ds ++ gs)).vars pv)
    (hps : before = pa ++ pv) (hb : Below W.heap.size W W')
    (hok : ∀ (j : Nat) (t : TypeId) (r : Value), f.resultTypes[j]? = some t → (v.resultList f.resultTypes.size)[j]? = some r → Value.okWide P W' .any 0 t r) :
    s.post enc P f apart fresh handsOn again W args v W' := by
  have hlt : ∀ p ∈ before, p.block < W.heap.size := fun p hp => hW.lt p hp
  have hold : ∀ p ∈ before, (fun b => decide (b < W.heap.size)) p.block = true := fun p hp => by simpa using hlt p hp
  refine ⟨ds, gs, before, [], pa, pv, hW, hres _ _ _, hargs _ hold, hvars _ hold, World.keptBut_mono (fun p hp => ⟨hp, ?_⟩) (hb.frame (· ∈ before)), fun _ => ?_⟩
  · rw [hps, List.mem_append] at hp
    exact Or.inr hp
  · obtain ⟨_, _, _, _, _, hz, hn⟩ := hW
    refine ⟨hok, _, _, ([] ++ pa) ++ pv, ⟨[] ++ pa, pv, trodAll_append (hargs _ (fun _ _ => rfl)) (hres _ _ _), hvars _ (fun _ _ => rfl), rfl, ?_, ?_⟩, ?_⟩
    · intro b off hp
      have hin : MemPlace.cell b off ∈ before := by rw [hps]; simpa using hp
      rw [hb.frozen (hlt _ hin)]
      exact hz b off hin
    · intro ha
      have := hn ha
      rw [hps] at this
      simpa using this
    · intro p hp _
      rw [hps]
      simpa using hp
end
end Go.Proofs.YtbmekbpgoakkbaaGreatDoor.Vx
