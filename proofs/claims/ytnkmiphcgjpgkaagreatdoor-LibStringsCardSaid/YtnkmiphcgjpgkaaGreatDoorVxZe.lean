/- Calls that are taken as expressions; a run's answer as an expression. No condition. -/
import Derived.Test.YtnkmiphcgjpgkaaGreatDoorVxZd
import Derived.Test.YtnkmiphcgjpgkaaGreatDoorVxDc
set_option linter.unusedVariables false
set_option linter.unusedSimpArgs false
set_option linter.constructorNameAsVariable false
namespace Go.Proofs.YtnkmiphcgjpgkaaGreatDoor.Vx
open Go

/-- is there a symbol in it? -/
noncomputable def hasSy (e : SE) : Bool := SE.rec (motive := fun _ => Bool) (fun _ => true) (fun _ => false) (fun _ _ => false) (fun _ => false) (fun _ _ => false)
  (fun _ ih => ih) (fun _ ih => ih) (fun _ _ ih => ih) (fun _ _ ih => ih) (fun _ _ ih => ih) (fun _ _ _ a b => bc a true b) (fun _ _ _ a b => bc a true b) (fun _ _ a b => bc a true b) e
theorem hasSy_ok {E : Env} : ∀ {e : SE} {V : Value}, hasSy e = true → den E e = some V → ∃ n L, E n = some L := by
  have two : ∀ {a b : SE} {U W : Value}, (∀ {V : Value}, hasSy a = true → den E a = some V → ∃ n L, E n = some L) → (∀ {V : Value}, hasSy b = true → den E b = some V → ∃ n L, E n = some L) →
      den E a = some U → den E b = some W → bc (hasSy a) true (hasSy b) = true → ∃ n L, E n = some L := by
    intro a b U W iha ihb ha hb h
    rcases bc_or h with ⟨h, _⟩ | ⟨_, h⟩
    · exact iha h ha
    · exact ihb h hb
  intro e
  induction e with
  | sy n =>
    intro V _ hV
    simp only [den] at hV
    cases hn : E n with
    | none => rw [hn] at hV; cases hV
    | some L => exact ⟨n, L, hn⟩
  | lb | li | lf | ls => intro V h; cases h
  | len e ih | not e ih | conv k e ih | rem m e ih | fn c e ih =>
    intro V h hV
    simp only [den] at hV
    cases he : den E e with
    | none => rw [he] at hV; cases hV
    | some W => exact ih h he
  | cmp op a b iha ihb | and a b iha ihb | fn2 c a b iha ihb =>
    intro V h hV
    simp only [den] at hV
    cases ha : den E a with
    | none => rw [ha] at hV; cases hV
    | some U =>
      cases hb : den E b with
      | none => rw [ha, hb] at hV; cases U <;> cases hV
      | some W => exact two iha ihb ha hb h
theorem HR.size_pos {E : Env} {h : Heap} {nxt : Nat} {w : World} (hr : HR E h nxt w) {e : SE} {V : Value} (hs : hasSy e = true) (hd : den E e = some V) : 0 < w.heap.size := by
  obtain ⟨n, L, hn⟩ := hasSy_ok hs hd
  have := hr.inw n L hn
  omega

/-- a contract: the answer is an expression over what is given, and nothing that was there turns -/
theorem ctExpr {P : Program} {g : FuncId} {C : Ct} (H : ∀ (args : List AV) (ARGS : Array Value) (E : Env) (h : Heap) (nxt : Nat) (w : World) (k : K), C args h nxt k = true → RvL E args ARGS.toList → HR E h nxt w →
    ∃ v h1 U, k v h1 nxt = true ∧ Rv E v U ∧ HR E h1 nxt w ∧ Fk h h1 ∧ Calls P g ARGS w fun e w' => e = .returned U ∧ RowKit.Below w.heap.size w w') : CtOK P g C := by
  intro args ARGS E h nxt w k he ra hr
  obtain ⟨v, h1, U, hk, rv, hr1, fk, hc⟩ := H args ARGS E h nxt w k he ra hr
  refine hc.mono ?_
  rintro e w' ⟨rfl, hb⟩
  exact ⟨U, rfl, v, h1, nxt, E, rv, hr1.below hb, fk.goes.trans (Goes.below hb), hk⟩

/-- of one: a function by its number -/
noncomputable def srtE (a b : Srt) : Bool := match a, b with
  | .b, .b => true
  | .i k, .i k' => Nat.beq (kc k) (kc k')
  | .f, .f => true
  | .s, .s => true
  | _, _ => false
theorem srtE_ok {a b : Srt} (h : srtE a b = true) : a = b := by
  cases a <;> cases b <;> first | rfl | (cases h; done) | (rw [kc_inj h])
noncomputable def symC1 (s0 s1 : Srt) (c : Nat) : Ct := fun args h nxt k => match args with
  | [.x s e] => bc (srtE s s0) (bc (hasSy e) (k (.x s1 (.fn c e)) h nxt) false) false
  | _ => false
theorem symC1_ok {P : Program} {g : FuncId} {s0 s1 : Srt} {c : Nat} (H : ∀ (V : Value) (w : World), hasS s0 V → 0 < w.heap.size → ∃ U, apf c V = some U ∧ hasS s1 U ∧ Calls P g #[V] w fun e w' => e = .returned U ∧ RowKit.Below w.heap.size w w') : CtOK P g (symC1 s0 s1 c) := by
  apply ctExpr
  intro args ARGS E h nxt w k he ra hr
  unfold symC1 at he
  split at he <;> try (cases he; done)
  rename_i s e
  obtain ⟨h1, he1⟩ := bc_and he
  obtain ⟨h2, he2⟩ := bc_and he1
  clear he he1
  obtain rfl := srtE_ok h1
  obtain ⟨V, hA, rx⟩ := ra.one
  have hA : ARGS = #[V] := by apply Array.ext'; simpa using hA
  subst hA
  rw [Rv] at rx
  obtain ⟨U, hU, hs, hc⟩ := H V w rx.2 (hr.size_pos h2 rx.1)
  refine ⟨_, h, U, he2, ?_, hr, Fk.refl h, hc⟩
  rw [Rv]
  exact ⟨by simp only [den, rx.1, hU], hs⟩

/-! ### A run's answer -/
noncomputable def finS (spec : SE) (v : AV) (h : Heap) : Bool := condK v h (fun h => d3 (decX (factsOf h) spec) false true false) (fun h => d3 (decX (factsOf h) spec) false false true)
theorem exprRun {P : Program} {call : CallF} (hc : CallOK P call) {Vs : List Value} {fs : Facts} {g : FuncId} {args : List AV} {ARGS : Array Value} {nn : Nat} {spec : SE} {b : Bool}
    (hnn : 1 + Vs.length = nn) (hf : Holds (symEV [] 1 Vs) fs) (ra : RvL (symEV [] 1 Vs) args ARGS.toList) (hd : den (symEV [] 1 Vs) spec = some (.bool b))
    (he : setF fs (startH [] 1) (fun h => call g args h nn (fun v h _ => finS spec v h)) = true) (w : World) (hs : 0 < w.heap.size) :
    Calls P g ARGS w fun e w' => e = .returned (.bool b) ∧ RowKit.Below w.heap.size w w' := by
  refine (closedX hc rfl rfl (List.length_map _) hnn (fun L hL => by obtain ⟨V, _, rfl⟩ := List.mem_map.1 hL; exact spot_blk V) hf ra (fun v h => rfl) he w hs (fun p hp => by cases hp)).mono ?_
  rintro e w' ⟨V, v, h', E', n', rfl, rv, hr', hle, hk, hb⟩
  obtain ⟨x, h1, rfl, hr1, _, hx⟩ := condK_ok hk rv hr'
  have hd' := den_mono hle _ _ hd
  have hdx := decX_ok (factsOf_ok hr1) hd'
  refine ⟨?_, hb⟩
  congr 2
  rcases hx with ⟨rfl, hx⟩ | ⟨rfl, hx⟩
  · match hdd : decX (factsOf h1) spec with
    | 0 => rw [hdd] at hx; cases hx
    | 1 => exact (hdx.1 hdd).symm
    | n + 2 => rw [hdd] at hx; cases hx
  · match hdd : decX (factsOf h1) spec with
    | 0 => rw [hdd] at hx; cases hx
    | 1 => rw [hdd] at hx; cases hx
    | n + 2 => exact (hdx.2 (by omega)).symm

/-- a whole number's answers (of a kind), as a literal -/
theorem closedLit {P : Program} {call : CallF} (hc : CallOK P call) {g : FuncId} {args : List AV} {ARGS : Array Value} {b : Bool} (ra : RvL (symEV [] 1 []) args ARGS.toList)
    (he : setF [] (startH [] 1) (fun h => call g args h 1 (fun v h _ => finS (.lb b) v h)) = true) (w : World) (hs : 0 < w.heap.size) :
    Calls P g ARGS w fun e w' => e = .returned (.bool b) ∧ RowKit.Below w.heap.size w w' :=
  exprRun hc (Vs := []) (nn := 1) (b := b) rfl (fun p hp => by cases hp) ra rfl he w hs

noncomputable def seOr (a b : SE) : SE := .not (.and (.not a) (.not b))
theorem den_or {E : Env} {a b : SE} {x y : Bool} (ha : den E a = some (.bool x)) (hb : den E b = some (.bool y)) : den E (seOr a b) = some (.bool (x || y)) := by
  unfold seOr; simp only [den, ha, hb]; cases x <;> cases y <;> rfl
theorem den_and {E : Env} {a b : SE} {x y : Bool} (ha : den E a = some (.bool x)) (hb : den E b = some (.bool y)) : den E (.and a b) = some (.bool (x && y)) := by simp only [den, ha, hb]

/-! ### The two noughts -/
theorem zero_word {x : Nat} (hx : x < 18446744073709551616) (h : feq x 0 = true) : x = 0 ∨ x = 9223372036854775808 := by
  unfold feq Ieee.Format.order at h
  have e2 : FloatKind.f64.format.read 0 = .number false 0 (-1074) := by kernel_rfl
  rw [e2] at h
  have hb : FloatKind.f64.format.binade = 2 ^ 52 := rfl
  have key : x % 2 ^ 63 = 0 := by
    cases hd : FloatKind.f64.format.read x with
    | nan s t => rw [hd] at h; cases h
    | infinity s => rw [hd] at h; cases s <;> cases h
    | number s m i =>
      rw [hd] at h
      have h : (some (compare (Ieee.signed s m (i - min i (-1074)).toNat) (Ieee.signed false 0 (-1074 - min i (-1074)).toNat)) == some Ordering.eq) = true := h
      have h : compare (Ieee.signed s m (i - min i (-1074)).toNat) (Ieee.signed false 0 (-1074 - min i (-1074)).toNat) = .eq := by simpa using h
      rw [icmp_eq] at h
      generalize (i - min i (-1074)).toNat = u at h
      generalize (-1074 - min i (-1074)).toNat = v at h
      have e0 : Ieee.signed false 0 v = 0 := by unfold Ieee.signed; simp
      rw [e0] at h
      have hm : m = 0 := by
        unfold Ieee.signed at h
        have h3 : m <<< u = 0 := by
          cases s
          · rw [if_neg (by simp)] at h; exact Int.natCast_eq_zero.1 h
          · rw [if_pos rfl] at h
            exact Int.natCast_eq_zero.1 (by omega)
        rw [Nat.shiftLeft_eq] at h3
        rcases Nat.mul_eq_zero.1 h3 with h3 | h3
        · exact h3
        · exact absurd h3 (Nat.ne_of_gt (Nat.two_pow_pos _))
      subst hm
      unfold Ieee.Format.read at hd
      rw [fsw, hb] at hd
      dsimp only at hd
      split at hd
      · injection hd
      · split at hd
        · injection hd with _ h4 _
          have : 0 < 2 ^ 52 := by decide
          omega
        · split at hd <;> cases hd
  omega
end Go.Proofs.YtnkmiphcgjpgkaaGreatDoor.Vx
