/- More operations of the evaluator: operators, conversions, type assertions, append, len and their kin. No condition. -/
import Derived.Test.YtbmekbpgoakkbaaGreatDoorVxE
set_option linter.unusedVariables false
set_option linter.unusedSimpArgs false
set_option linter.constructorNameAsVariable false
set_option linter.unusedSectionVars false
namespace Go.Proofs.YtbmekbpgoakkbaaGreatDoor.Vx
open Go

section
variable {E : Env} {h : Heap} {nxt : Nat} {w : World}

/-! #### a draw -/
theorem HR.drew (hr : HR E h nxt w) : HR E h nxt { w with drawn := w.drawn + 1 } := by
  refine ⟨fun i => ?_, hr.inj, hr.lt, hr.fresh, hr.inw, hr.pos, hr.flle, hr.zero⟩
  have := hr.obj i
  cases ho : T.get AO.gone h i <;> rw [ho] at this <;> exact this
theorem Goes.drew (E : Env) (h : Heap) (w : World) : Goes E h w E h { w with drawn := w.drawn + 1 } :=
  ⟨Env.le_refl _, Nat.le_refl _, fun _ _ _ => rfl, fun _ _ h => h, rfl, fun _ _ => rfl, rfl, rfl, rfl⟩

theorem nan_cut (a b t : Nat) : isNaN64 ((Question.nanBits .f64 a b).cut t) := by
  have e1 : FloatKind.f64.decode = Ieee.Format.read Ieee.double := rfl
  unfold isNaN64 isNaN0
  rw [e1]
  show (∃ s m, Ieee.Format.read Ieee.double ((t % 2) * 2 ^ 63 + 0x7ff0000000000000 + 1 + (t / 2) % (2 ^ 52 - 1)) = .nan s m) ∧ (t % 2) * 2 ^ 63 + 0x7ff0000000000000 + 1 + (t / 2) % (2 ^ 52 - 1) < 18446744073709551616
  have h1 : t % 2 < 2 := Nat.mod_lt _ (by omega)
  have h2 : (t / 2) % (2 ^ 52 - 1) < 2 ^ 52 - 1 := Nat.mod_lt _ (by omega)
  generalize (t / 2) % (2 ^ 52 - 1) = r at *
  generalize t % 2 = q at *
  refine ⟨?_, by omega⟩
  have hw : Ieee.double.signWeight = 2 ^ 63 := rfl
  have hb : Ieee.double.binade = 2 ^ 52 := rfl
  have hi : Ieee.double.infRung = 0x7ff0000000000000 := rfl
  unfold Ieee.Format.read
  rw [hw, hb, hi]
  have e : (q * 2 ^ 63 + 0x7ff0000000000000 + 1 + r) % 2 ^ 63 = 0x7ff0000000000000 + 1 + r := by omega
  simp only [e]
  rw [if_neg (by omega), if_neg (by omega), if_neg (by omega)]
  exact ⟨_, _, rfl⟩

/-! #### operators -/
noncomputable def evStrBin (op : BinOp) (a x b y : Nat) (k : AV → Bool) : Bool := match op with
  | .add => bc (Nat.ble (a + b) 1073741824) (forceN (Nat.add a b) fun n => forceN (Nat.add (Nat.mod x (Nat.pow 256 a)) (Nat.mul y (Nat.pow 256 a))) fun m => k (.s n m)) false
  | .eql => forceB (strEq a x b y) fun r => k (.b r)
  | .neq => bc (strEq a x b y) (k (.b false)) (k (.b true))
  | .lss => forceB (strLt a x b y) fun r => k (.b r)
  | .leq => bc (strLt a x b y) (k (.b true)) (forceB (strEq a x b y) fun r => k (.b r))
  | .gtr => bc (strLt a x b y) (k (.b false)) (bc (strEq a x b y) (k (.b false)) (k (.b true)))
  | .geq => bc (strLt a x b y) (k (.b false)) (k (.b true))
  | _ => false

theorem str_append (a x b y : Nat) : str a x ++ str b y = str (a + b) (x % 256 ^ a + y * 256 ^ a) := by
  have : (str a x ++ str b y).data.toList = (str (a + b) (x % 256 ^ a + y * 256 ^ a)).data.toList := by
    rw [ByteArray.data_append, Array.toList_append, str_toList, str_toList, str_toList, unpack_append]
  have h := Array.ext' this
  cases hx : str a x ++ str b y
  rw [hx] at h
  simp only at h
  rw [h]

theorem evStrBin_ok {P : Program} {op : BinOp} {a x b y : Nat} {k : AV → Bool} (he : evStrBin op a x b y k = true) :
    ∃ v W, (Op.stringOp op (str a x) (str b y)).run P w = .ok W w ∧ Rv E v W ∧ k v = true := by
  have hlt : Op.bytesLess (str a x).toList (str b y).toList = strLt a x b y := by
    rw [ByteArray.toList_eq, ByteArray.toList_eq, str_toList, str_toList, strLt_ok]
  have heq : ((str a x).toList == (str b y).toList) = strEq a x b y := (strEq_ok a x b y).symm
  unfold evStrBin at he
  unfold Op.stringOp
  split at he
  · obtain ⟨h1, he⟩ := bc_and he
    rw [forceN_eq, forceN_eq] at he
    have h1 := Nat.le_of_ble_eq_true h1
    refine ⟨_, .string (str (a + b) (x % 256 ^ a + y * 256 ^ a)), ?_, by rw [Rv]; rfl, he⟩
    have hm : ¬ (((str a x).size + (str b y).size : Nat) : Int) > IntKind.i64.max := by
      rw [str_size, str_size]
      have : IntKind.i64.max = 9223372036854775807 := rfl
      rw [this]; omega
    simp only [hm, if_false, Sem.run_pure, str_append]
  · rw [forceB_eq] at he
    exact ⟨_, .bool (strEq a x b y), by simp only [heq, Sem.run_pure], by rw [Rv], he⟩
  · rcases bc_or he with ⟨h1, he⟩ | ⟨h1, he⟩
    · exact ⟨_, .bool false, by simp only [heq, h1, Sem.run_pure, Bool.not_true], by rw [Rv], he⟩
    · exact ⟨_, .bool true, by simp only [heq, h1, Sem.run_pure, Bool.not_false], by rw [Rv], he⟩
  · rw [forceB_eq] at he
    exact ⟨_, .bool (strLt a x b y), by simp only [hlt, Sem.run_pure], by rw [Rv], he⟩
  · rcases bc_or he with ⟨h1, he⟩ | ⟨h1, he⟩
    · exact ⟨_, .bool true, by simp only [hlt, h1, Sem.run_pure, Bool.true_or], by rw [Rv], he⟩
    · rw [forceB_eq] at he
      exact ⟨_, .bool (strEq a x b y), by simp only [hlt, heq, h1, Sem.run_pure, Bool.false_or], by rw [Rv], he⟩
  · rcases bc_or he with ⟨h1, he⟩ | ⟨h1, he⟩
    · exact ⟨_, .bool false, by simp only [hlt, h1, Sem.run_pure, Bool.true_or, Bool.not_true], by rw [Rv], he⟩
    · rcases bc_or he with ⟨h2, he⟩ | ⟨h2, he⟩
      · exact ⟨_, .bool false, by simp only [hlt, heq, h1, h2, Sem.run_pure, Bool.or_true, Bool.not_true], by rw [Rv], he⟩
      · exact ⟨_, .bool true, by simp only [hlt, heq, h1, h2, Sem.run_pure, Bool.or_false, Bool.not_false], by rw [Rv], he⟩
  · rcases bc_or he with ⟨h1, he⟩ | ⟨h1, he⟩
    · exact ⟨_, .bool false, by simp only [hlt, h1, Sem.run_pure, Bool.not_true], by rw [Rv], he⟩
    · exact ⟨_, .bool true, by simp only [hlt, h1, Sem.run_pure, Bool.not_false], by rw [Rv], he⟩
  · cases he

/-- a float's arithmetic of which a NaN comes -/
noncomputable def evFloat (op : BinOp) (a b : Nat) (k : AV → Bool) : Bool := match op with
  | .add => (match FloatKind.f64.format.add a b with | none => k .nan | some r => forceN r fun r => k (.f .f64 r))
  | .sub => (match FloatKind.f64.format.sub a b with | none => k .nan | some r => forceN r fun r => k (.f .f64 r))
  | .mul => (match FloatKind.f64.format.mul a b with | none => k .nan | some r => forceN r fun r => k (.f .f64 r))
  | .quo => (match FloatKind.f64.format.div a b with | none => k .nan | some r => forceN r fun r => k (.f .f64 r))
  | _ => false

theorem evFloat_ok {P : Program} {op : BinOp} {a b : Nat} {k : AV → Bool} (he : evFloat op a b k = true) :
    ∃ v W w', (Op.floatArith op .f64 a b).run P w = .ok W w' ∧ (w' = w ∨ (v = .nan ∧ w' = { w with drawn := w.drawn + 1 })) ∧ Rv E v W ∧ k v = true := by
  have key : ∀ (o : Option Nat), (match o with | none => k .nan | some r => forceN r fun r => k (.f .f64 r)) = true →
      ∃ v W w', (match o with | some r => pure (.float .f64 r) | none => do pure (.float .f64 (← choose (.nanBits .f64 a b))) : Sem Value).run P w = .ok W w' ∧ (w' = w ∨ (v = .nan ∧ w' = { w with drawn := w.drawn + 1 })) ∧ Rv E v W ∧ k v = true := by
    intro o ho
    cases o with
    | some r =>
      have ho : forceN r (fun r => k (.f .f64 r)) = true := ho
      rw [forceN_eq] at ho; exact ⟨_, .float .f64 r, w, rfl, .inl rfl, by rw [Rv], ho⟩
    | none =>
      refine ⟨.nan, .float .f64 ((Question.nanBits .f64 a b).cut (w.tape w.drawn (.nanBits .f64 a b))), _, ?_, .inr ⟨rfl, rfl⟩, ?_, ho⟩
      · simp [Question.forced]
      · rw [Rv]; exact ⟨_, rfl, nan_cut _ _ _⟩
  unfold evFloat at he
  unfold Op.floatArith
  split at he
  · exact key _ he
  · exact key _ he
  · exact key _ he
  · exact key _ he
  · cases he

noncomputable def nanCmp (op : BinOp) (k : AV → Bool) : Bool := match op with
  | .neq => k (.b true)
  | .eql | .lss | .leq | .gtr | .geq => k (.b false)
  | _ => false

theorem order_nan0 {a b : Nat} (hh : isNaN0 a ∨ isNaN0 b) : FloatKind.f64.format.order a b = none := by
  unfold Ieee.Format.order
  rcases hh with ⟨s, m, e⟩ | ⟨s, m, e⟩
  · have : FloatKind.f64.format.read a = .nan s m := e
    rw [this]; cases FloatKind.f64.format.read b <;> rfl
  · have : FloatKind.f64.format.read b = .nan s m := e
    rw [this]; cases FloatKind.f64.format.read a <;> rfl

theorem order_nan {a b : Nat} (hh : isNaN64 a ∨ isNaN64 b) : FloatKind.f64.format.order a b = none := order_nan0 (hh.imp And.left And.left)
theorem nanCmp_ok {P : Program} {op : BinOp} {t : TypeId} {a b : Nat} {k : AV → Bool} (he : nanCmp op k = true) (hh : isNaN64 a ∨ isNaN64 b) :
    ∃ v W, (binOp op t (.float .f64 a) (.float .f64 b)).run P w = .ok W w ∧ Rv E v W ∧ k v = true := by
  have hn := order_nan hh
  unfold nanCmp at he
  split at he
  · exact ⟨_, .bool true, by simp [binOp, Op.floatCmp, hn], by rw [Rv], he⟩
  · exact ⟨_, .bool false, by simp [binOp, Op.floatCmp, hn], by rw [Rv], he⟩
  · exact ⟨_, .bool false, by simp [binOp, Op.floatCmp, hn], by rw [Rv], he⟩
  · exact ⟨_, .bool false, by simp [binOp, Op.floatCmp, hn], by rw [Rv], he⟩
  · exact ⟨_, .bool false, by simp [binOp, Op.floatCmp, hn], by rw [Rv], he⟩
  · exact ⟨_, .bool false, by simp [binOp, Op.floatCmp, hn], by rw [Rv], he⟩
  · cases he

def isConst' : Operand → Bool
  | .const _ => true
  | _ => false

/-- operands that are neither numbers nor strings: held against each other -/
noncomputable def evEqOnly (P : Program) (op : BinOp) (t : TypeId) (h : Heap) (x y : AV) (k : AV → Bool) : Bool := match op with
  | .eql => aeqK P h 10000 t x y fun r => (match r with | .lb r => k (.b r) | e => k (.x .b e))
  | .neq => aeqK P h 10000 t x y fun r => (match r with | .lb r => bc r (k (.b false)) (k (.b true)) | e => k (.x .b (.not e)))
  | _ => false

noncomputable def evFF (P : Program) (op : BinOp) (t : TypeId) (a b : Nat) (k : AV → Bool) : Bool := match op with
  | .add | .sub | .mul | .quo => evFloat op a b k
  | _ => pure2 P (binOp op t) (.f .f64 a) (.f .f64 b) k

/-- the remainder by a number -/
noncomputable def symRem (op : BinOp) (x y : AV) (h : Heap) (k : AV → Bool) : Bool := match op, x, y with
  | .andNot, .x (.i .u64) e, .i .u64 (.ofNat m) => bc (Nat.beq m 9223372036854775808) (k (.x (.i .u64) (.fn 4 e))) false
  | .and, .x (.i .u8) e, .i .u8 (.ofNat m) => k (.x (.i .u8) (.fn2 9 e (.li .u8 (.ofNat m))))
  | .rem, .x (.i kk) e, .i k2 (.ofNat m) => bc (Nat.beq (kc kk) (kc k2)) (bc (Nat.ble 1 m) (bc (aboveS e (-1) (factsOf h)) (k (.x (.i kk) (.rem m e))) false) false) false
  | _, _, _ => false
/-- a finite float, by what is known; some NaN; a string's length, and a whole number, that are not great -/
noncomputable def finK (fs : Facts) (e : SE) : Bool := match e with
  | .lf x => (match FloatKind.f64.decode x with
    | .number _ _ _ => true
    | _ => false)
  | e => bc (Nat.beq (look (.fn 7 e) fs) 1) (Nat.beq (look (.cmp .eql e e) fs) 1) false
noncomputable def nanK (fs : Facts) (e : SE) : Bool := match e with
  | .lf x => bc (Op.floatEq .f64 x x) false true
  | e => Nat.ble 2 (look (.cmp .eql e e) fs)
noncomputable def lenK (fs : Facts) (e : SE) : Bool := match e with
  | .ls l _ => Nat.ble l 4611686018427387903
  | e => belowS (.len e) 4611686018427387903 fs
noncomputable def smallK (fs : Facts) (e : SE) : Bool := bc (belowS e 4611686018427387903 fs) (aboveS e (-4611686018427387905) fs) false
noncomputable def arS (op : BinOp) (a b : SE) (fs : Facts) (k : AV → Bool) : Bool := match op with
  | .add => bc (lenK fs a) (bc (lenK fs b) (k (.x .s (.fn2 3 a b))) false) false
  | _ => false
/-- one more, one less -/
noncomputable def oneK (c : Int) (fs : Facts) (a b : SE) : Bool := match b with
  | .li .i64 (.ofNat 1) => bc (belowS a c fs) (aboveS a (-1) fs) false
  | _ => false
noncomputable def arI (op : BinOp) (a b : SE) (fs : Facts) (k : AV → Bool) : Bool := match op with
  | .add => bc (bc (oneK 9223372036854775806 fs a b) true (bc (smallK fs a) (smallK fs b) false)) (k (.x (.i .i64) (.fn2 4 a b))) false
  | .sub => bc (bc (oneK 9223372036854775807 fs a b) true (bc (smallK fs a) (smallK fs b) false)) (k (.x (.i .i64) (.fn2 5 a b))) false
  | _ => false
noncomputable def arF (op : BinOp) (a b : SE) (fs : Facts) (k : AV → Bool) : Bool := match op with
  | .add => bc (finK fs a) (bc (finK fs b) (k (.x .f (.fn2 1 a b))) (bc (nanK fs b) (k .nan) false)) (bc (nanK fs a) (k .nan) (bc (nanK fs b) (k .nan) false))
  | .sub => bc (finK fs a) (bc (finK fs b) (k (.x .f (.fn2 2 a b))) (bc (nanK fs b) (k .nan) false)) (bc (nanK fs a) (k .nan) (bc (nanK fs b) (k .nan) false))
  | _ => false
noncomputable def symAr (op : BinOp) (x y : AV) (h : Heap) (k : AV → Bool) : Bool := match x, y with
  | .nan, .x .f _ => nanCmp op k
  | .x .f _, .nan => nanCmp op k
  | .x .s a, .x .s b => arS op a b (factsOf h) k
  | .x .s a, .s l n => arS op a (.ls l n) (factsOf h) k
  | .s l n, .x .s b => arS op (.ls l n) b (factsOf h) k
  | .x (.i .i64) a, .x (.i .i64) b => arI op a b (factsOf h) k
  | .x (.i .i64) a, .i .i64 n => arI op a (.li .i64 n) (factsOf h) k
  | .i .i64 n, .x (.i .i64) b => arI op (.li .i64 n) b (factsOf h) k
  | .x .f a, .x .f b => arF op a b (factsOf h) k
  | .x .f a, .f .f64 n => bc (Nat.ble (n + 1) 18446744073709551616) (arF op a (.lf n) (factsOf h) k) false
  | .f .f64 n, .x .f b => bc (Nat.ble (n + 1) 18446744073709551616) (arF op (.lf n) b (factsOf h) k) false
  | _, _ => false
noncomputable def isAr (op : BinOp) (x y : AV) : Bool := match op, x, y with
  | .add, _, _ => true
  | .sub, _, _ => true
  | _, .nan, _ => true
  | _, _, .nan => true
  | _, _, _ => false
noncomputable def symBin (op : BinOp) (x y : AV) (h : Heap) (k : AV → Bool) : Bool := bc (isAr op x y) (symAr op x y h k) (bc (cmpOp op) (symCmp op x y k) (symRem op x y h k))

noncomputable def evBin0 (P : Program) (op : BinOp) (t : TypeId) (xo yo : Operand) (x y : AV) (h : Heap) (k : AV → Bool) : Bool := match x with
  | .s a p => match y with
    | .s b q => evStrBin op a p b q k
    | _ => false
  | .f .f64 a => match y with
    | .f .f64 b => evFF P op t a b k
    | .nan => nanCmp op k
    | _ => false
  | .nan => match y with
    | .f .f64 _ => nanCmp op k
    | .nan => nanCmp op k
    | _ => false
  | .b _ => pure2 P (binOp op t) x y k
  | .i _ _ => pure2 P (binOp op t) x y k
  | .inil => match y with
    | .inil => bc (bc (isConst' xo) true (isConst' yo)) (evEqOnly P op t h x y k) false
    | .ifc _ _ => evEqOnly P op t h x y k
    | _ => false
  | .ag _ => match y with
    | .ag _ => bc (P.eqGuardType P.depth t) false (evEqOnly P op t h x y k)
    | _ => false
  | .ifc _ _ => evEqOnly P op t h x y k
  | .pn => evEqOnly P op t h x y k
  | .p _ _ => evEqOnly P op t h x y k
  | .sn => evEqOnly P op t h x y k
  | .sl _ _ _ _ => evEqOnly P op t h x y k
  | .sx _ _ _ _ => evEqOnly P op t h x y k
  | .so _ _ _ _ => evEqOnly P op t h x y k
  | .mp _ => evEqOnly P op t h x y k
  | .mpn => evEqOnly P op t h x y k
  | .fn _ _ _ => evEqOnly P op t h x y k
  | .fnil => evEqOnly P op t h x y k
  | _ => false

/-- a boolean held against a literal -/
noncomputable def evBB (P : Program) (op : BinOp) (t : TypeId) (x y : AV) (k : AV → Bool) (k2 : Bool) : Bool := match op, x, y, P.underlying t with
  | .eql, .x .b e, .b c, some .bool => bc c (k (.x .b e)) (k (.x .b (.not e)))
  | _, _, _, _ => k2
noncomputable def evBin (P : Program) (op : BinOp) (t : TypeId) (xo yo : Operand) (x y : AV) (h : Heap) (k : AV → Bool) : Bool :=
  bc (bc (isX x) true (isX y)) (evBB P op t x y k (symBin op x y h k)) (evBin0 P op t xo yo x y h k)

/-- the ways of a value that is neither a number nor a string -/
def odd : Value → Bool
  | .int .. | .float .. | .complex .. | .string _ => false
  | _ => true

theorem binOp_eql_odd {t : TypeId} {X Y : Value} (hX : odd X = true) : binOp .eql t X Y = (do pure (.bool (← Op.equal t X Y)) : Sem Value) := by
  cases X <;> simp only [odd, Bool.false_eq_true] at hX <;> cases Y <;> rfl
theorem binOp_neq_odd {t : TypeId} {X Y : Value} (hX : odd X = true) : binOp .neq t X Y = (do pure (.bool (!(← Op.equal t X Y))) : Sem Value) := by
  cases X <;> simp only [odd, Bool.false_eq_true] at hX <;> cases Y <;> rfl

theorem evEqOnly_ok {P : Program} {op : BinOp} {t : TypeId} {x y : AV} {X Y : Value} {k : AV → Bool} (he : evEqOnly P op t h x y k = true) (rx : Rv E x X) (ry : Rv E y Y) (hr : HR E h nxt w) (hX : odd X = true) :
    ∃ v W, (binOp op t X Y).run P w = .ok W w ∧ Rv E v W ∧ k v = true := by
  unfold evEqOnly at he
  split at he
  · obtain ⟨b, e, h1, hd, h2⟩ := aeqK_ok 10000 he rx ry hr
    have hrun : (binOp .eql t X Y).run P w = .ok (.bool b) w := by
      rw [binOp_eql_odd hX]
      simp [Op.equal, Op.maxDepth, h1]
    split at h2
    · simp only [den, Option.some.injEq, Value.bool.injEq] at hd
      subst hd
      exact ⟨_, _, hrun, by rw [Rv], h2⟩
    · exact ⟨_, _, hrun, by rw [Rv]; exact ⟨hd, _, rfl⟩, h2⟩
  · obtain ⟨b, e, h1, hd, h2⟩ := aeqK_ok 10000 he rx ry hr
    have hrun : (binOp .neq t X Y).run P w = .ok (.bool !b) w := by
      rw [binOp_neq_odd hX]
      simp [Op.equal, Op.maxDepth, h1]
    split at h2
    · simp only [den, Option.some.injEq, Value.bool.injEq] at hd
      subst hd
      rcases bc_or h2 with ⟨e, h2⟩ | ⟨e, h2⟩
      · exact ⟨.b false, .bool false, by rw [hrun, e]; rfl, by rw [Rv], h2⟩
      · exact ⟨.b true, .bool true, by rw [hrun, e]; rfl, by rw [Rv], h2⟩
    · exact ⟨_, _, hrun, by rw [Rv]; exact ⟨by simp only [den, hd], _, rfl⟩, h2⟩
  · cases he

theorem eqGuard_free {P : Program} {op : BinOp} {t : TypeId} {xo yo : Operand} {X Y : Value} (h1 : ¬ (X = .nilIface ∧ Y = .nilIface)) (h2 : ¬ ∃ a b, X = .agg a ∧ Y = .agg b) : (eqGuard op t xo yo X Y).run P w = .ok () w := by
  unfold eqGuard
  cases op <;> simp only [Bool.not_true, Bool.not_false, if_true, Bool.false_eq_true, if_false, Sem.run_pure]
  all_goals
    split
    · exact absurd ⟨rfl, rfl⟩ h1
    · exact absurd ⟨_, _, rfl, rfl⟩ h2
    · rfl

def opRun (P : Program) (op : BinOp) (t : TypeId) (xo yo : Operand) (X Y : Value) : Sem Value := do eqGuard op t xo yo X Y; binOp op t X Y

theorem evBin0_ok {P : Program} {op : BinOp} {t : TypeId} {xo yo : Operand} {x y : AV} {X Y : Value} {k : AV → Bool} (he : evBin0 P op t xo yo x y h k = true) (rx : Rv E x X) (ry : Rv E y Y) (hr : HR E h nxt w) :
    ∃ v W w', (opRun P op t xo yo X Y).run P w = .ok W w' ∧ (w' = w ∨ (v = .nan ∧ w' = { w with drawn := w.drawn + 1 })) ∧ Rv E v W ∧ k v = true := by
  have glue : (eqGuard op t xo yo X Y).run P w = .ok () w → (∃ v W, (binOp op t X Y).run P w = .ok W w ∧ Rv E v W ∧ k v = true) →
      ∃ v W w', (opRun P op t xo yo X Y).run P w = .ok W w' ∧ (w' = w ∨ (v = .nan ∧ w' = { w with drawn := w.drawn + 1 })) ∧ Rv E v W ∧ k v = true := by
    rintro hg ⟨v, W, h1, h2, h3⟩
    exact ⟨v, W, w, by simp [opRun, hg, h1], .inl rfl, h2, h3⟩
  cases x <;> simp only [evBin0, Bool.false_eq_true] at he
  case s a p =>
    cases y <;> simp only [Bool.false_eq_true] at he
    rename_i b q
    rw [Rv] at rx; rw [Rv] at ry; subst rx; subst ry
    refine glue (eqGuard_free (by simp) (by simp)) ?_
    obtain ⟨v, W, h1, h2, h3⟩ := evStrBin_ok (E := E) (w := w) (P := P) he
    refine ⟨v, W, ?_, h2, h3⟩
    rw [← h1]; cases op <;> rfl
  case f kk a =>
    cases kk
    · cases he
    cases y <;> simp only [Bool.false_eq_true] at he
    case f kb b =>
      cases kb
      · cases he
      rw [Rv] at rx; rw [Rv] at ry; subst rx; subst ry
      have hg : (eqGuard op t xo yo (.float .f64 a) (.float .f64 b)).run P w = .ok () w := eqGuard_free (by simp) (by simp)
      have hfl : (op = .add ∨ op = .sub ∨ op = .mul ∨ op = .quo) → evFloat op a b k = true → ∃ v W w', (opRun P op t xo yo (.float .f64 a) (.float .f64 b)).run P w = .ok W w' ∧ (w' = w ∨ (v = .nan ∧ w' = { w with drawn := w.drawn + 1 })) ∧ Rv E v W ∧ k v = true := by
        intro ho he
        obtain ⟨v, W, w', h1, h2, h3, h4⟩ := evFloat_ok (E := E) (w := w) (P := P) he
        refine ⟨v, W, w', ?_, h2, h3, h4⟩
        simp only [opRun, Sem.run_bind, hg, Result.andThen_ok]
        rw [← h1]
        rcases ho with rfl | rfl | rfl | rfl <;> simp [binOp]
      have he : evFF P op t a b k = true := he
      unfold evFF at he
      split at he
      · exact hfl (.inl rfl) he
      · exact hfl (.inr (.inl rfl)) he
      · exact hfl (.inr (.inr (.inl rfl))) he
      · exact hfl (.inr (.inr (.inr rfl))) he
      · exact glue hg (pure2_ok he (by rw [Rv]) (by rw [Rv]))
    case nan =>
      rw [Rv] at rx; rw [Rv] at ry; subst rx
      obtain ⟨b, rfl, hb⟩ := ry
      exact glue (eqGuard_free (by simp) (by simp)) (nanCmp_ok he (.inr hb))
  case nan =>
    rw [Rv] at rx
    obtain ⟨a, rfl, ha⟩ := rx
    cases y <;> try (cases he; done)
    case f kb b =>
      cases kb
      · cases he
      rw [Rv] at ry; subst ry
      have he : nanCmp op k = true := he
      exact glue (eqGuard_free (by simp) (by simp)) (nanCmp_ok he (.inl ha))
    case nan =>
      rw [Rv] at ry
      obtain ⟨b, rfl, hb⟩ := ry
      exact glue (eqGuard_free (by simp) (by simp)) (nanCmp_ok he (.inl ha))
  case b a => 
    have hX : X = .bool a := by rw [Rv] at rx; exact rx
    exact glue (eqGuard_free (by rw [hX]; simp) (by rw [hX]; simp)) (pure2_ok he rx ry)
  case i kk a =>
    have hX : X = .int kk a := by rw [Rv] at rx; exact rx
    exact glue (eqGuard_free (by rw [hX]; simp) (by rw [hX]; simp)) (pure2_ok he rx ry)
  case inil =>
    have hX : X = .nilIface := by rw [Rv] at rx; exact rx
    cases y <;> simp only [Bool.false_eq_true] at he
    case inil =>
      have hY : Y = .nilIface := by rw [Rv] at ry; exact ry
      obtain ⟨hc, he⟩ := bc_and he
      refine glue ?_ (evEqOnly_ok he rx ry hr (by rw [hX]; rfl))
      subst hX; subst hY
      have hxy : isConst' xo = true ∨ isConst' yo = true := by
        rcases bc_or hc with ⟨e, _⟩ | ⟨_, e⟩
        · exact .inl e
        · exact .inr e
      unfold eqGuard
      cases xo <;> cases yo <;> simp only [isConst', Bool.false_eq_true, or_self] at hxy <;> (cases op <;> rfl)
    case ifc u v =>
      refine glue (eqGuard_free ?_ (by rw [hX]; simp)) (evEqOnly_ok he rx ry hr (by rw [hX]; rfl))
      rw [Rv] at ry
      obtain ⟨V, rfl, _⟩ := ry
      simp
  case ag cs =>
    cases y <;> simp only [Bool.false_eq_true] at he
    rename_i ds
    have rx' := rx
    have ry' := ry
    rw [Rv] at rx'; rw [Rv] at ry'
    obtain ⟨vs, rfl, _⟩ := rx'
    obtain ⟨us, rfl, _⟩ := ry'
    rcases bc_or he with ⟨_, hh⟩ | ⟨hg, he⟩
    · cases hh
    · exact glue (run_eqGuard_agg w op t xo yo _ _ hg) (evEqOnly_ok he rx ry hr rfl)
  case ifc u v =>
    have rx' := rx
    rw [Rv] at rx'
    obtain ⟨V, rfl, _⟩ := rx'
    exact glue (eqGuard_free (by simp) (by simp)) (evEqOnly_ok he rx ry hr rfl)
  case pn =>
    have hX : X = .pointer none := by rw [Rv] at rx; exact rx
    exact glue (eqGuard_free (by rw [hX]; simp) (by rw [hX]; simp)) (evEqOnly_ok he rx ry hr (by rw [hX]; rfl))
  case p i o =>
    have rx' := rx
    rw [Rv] at rx'
    obtain ⟨V, _, rfl⟩ := rx'
    exact glue (eqGuard_free (by simp) (by simp)) (evEqOnly_ok he rx ry hr rfl)
  case sn =>
    have hX : X = .slice none 0 0 := by rw [Rv] at rx; exact rx
    exact glue (eqGuard_free (by rw [hX]; simp) (by rw [hX]; simp)) (evEqOnly_ok he rx ry hr (by rw [hX]; rfl))
  case sl =>
    have rx' := rx
    rw [Rv] at rx'
    obtain ⟨V, _, rfl⟩ := rx'
    exact glue (eqGuard_free (by simp) (by simp)) (evEqOnly_ok he rx ry hr rfl)
  case so =>
    have rx' := rx
    rw [Rv] at rx'
    obtain ⟨V, _, rfl, _⟩ := rx'
    exact glue (eqGuard_free (by simp) (by simp)) (evEqOnly_ok he rx ry hr rfl)
  case sx =>
    have rx' := rx
    rw [Rv] at rx'
    obtain ⟨V, _, _, _, _, _, _, _, rfl⟩ := rx'
    exact glue (eqGuard_free (by simp) (by simp)) (evEqOnly_ok he rx ry hr rfl)
  case fn =>
    have rx' := rx
    rw [Rv] at rx'
    obtain ⟨_, _, rfl, _, _⟩ := rx'
    exact glue (eqGuard_free (by simp) (by simp)) (evEqOnly_ok he rx ry hr rfl)
  case fnil =>
    have hX : X = .nilFunc := by rw [Rv] at rx; exact rx
    exact glue (eqGuard_free (by rw [hX]; simp) (by rw [hX]; simp)) (evEqOnly_ok he rx ry hr (by rw [hX]; rfl))
  case mp =>
    have rx' := rx
    rw [Rv] at rx'
    obtain ⟨_, _, rfl⟩ := rx'
    exact glue (eqGuard_free (by simp) (by simp)) (evEqOnly_ok he rx ry hr rfl)
  case mpn =>
    have hX : X = .map none := by rw [Rv] at rx; exact rx
    exact glue (eqGuard_free (by rw [hX]; simp) (by rw [hX]; simp)) (evEqOnly_ok he rx ry hr (by rw [hX]; rfl))

theorem symRem_ok {P : Program} {op : BinOp} {t : TypeId} {x y : AV} {X Y : Value} {k : AV → Bool} (he : symRem op x y h k = true) (rx : Rv E x X) (ry : Rv E y Y) (hr : HR E h nxt w) :
    (∃ v W, (binOp op t X Y).run P w = .ok W w ∧ Rv E v W ∧ k v = true) ∧ X ≠ .nilIface ∧ ∀ a, X ≠ .agg a := by
  unfold symRem at he
  split at he
  · rename_i e m
    obtain ⟨h1, he⟩ := bc_and he
    have h1 := Nat.eq_of_beq_eq_true h1
    subst h1
    simp only [Rv, hasS] at rx ry
    obtain ⟨hd, n, rfl, q1, q2⟩ := rx
    subst ry
    refine ⟨⟨_, .int .u64 (IntKind.u64.wrap (BitVec.ofInt 64 n &&& ~~~BitVec.ofInt 64 9223372036854775808).toNat), ?_, ?_, he⟩, by simp, by simp⟩
    · simp only [binOp, ne_eq, not_true_eq_false, if_false, Op.intBits]
      rfl
    · rw [Rv]
      have hb := (BitVec.ofInt 64 n &&& ~~~BitVec.ofInt 64 9223372036854775808).isLt
      refine ⟨by simp only [den, hd]; rfl, _, rfl, ?_⟩
      generalize (BitVec.ofInt 64 n &&& ~~~BitVec.ofInt 64 9223372036854775808).toNat = z at hb
      have e1 : IntKind.u64.min = 0 := rfl
      have e2 : IntKind.u64.max = 18446744073709551615 := rfl
      rw [e1, e2]
      simp [IntKind.wrap, IntKind.bits, IntKind.signed]
      omega
  · rename_i e m
    simp only [Rv, hasS] at rx ry
    obtain ⟨hd, n, rfl, q1, q2⟩ := rx
    subst ry
    refine ⟨⟨_, .int .u8 (IntKind.u8.wrap (BitVec.ofInt 8 n &&& BitVec.ofInt 8 (Int.ofNat m)).toNat), ?_, ?_, he⟩, by simp, by simp⟩
    · simp only [binOp, ne_eq, not_true_eq_false, if_false, Op.intBits]
      rfl
    · rw [Rv]
      have hb := (BitVec.ofInt 8 n &&& BitVec.ofInt 8 (Int.ofNat m)).isLt
      refine ⟨by simp only [den, hd]; rfl, _, rfl, ?_⟩
      generalize (BitVec.ofInt 8 n &&& BitVec.ofInt 8 (Int.ofNat m)).toNat = z at hb
      have e1 : IntKind.u8.min = 0 := rfl
      have e2 : IntKind.u8.max = 255 := rfl
      rw [e1, e2]
      simp [IntKind.wrap, IntKind.bits, IntKind.signed]
      omega
  · rename_i kk e k2 m
    obtain ⟨h1, he1⟩ := bc_and he
    obtain ⟨h2, he2⟩ := bc_and he1
    obtain ⟨h3, he3⟩ := bc_and he2
    have h1 := kc_inj h1
    have h2 := Nat.le_of_ble_eq_true h2
    clear he he1 he2
    subst h1
    simp only [Rv, hasS] at rx ry
    obtain ⟨hd, n, rfl, q1, q2⟩ := rx
    subst ry
    have h0 := aboveS_ok (factsOf_ok hr) e hd h3
    have hn : 0 ≤ n := by omega
    have hm : (m : Int) ≠ 0 := by omega
    have hrun : (binOp .rem t (.int kk n) (.int kk (Int.ofNat m))).run P w = .ok (.int kk (n % (m : Int))) w := by
      have : n.tmod (Int.ofNat m) = n % (m : Int) := by
        show n.tmod (m : Int) = _
        rw [Int.tmod_eq_emod_of_nonneg hn]
      simp [binOp, Op.intDiv, ← this]
      intro h; omega
    refine ⟨⟨_, _, hrun, ?_, he3⟩, by simp, by simp⟩
    rw [Rv]
    have l1 := Int.emod_nonneg n hm
    have l2 : n % (m : Int) ≤ n := by
      have a1 := Int.mul_ediv_add_emod n m
      have a2 := Int.mul_nonneg (show (0 : Int) ≤ (m : Int) by omega) (Int.ediv_nonneg hn (show (0 : Int) ≤ (m : Int) by omega))
      omega
    have l3 : kk.min ≤ 0 := by cases kk <;> decide
    exact ⟨by simp only [den, hd]; rw [if_pos ⟨hn, by omega⟩], _, rfl, by omega, by omega⟩
  · cases he

theorem finK_ok {fs : Facts} {e : SE} {x : Nat} (he : finK fs e = true) (hf : Holds E fs) (hd : den E e = some (.float .f64 x)) (hx : x < 18446744073709551616) : ∃ s m i, FloatKind.f64.decode x = .number s m i := by
  unfold finK at he
  split at he
  · rename_i y
    simp only [den, Option.some.injEq, Value.float.injEq] at hd
    obtain ⟨_, rfl⟩ := hd
    split at he
    · rename_i s m i h; exact ⟨s, m, i, h⟩
    · cases he
  · obtain ⟨h1, h2⟩ := bc_and he
    have h1 := (look_ok hf).1 (Nat.eq_of_beq_eq_true h1)
    have h2 := (look_ok hf).1 (Nat.eq_of_beq_eq_true h2)
    simp only [den, hd, apf, Option.some.injEq, Value.bool.injEq] at h1
    simp only [den, hd, cmpV, cmpF, Option.map_some, Option.some.injEq, Value.bool.injEq] at h2
    exact num_of_may hx h1 h2
theorem nanK_ok {fs : Facts} {e : SE} {x : Nat} (he : nanK fs e = true) (hf : Holds E fs) (hd : den E e = some (.float .f64 x)) : feq x x = false := by
  unfold nanK at he
  split at he
  · rename_i y
    simp only [den, Option.some.injEq, Value.float.injEq] at hd
    obtain ⟨_, rfl⟩ := hd
    rcases bc_or he with ⟨_, h⟩ | ⟨h, _⟩
    · cases h
    · exact h
  · have h2 := (look_ok hf).2 (Nat.le_of_ble_eq_true he)
    simp only [den, hd, cmpV, cmpF, Option.map_some, Option.some.injEq, Value.bool.injEq] at h2
    exact h2
theorem lenK_ok {fs : Facts} {e : SE} {s : ByteArray} (he : lenK fs e = true) (hf : Holds E fs) (hd : den E e = some (.string s)) : (s.size : Int) ≤ 4611686018427387903 := by
  unfold lenK at he
  split at he
  · rename_i l n
    simp only [den, Option.some.injEq, Value.string.injEq] at hd
    subst hd
    have := Nat.le_of_ble_eq_true he
    rw [str_size]; omega
  · exact belowS_ok hf (.len e) (k := .i64) (by simp only [den, hd]) he
theorem smallK_ok {fs : Facts} {e : SE} {n : Int} (he : smallK fs e = true) (hf : Holds E fs) (hd : den E e = some (.int .i64 n)) : -4611686018427387904 ≤ n ∧ n ≤ 4611686018427387903 := by
  obtain ⟨h1, h2⟩ := bc_and he
  have := belowS_ok hf e hd h1
  have := aboveS_ok hf e hd h2
  omega
theorem arS_ok {P : Program} {op : BinOp} {t : TypeId} {a b : SE} {X Y : ByteArray} {k : AV → Bool} (he : arS op a b (factsOf h) k = true) (ha : den E a = some (.string X)) (hb : den E b = some (.string Y)) (hr : HR E h nxt w) :
    ∃ v W, (binOp op t (.string X) (.string Y)).run P w = .ok W w ∧ Rv E v W ∧ k v = true := by
  unfold arS at he
  split at he <;> try (cases he; done)
  obtain ⟨h1, he1⟩ := bc_and he
  obtain ⟨h2, he2⟩ := bc_and he1
  have h1 := lenK_ok h1 (factsOf_ok hr) ha
  have h2 := lenK_ok h2 (factsOf_ok hr) hb
  have hs : (X ++ Y).size = X.size + Y.size := ByteArray.size_append
  refine ⟨_, .string (X ++ Y), ?_, ?_, he2⟩
  · have hm : ¬ ((X.size + Y.size : Nat) : Int) > IntKind.i64.max := by
      have : IntKind.i64.max = 9223372036854775807 := rfl
      rw [this]; omega
    simp only [binOp, Op.stringOp, hm, if_false, Sem.run_pure]
  · rw [Rv]
    refine ⟨?_, _, rfl, by omega⟩
    simp only [den, ha, hb, apf2]
    rw [if_pos (by omega)]
theorem oneK_ok {c : Int} {fs : Facts} {a b : SE} {X Y : Int} (he : oneK c fs a b = true) (hf : Holds E fs) (ha : den E a = some (.int .i64 X)) (hb : den E b = some (.int .i64 Y)) : (0 ≤ X ∧ X ≤ c) ∧ Y = 1 := by
  unfold oneK at he
  split at he <;> try (cases he; done)
  obtain ⟨h1, h2⟩ := bc_and he
  have := belowS_ok hf a ha h1
  have := aboveS_ok hf a ha h2
  cases hb
  exact ⟨⟨by omega, by omega⟩, rfl⟩
theorem arI_ok {P : Program} {op : BinOp} {t : TypeId} {a b : SE} {X Y : Int} {k : AV → Bool} (he : arI op a b (factsOf h) k = true) (ha : den E a = some (.int .i64 X)) (hb : den E b = some (.int .i64 Y)) (hr : HR E h nxt w) :
    ∃ v W, (binOp op t (.int .i64 X) (.int .i64 Y)).run P w = .ok W w ∧ Rv E v W ∧ k v = true := by
  unfold arI at he
  have e1 : IntKind.i64.min = -9223372036854775808 := rfl
  have e2 : IntKind.i64.max = 9223372036854775807 := rfl
  split at he <;> try (cases he; done)
  · have hb2 : (-9223372036854775808 ≤ X + Y ∧ X + Y ≤ 9223372036854775807) ∧ k (.x (.i .i64) (.fn2 4 a b)) = true := by
      obtain ⟨hc, he2⟩ := bc_and he
      rcases bc_or hc with ⟨ho, _⟩ | ⟨_, he1⟩
      · obtain ⟨h1, rfl⟩ := oneK_ok ho (factsOf_ok hr) ha hb
        exact ⟨by omega, he2⟩
      · obtain ⟨h1, h2⟩ := bc_and he1
        have h1 := smallK_ok h1 (factsOf_ok hr) ha
        have h2 := smallK_ok h2 (factsOf_ok hr) hb
        exact ⟨by omega, he2⟩
    obtain ⟨hb2, he2⟩ := hb2
    have hw : IntKind.i64.wrap (X + Y) = X + Y := wrap_in0 (by omega) (by omega)
    refine ⟨_, .int .i64 (X + Y), ?_, ?_, he2⟩
    · simp [binOp, Op.intArith, hw]
    · rw [Rv]
      refine ⟨?_, _, rfl, by omega, by omega⟩
      simp only [den, ha, hb, apf2]
      rw [if_pos (by omega)]
  · have hb2 : (-9223372036854775808 ≤ X - Y ∧ X - Y ≤ 9223372036854775807) ∧ k (.x (.i .i64) (.fn2 5 a b)) = true := by
      obtain ⟨hc, he2⟩ := bc_and he
      rcases bc_or hc with ⟨ho, _⟩ | ⟨_, he1⟩
      · obtain ⟨h1, rfl⟩ := oneK_ok ho (factsOf_ok hr) ha hb
        exact ⟨by omega, he2⟩
      · obtain ⟨h1, h2⟩ := bc_and he1
        have h1 := smallK_ok h1 (factsOf_ok hr) ha
        have h2 := smallK_ok h2 (factsOf_ok hr) hb
        exact ⟨by omega, he2⟩
    obtain ⟨hb2, he2⟩ := hb2
    have hw : IntKind.i64.wrap (X - Y) = X - Y := wrap_in0 (by omega) (by omega)
    refine ⟨_, .int .i64 (X - Y), ?_, ?_, he2⟩
    · simp [binOp, Op.intArith, hw]
    · rw [Rv]
      refine ⟨?_, _, rfl, by omega, by omega⟩
      simp only [den, ha, hb, apf2]
      rw [if_pos (by omega)]
theorem arith_run {P : Program} {t : TypeId} {op : BinOp} {X Y : Nat} {o : Option Nat} (ho : (op = .add ∧ o = FloatKind.f64.format.add X Y) ∨ (op = .sub ∧ o = FloatKind.f64.format.sub X Y)) :
    (binOp op t (.float .f64 X) (.float .f64 Y)).run P w = (match (generalizing := false) o with | some r => pure (.float .f64 r) | none => do pure (.float .f64 (← choose (.nanBits .f64 X Y))) : Sem Value).run P w := by
  rcases ho with ⟨rfl, rfl⟩ | ⟨rfl, rfl⟩ <;> (simp only [binOp, ne_eq, not_true_eq_false, if_false]; rfl)
theorem arF_ok {P : Program} {op : BinOp} {t : TypeId} {a b : SE} {X Y : Nat} {k : AV → Bool} (he : arF op a b (factsOf h) k = true) (ha : den E a = some (.float .f64 X)) (hb : den E b = some (.float .f64 Y)) (hX : X < 18446744073709551616) (hY : Y < 18446744073709551616) (hr : HR E h nxt w) :
    ∃ v W w', (binOp op t (.float .f64 X) (.float .f64 Y)).run P w = .ok W w' ∧ (w' = w ∨ (v = .nan ∧ w' = { w with drawn := w.drawn + 1 })) ∧ Rv E v W ∧ k v = true := by
  have hf := factsOf_ok hr
  have go : ∀ (c : Nat) (o : Option Nat), (op = .add ∧ o = FloatKind.f64.format.add X Y) ∨ (op = .sub ∧ o = FloatKind.f64.format.sub X Y) → (feq X X = false ∨ feq Y Y = false → o = none) → (∀ s m i t n j, FloatKind.f64.decode X = .number s m i → FloatKind.f64.decode Y = .number t n j → ∃ r, o = some r ∧ r < 18446744073709551616) →
      den E (.fn2 c a b) = o.map (.float .f64) →
      bc (finK (factsOf h) a) (bc (finK (factsOf h) b) (k (.x .f (.fn2 c a b))) (bc (nanK (factsOf h) b) (k .nan) false)) (bc (nanK (factsOf h) a) (k .nan) (bc (nanK (factsOf h) b) (k .nan) false)) = true →
      ∃ v W w', (binOp op t (.float .f64 X) (.float .f64 Y)).run P w = .ok W w' ∧ (w' = w ∨ (v = .nan ∧ w' = { w with drawn := w.drawn + 1 })) ∧ Rv E v W ∧ k v = true := by
    intro c o ho hn hs hd he
    rw [arith_run ho]
    have nan : feq X X = false ∨ feq Y Y = false → k .nan = true → ∃ v W w', (match (generalizing := false) o with | some r => pure (.float .f64 r) | none => do pure (.float .f64 (← choose (.nanBits .f64 X Y))) : Sem Value).run P w = .ok W w' ∧ (w' = w ∨ (v = .nan ∧ w' = { w with drawn := w.drawn + 1 })) ∧ Rv E v W ∧ k v = true := fun h1 hk => by
      rw [hn h1]
      refine ⟨.nan, .float .f64 ((Question.nanBits .f64 X Y).cut (w.tape w.drawn (.nanBits .f64 X Y))), _, ?_, .inr ⟨rfl, rfl⟩, ?_, hk⟩
      · simp [Question.forced]
      · rw [Rv]; exact ⟨_, rfl, nan_cut _ _ _⟩
    rcases bc_or he with ⟨f1, he⟩ | ⟨_, he⟩
    · rcases bc_or he with ⟨f2, he⟩ | ⟨_, he⟩
      · obtain ⟨s, m, i, g1⟩ := finK_ok f1 hf ha hX
        obtain ⟨t, n, j, g2⟩ := finK_ok f2 hf hb hY
        obtain ⟨r, rfl, hr2⟩ := hs _ _ _ _ _ _ g1 g2
        refine ⟨_, .float .f64 r, w, rfl, .inl rfl, ?_, he⟩
        rw [Rv]
        exact ⟨hd, _, rfl, hr2⟩
      · obtain ⟨h2, he⟩ := bc_and he
        exact nan (.inr (nanK_ok h2 hf hb)) he
    · rcases bc_or he with ⟨f2, he⟩ | ⟨_, he⟩
      · exact nan (.inl (nanK_ok f2 hf ha)) he
      · obtain ⟨h2, he⟩ := bc_and he
        exact nan (.inr (nanK_ok h2 hf hb)) he
  unfold arF at he
  split at he
  · exact go 1 _ (.inl ⟨rfl, rfl⟩) add_nan (fun s m i t n j g1 g2 => add_num ⟨_, _, _, g1⟩ ⟨_, _, _, g2⟩) (by simp only [den, ha, hb, apf2]) he
  · exact go 2 _ (.inr ⟨rfl, rfl⟩) sub_nan (fun s m i t n j g1 g2 => sub_num ⟨_, _, _, g1⟩ ⟨_, _, _, g2⟩) (by simp only [den, ha, hb, apf2]) he
  · cases he
theorem symAr_ok {P : Program} {op : BinOp} {t : TypeId} {x y : AV} {X Y : Value} {k : AV → Bool} (he : symAr op x y h k = true) (rx : Rv E x X) (ry : Rv E y Y) (hr : HR E h nxt w) :
    (∃ v W w', (binOp op t X Y).run P w = .ok W w' ∧ (w' = w ∨ (v = .nan ∧ w' = { w with drawn := w.drawn + 1 })) ∧ Rv E v W ∧ k v = true) ∧ X ≠ .nilIface ∧ ∀ a, X ≠ .agg a := by
  have up : (∃ v W, (binOp op t X Y).run P w = .ok W w ∧ Rv E v W ∧ k v = true) → ∃ v W w', (binOp op t X Y).run P w = .ok W w' ∧ (w' = w ∨ (v = .nan ∧ w' = { w with drawn := w.drawn + 1 })) ∧ Rv E v W ∧ k v = true := by
    rintro ⟨v, W, h1, h2, h3⟩; exact ⟨v, W, w, h1, .inl rfl, h2, h3⟩
  unfold symAr at he
  split at he
  · simp only [Rv, hasS] at rx ry
    obtain ⟨a, rfl, ha⟩ := rx
    obtain ⟨_, b, rfl, _⟩ := ry
    exact ⟨up (nanCmp_ok he (.inl ha)), by simp, by simp⟩
  · simp only [Rv, hasS] at rx ry
    obtain ⟨b, rfl, hb⟩ := ry
    obtain ⟨_, a, rfl, _⟩ := rx
    exact ⟨up (nanCmp_ok he (.inr hb)), by simp, by simp⟩
  · simp only [Rv, hasS] at rx ry
    obtain ⟨ha, a, rfl, _⟩ := rx
    obtain ⟨hb, b, rfl, _⟩ := ry
    exact ⟨up (arS_ok he ha hb hr), by simp, by simp⟩
  · simp only [Rv, hasS] at rx ry
    obtain ⟨ha, a, rfl, _⟩ := rx
    subst ry
    exact ⟨up (arS_ok he ha rfl hr), by simp, by simp⟩
  · simp only [Rv, hasS] at rx ry
    obtain ⟨hb, b, rfl, _⟩ := ry
    subst rx
    exact ⟨up (arS_ok he rfl hb hr), by simp, by simp⟩
  · simp only [Rv, hasS] at rx ry
    obtain ⟨ha, a, rfl, _⟩ := rx
    obtain ⟨hb, b, rfl, _⟩ := ry
    exact ⟨up (arI_ok he ha hb hr), by simp, by simp⟩
  · simp only [Rv, hasS] at rx ry
    obtain ⟨ha, a, rfl, _⟩ := rx
    subst ry
    exact ⟨up (arI_ok he ha rfl hr), by simp, by simp⟩
  · simp only [Rv, hasS] at rx ry
    obtain ⟨hb, b, rfl, _⟩ := ry
    subst rx
    exact ⟨up (arI_ok he rfl hb hr), by simp, by simp⟩
  · simp only [Rv, hasS] at rx ry
    obtain ⟨ha, a, rfl, la⟩ := rx
    obtain ⟨hb, b, rfl, lb⟩ := ry
    exact ⟨arF_ok he ha hb la lb hr, by simp, by simp⟩
  · rename_i a n
    simp only [Rv, hasS] at rx ry
    obtain ⟨ha, a, rfl, la⟩ := rx
    subst ry
    obtain ⟨l1, he⟩ := bc_and he
    exact ⟨arF_ok he ha rfl la (Nat.lt_of_succ_le (Nat.le_of_ble_eq_true l1)) hr, by simp, by simp⟩
  · simp only [Rv, hasS] at rx ry
    obtain ⟨hb, b, rfl, lb⟩ := ry
    subst rx
    obtain ⟨l1, he⟩ := bc_and he
    exact ⟨arF_ok he rfl hb (Nat.lt_of_succ_le (Nat.le_of_ble_eq_true l1)) lb hr, by simp, by simp⟩
  · cases he

theorem equalIn_bool {P : Program} {t : TypeId} (hu : P.underlying t = some .bool) (n : Nat) (a b : Bool) : (Op.equalIn (n + 1) t (.bool a) (.bool b)).run P w = .ok (a == b) w := by
  simp [Op.equalIn, run_underlying' hu]
theorem evBB_ok {P : Program} {op : BinOp} {t : TypeId} {xo yo : Operand} {x y : AV} {X Y : Value} {k : AV → Bool} {k2 : Bool} (he : evBB P op t x y k k2 = true) (rx : Rv E x X) (ry : Rv E y Y) :
    (∃ v W, (opRun P op t xo yo X Y).run P w = .ok W w ∧ Rv E v W ∧ k v = true) ∨ k2 = true := by
  unfold evBB at he
  split at he
  · rename_i e c hu
    simp only [Rv, hasS] at rx ry
    obtain ⟨hd, b, rfl⟩ := rx
    subst ry
    have hg : (eqGuard .eql t xo yo (.bool b) (.bool c)).run P w = .ok () w := eqGuard_free (fun h => by cases h.1) (fun ⟨a, _, h, _⟩ => by cases h)
    have hrun : (binOp .eql t (.bool b) (.bool c)).run P w = .ok (.bool (b == c)) w := by
      rw [binOp_eql_odd rfl]
      have e : (Op.equal t (.bool b) (.bool c)).run P w = .ok (b == c) w := equalIn_bool hu 9999 b c
      simp only [Sem.run_bind, e, Result.andThen_ok, Sem.run_pure]
    rcases bc_or he with ⟨rfl, he⟩ | ⟨rfl, he⟩
    · exact .inl ⟨_, .bool b, by simp [opRun, hg, hrun], by rw [Rv]; exact ⟨hd, b, rfl⟩, he⟩
    · exact .inl ⟨_, .bool (!b), by simp [opRun, hg, hrun], by rw [Rv]; exact ⟨by simp only [den, hd], _, rfl⟩, he⟩
  · exact .inr he
theorem evBin_ok {P : Program} {op : BinOp} {t : TypeId} {xo yo : Operand} {x y : AV} {X Y : Value} {k : AV → Bool} (he : evBin P op t xo yo x y h k = true) (rx : Rv E x X) (ry : Rv E y Y) (hr : HR E h nxt w) :
    ∃ v W w', (opRun P op t xo yo X Y).run P w = .ok W w' ∧ (w' = w ∨ (v = .nan ∧ w' = { w with drawn := w.drawn + 1 })) ∧ Rv E v W ∧ k v = true := by
  rcases bc_or he with ⟨_, he⟩ | ⟨_, he⟩
  · rcases evBB_ok (xo := xo) (yo := yo) he rx ry with ⟨v, W, h1, h2, h3⟩ | he
    · exact ⟨v, W, w, h1, .inl rfl, h2, h3⟩
    have key : (∃ v W w', (binOp op t X Y).run P w = .ok W w' ∧ (w' = w ∨ (v = .nan ∧ w' = { w with drawn := w.drawn + 1 })) ∧ Rv E v W ∧ k v = true) ∧ X ≠ .nilIface ∧ ∀ a, X ≠ .agg a := by
      rcases bc_or he with ⟨_, he⟩ | ⟨_, he⟩
      · exact symAr_ok he rx ry hr
      · have k2 : (∃ v W, (binOp op t X Y).run P w = .ok W w ∧ Rv E v W ∧ k v = true) ∧ X ≠ .nilIface ∧ ∀ a, X ≠ .agg a := by
          rcases bc_or he with ⟨_, he⟩ | ⟨_, he⟩
          · exact symCmp_ok he rx ry
          · exact symRem_ok he rx ry hr
        obtain ⟨⟨v, W, h1, h2, h3⟩, h4⟩ := k2
        exact ⟨⟨v, W, w, h1, .inl rfl, h2, h3⟩, h4⟩
    obtain ⟨⟨v, W, w', h1, h6, h2, h3⟩, h4, h5⟩ := key
    have hg : (eqGuard op t xo yo X Y).run P w = .ok () w := eqGuard_free (fun h => h4 h.1) (fun ⟨a, _, h, _⟩ => h5 a h)
    exact ⟨v, W, w', by simp [opRun, hg, h1], h6, h2, h3⟩
  · exact evBin0_ok he rx ry hr
end
end Go.Proofs.YtbmekbpgoakkbaaGreatDoor.Vx
