/- May a float, a value be: as expressions, and as contracts of calls. No condition. -/
import Derived.Test.YtnkmiphcgjpgkaaGreatDoorVxZf
set_option linter.unusedVariables false
set_option linter.unusedSimpArgs false
set_option linter.constructorNameAsVariable false
namespace Go.Proofs.YtnkmiphcgjpgkaaGreatDoor.Vx
open Go

noncomputable def mayS (a : SE) : SE := .and (.cmp .eql (.fn 2 a) a) (.and (.cmp .leq (.fn 1 (.fn 4 (.fn 0 a))) (.lf 0x433fffffffffffff)) (seOr (.not (.cmp .eql a (.lf 0))) (.not (.cmp .leq (.fn 3 (.fn 0 a)) (.li .i64 (-1))))))
section
variable {E : Env}
theorem den_feq {a b : SE} {x y : Nat} (ha : den E a = some (.float .f64 x)) (hb : den E b = some (.float .f64 y)) : den E (.cmp .eql a b) = some (.bool (feq x y)) := by simp only [den, ha, hb, cmpV, cmpF, Option.map_some, feq]
theorem den_fle {a b : SE} {x y : Nat} (ha : den E a = some (.float .f64 x)) (hb : den E b = some (.float .f64 y)) : den E (.cmp .leq a b) = some (.bool (fle x y)) := by simp only [den, ha, hb, cmpV, cmpF, Option.map_some, fle]
theorem den_trunc {a : SE} {x : Nat} (ha : den E a = some (.float .f64 x)) (hs : feq x x = true) : den E (.fn 2 a) = some (.float .f64 (truncF x)) := by
  simp only [den, ha, apf]
  unfold truncF
  cases hd : FloatKind.f64.decode x with
  | nan s t =>
    unfold feq at hs
    rw [order_nan0 (.inl ⟨s, t, hd⟩)] at hs; cases hs
  | _ => rfl
theorem den_mayS {a : SE} {x : Nat} (ha : den E a = some (.float .f64 x)) (hs : feq x x = true) : den E (mayS a) = some (.bool (mayF x)) := by
  have e : mayF x = (feq (truncF x) x && (fle (absF x) 0x433fffffffffffff && (!feq x 0 || !sgnF x))) := by
    unfold mayF; rw [hs]; simp only [Bool.not_true, Bool.false_or, Bool.and_assoc]
  rw [e]
  have h0 : den E (.fn 0 a) = some (.int .u64 x) := by simp only [den, ha, apf]
  have h4 : den E (.fn 1 (.fn 4 (.fn 0 a))) = some (.float .f64 (absF x)) := by
    simp only [den, ha, apf]; rfl
  have h3 : den E (.fn 3 (.fn 0 a)) = some (.int .i64 (IntKind.i64.wrap (x : Int))) := by simp only [den, ha, apf]
  unfold mayS
  refine den_and (den_feq (den_trunc ha hs) ha) (den_and (den_fle h4 rfl) (den_or (den_not (den_feq ha rfl)) (den_not ?_)))
  exact fact_le h3
end

/-! ### Operands of a kind -/
noncomputable def asI (kk : IntKind) (v : AV) (k : SE → Bool) : Bool := match v with
  | .i k' n => bc (Nat.beq (kc kk) (kc k')) (bc (bc (decide (kk.min ≤ n)) (decide (n ≤ kk.max)) false) (k (.li kk n)) false) false
  | .x (.i k') e => bc (Nat.beq (kc kk) (kc k')) (k e) false
  | _ => false
noncomputable def asF (v : AV) (k : SE → Bool) : Bool := match v with
  | .f .f64 x => bc (Nat.ble (x + 1) 18446744073709551616) (k (.lf x)) false
  | .x .f e => k e
  | _ => false
noncomputable def asS (v : AV) (k : SE → Bool) : Bool := match v with
  | .s l x => bc (Nat.ble l 4611686018427387903) (k (.ls l x)) false
  | .x .s e => k e
  | _ => false
section
variable {E : Env}
theorem asI_ok {kk : IntKind} {v : AV} {V : Value} {k : SE → Bool} (he : asI kk v k = true) (r : Rv E v V) : ∃ e n, V = .int kk n ∧ kk.min ≤ n ∧ n ≤ kk.max ∧ den E e = some (.int kk n) ∧ k e = true := by
  unfold asI at he
  split at he
  · obtain ⟨h1, he1⟩ := bc_and he
    obtain ⟨h2, he2⟩ := bc_and he1
    obtain ⟨h2, h3⟩ := bc_and h2
    clear he he1
    have h1 := kc_inj h1
    subst h1
    rw [Rv] at r; subst r
    exact ⟨_, _, rfl, of_decide_eq_true h2, of_decide_eq_true h3, rfl, he2⟩
  · obtain ⟨h1, he1⟩ := bc_and he
    clear he
    have h1 := kc_inj h1
    subst h1
    simp only [Rv, hasS] at r
    obtain ⟨hd, n, rfl, l1, l2⟩ := r
    exact ⟨_, _, rfl, l1, l2, hd, he1⟩
  · cases he
theorem asF_ok {v : AV} {V : Value} {k : SE → Bool} (he : asF v k = true) (r : Rv E v V) : ∃ e x, V = .float .f64 x ∧ x < 18446744073709551616 ∧ den E e = some (.float .f64 x) ∧ k e = true := by
  unfold asF at he
  split at he
  · obtain ⟨h1, he⟩ := bc_and he
    rw [Rv] at r; subst r
    exact ⟨_, _, rfl, Nat.lt_of_succ_le (Nat.le_of_ble_eq_true h1), rfl, he⟩
  · simp only [Rv, hasS] at r
    obtain ⟨hd, n, rfl, l1⟩ := r
    exact ⟨_, _, rfl, l1, hd, he⟩
  · cases he
theorem asS_ok {v : AV} {V : Value} {k : SE → Bool} (he : asS v k = true) (r : Rv E v V) : ∃ (e : SE) (s : ByteArray), V = .string s ∧ (s.size : Int) ≤ 9223372036854775807 ∧ den E e = some (.string s) ∧ k e = true := by
  unfold asS at he
  split at he
  · obtain ⟨h1, he⟩ := bc_and he
    have h1 := Nat.le_of_ble_eq_true h1
    rw [Rv] at r; subst r
    exact ⟨_, _, rfl, by rw [str_size]; omega, rfl, he⟩
  · simp only [Rv, hasS] at r
    obtain ⟨hd, n, rfl, l1⟩ := r
    exact ⟨_, _, rfl, l1, hd, he⟩
  · cases he
theorem rv_four {a b c d : AV} {V : Value} (r : Rv E (.ag [a, b, c, d]) V) : ∃ A B C D, V = .agg #[A, B, C, D] ∧ Rv E a A ∧ Rv E b B ∧ Rv E c C ∧ Rv E d D := by
  rw [Rv] at r
  obtain ⟨vs, rfl, r⟩ := r
  simp only [RvL] at r
  obtain ⟨A, _, rfl, ra, B, _, rfl, rb, C, _, rfl, rc, D, _, rfl, rd, rfl⟩ := r
  exact ⟨A, B, C, D, rfl, ra, rb, rc, rd⟩
end

/-! ### May a value be -/
noncomputable def packV (a b c d : SE) : SE := .fn2 0 a (.fn2 0 b (.fn2 0 c d))
theorem den_may {E : Env} {a b c d : SE} {n r : Int} {x : Nat} {s : ByteArray} (ha : den E a = some (.int .u8 n)) (hb : den E b = some (.float .f64 x)) (hc : den E c = some (.string s)) (hd : den E d = some (.int .i64 r)) :
    den E (.fn 10 (packV a b c d)) = some (.bool (mayV n x s r)) := by
  simp only [packV, den, ha, hb, hc, hd, apf2, apf, mayA, mayA2, mayA3]
noncomputable def valK (v : AV) (k : SE → SE → SE → SE → Bool) : Bool := match v with
  | .ag [a, b, c, d] => asI .u8 a fun a => asF b fun b => asS c fun c => asI .i64 d fun d => bc (hasSy (packV a b c d)) (k a b c d) false
  | _ => false
theorem valK_ok {E : Env} {h : Heap} {nxt : Nat} {w : World} {v : AV} {V : Value} {k : SE → SE → SE → SE → Bool} (he : valK v k = true) (r : Rv E v V) (hr : HR E h nxt w) :
    ∃ a b c d n x s m, V = .agg #[.int .u8 n, .float .f64 x, .string s, .int .i64 m] ∧ (0 ≤ n ∧ n ≤ 255) ∧ x < 18446744073709551616 ∧ (s.size : Int) ≤ 9223372036854775807 ∧ (-9223372036854775808 ≤ m ∧ m ≤ 9223372036854775807) ∧
      den E a = some (.int .u8 n) ∧ den E b = some (.float .f64 x) ∧ den E c = some (.string s) ∧ den E d = some (.int .i64 m) ∧ 0 < w.heap.size ∧ k a b c d = true := by
  unfold valK at he
  split at he <;> try (cases he; done)
  obtain ⟨A, B, C, D, rfl, ra, rb, rc, rd⟩ := rv_four r
  obtain ⟨a, n, rfl, n1, n2, da, he⟩ := asI_ok he ra
  obtain ⟨b, x, rfl, x1, db, he⟩ := asF_ok he rb
  obtain ⟨c, s, rfl, s1, dc, he⟩ := asS_ok he rc
  obtain ⟨d, m, rfl, m1, m2, dd, he⟩ := asI_ok he rd
  obtain ⟨h1, he⟩ := bc_and he
  exact ⟨a, b, c, d, n, x, s, m, rfl, ⟨n1, n2⟩, x1, s1, ⟨m1, m2⟩, da, db, dc, dd, hr.size_pos h1 (by simp only [packV, den, da, db, dc, dd, apf2]; rfl), he⟩
/-- what is to be shown of a function that tells something of a value -/
def OfVal (P : Program) (g : FuncId) (f : Int → Nat → ByteArray → Int → Bool) : Prop := ∀ (n : Int) (x : Nat) (s : ByteArray) (m : Int) (w : World), 0 ≤ n ∧ n ≤ 255 → x < 18446744073709551616 → (s.size : Int) ≤ 9223372036854775807 → -9223372036854775808 ≤ m ∧ m ≤ 9223372036854775807 → 0 < w.heap.size →
  Calls P g #[.agg #[.int .u8 n, .float .f64 x, .string s, .int .i64 m]] w fun e w' => e = .returned (.bool (f n x s m)) ∧ RowKit.Below w.heap.size w w'
noncomputable def valF (mk : SE → SE → SE → SE → SE) : Ct := fun args h nxt k => match args with
  | [v] => valK v fun a b c d => k (.x .b (mk a b c d)) h nxt
  | _ => false
theorem valF_ok {P : Program} {g : FuncId} {f : Int → Nat → ByteArray → Int → Bool} {mk : SE → SE → SE → SE → SE} (H : OfVal P g f)
    (hm : ∀ {E : Env} {a b c d : SE} {n r : Int} {x : Nat} {s : ByteArray}, den E a = some (.int .u8 n) → den E b = some (.float .f64 x) → den E c = some (.string s) → den E d = some (.int .i64 r) → den E (mk a b c d) = some (.bool (f n x s r))) : CtOK P g (valF mk) := by
  apply ctExpr
  intro args ARGS E h nxt w k he ra hr
  unfold valF at he
  split at he <;> try (cases he; done)
  obtain ⟨V, hA, rx⟩ := ra.one
  have hA : ARGS = #[V] := by apply Array.ext'; simpa using hA
  subst hA
  obtain ⟨a, b, c, d, n, x, s, m, rfl, q1, q2, q3, q4, da, db, dc, dd, hs, he⟩ := valK_ok he rx hr
  refine ⟨_, h, .bool (f n x s m), he, ?_, hr, Fk.refl h, H n x s m w q1 q2 q3 q4 hs⟩
  rw [Rv]
  exact ⟨hm da db dc dd, _, rfl⟩
noncomputable def mayC : Ct := valF fun a b c d => .fn 10 (packV a b c d)
theorem mayC_ok {P : Program} {g : FuncId} (H : OfVal P g mayV) : CtOK P g mayC := valF_ok H den_may

theorem bareV_eq (n : Int) (x : Nat) (s : ByteArray) (r : Int) : bareV n x s r = (decide (n = 0) && (decide (s.size = 0) && (decide (r = 0) && (feq x 0 && mayF x)))) := by
  unfold bareV mayV
  by_cases h1 : n = 0
  · subst h1
    by_cases h2 : s.size = 0
    · by_cases h3 : r = 0
      · subst h3
        rw [h2]
        cases h4 : feq x 0 <;> cases h5 : mayF x <;> simp [h4, h5]
      · simp [h3]
    · simp [h2]
  · simp [h1]
theorem den_empty {E : Env} {c : SE} {s : ByteArray} (hc : den E c = some (.string s)) : den E (.cmp .eql c (.ls 0 0)) = some (.bool (decide (s.size = 0))) := by
  simp only [den, hc, cmpV, cmpS, Option.map_some, Option.some.injEq, Value.bool.injEq]
  rw [ByteArray.toList_eq, ByteArray.toList_eq, str_toList]
  have : unpack 0 0 = [] := rfl
  rw [this, Bool.eq_iff_iff, beq_iff_eq, decide_eq_true_iff]
  constructor
  · intro h
    have := congrArg List.length h
    simpa using this
  · intro h
    apply List.eq_nil_of_length_eq_zero
    simpa using h
noncomputable def bareS (a b c d : SE) : SE := .and (.fn 10 (packV a b c d)) (.and (.cmp .eql a (.li .u8 0)) (.and (.cmp .eql b (.lf 0)) (.and (.cmp .eql c (.ls 0 0)) (.cmp .eql d (.li .i64 0)))))
noncomputable def bareC : Ct := valF bareS
theorem bareC_ok {P : Program} {g : FuncId} (H : OfVal P g bareV) : CtOK P g bareC := valF_ok H fun da db dc dd =>
  den_and (den_may da db dc dd) (den_and (fact_eq da) (den_and (den_feq db rfl) (den_and (den_empty dc) (fact_eq dd))))

/-- two floats of the document's: the same expression; nought without a sign -/
noncomputable def sameC : Ct := fun args h nxt k => match args with
  | [.x .f a, .x .f b] => bc (hasSy a) (bc (seEq a b) (k (.b true) h nxt) false) false
  | [.x .f a, .f .f64 0] => bc (hasSy a) (k (.x .b (.and (.cmp .eql a (.lf 0)) (.fn 7 a))) h nxt) false
  | _ => false
def OfSame (P : Program) (g : FuncId) : Prop := ∀ (x : Nat) (w : World), x < 18446744073709551616 → 0 < w.heap.size → (Calls P g #[.float .f64 x, .float .f64 x] w fun e w' => e = .returned (.bool true) ∧ RowKit.Below w.heap.size w w') ∧
  (Calls P g #[.float .f64 x, .float .f64 0] w fun e w' => e = .returned (.bool (feq x 0 && mayF x)) ∧ RowKit.Below w.heap.size w w')
theorem sameC_ok {P : Program} {g : FuncId} (H : OfSame P g) : CtOK P g sameC := by
  apply ctExpr
  intro args ARGS E h nxt w k he ra hr
  unfold sameC at he
  split at he <;> try (cases he; done)
  · obtain ⟨h1, he1⟩ := bc_and he
    obtain ⟨h2, he2⟩ := bc_and he1
    obtain rfl := seEq_ok h2
    obtain ⟨X, Y, hA, rx, ry⟩ := ra.two
    have hA : ARGS = #[X, Y] := by apply Array.ext'; simpa using hA
    subst hA
    simp only [Rv, hasS] at rx ry
    obtain ⟨da, x, rfl, hx⟩ := rx
    obtain ⟨db, y, rfl, _⟩ := ry
    rw [da] at db; cases db
    exact ⟨_, h, _, he2, by rw [Rv], hr, Fk.refl h, (H x w hx (hr.size_pos h1 da)).1⟩
  · obtain ⟨h1, he1⟩ := bc_and he
    obtain ⟨X, Y, hA, rx, ry⟩ := ra.two
    have hA : ARGS = #[X, Y] := by apply Array.ext'; simpa using hA
    subst hA
    simp only [Rv, hasS] at rx ry
    obtain ⟨da, x, rfl, hx⟩ := rx
    subst ry
    refine ⟨_, h, _, he1, ?_, hr, Fk.refl h, (H x w hx (hr.size_pos h1 da)).2⟩
    rw [Rv]
    exact ⟨den_and (den_feq da rfl) (by simp only [den, da, apf]), _, rfl⟩
/-- nought, without a sign -/
noncomputable def noughtC : Ct := fun args h nxt k => match args with
  | [.x .f a] => bc (hasSy a) (k (.x .b (.and (.cmp .eql a (.lf 0)) (.fn 7 a))) h nxt) false
  | _ => false
theorem noughtC_ok {P : Program} {g : FuncId} (H : ∀ (x : Nat) (w : World), x < 18446744073709551616 → 0 < w.heap.size → Calls P g #[.float .f64 x] w fun e w' => e = .returned (.bool (feq x 0 && mayF x)) ∧ RowKit.Below w.heap.size w w') : CtOK P g noughtC := by
  apply ctExpr
  intro args ARGS E h nxt w k he ra hr
  unfold noughtC at he
  split at he <;> try (cases he; done)
  obtain ⟨h1, he1⟩ := bc_and he
  obtain ⟨X, hA, rx⟩ := ra.one
  have hA : ARGS = #[X] := by apply Array.ext'; simpa using hA
  subst hA
  simp only [Rv, hasS] at rx
  obtain ⟨da, x, rfl, hx⟩ := rx
  refine ⟨_, h, _, he1, ?_, hr, Fk.refl h, H x w hx (hr.size_pos h1 da)⟩
  rw [Rv]
  exact ⟨den_and (den_feq da rfl) (by simp only [den, da, apf]), _, rfl⟩

/-- a value's cells, of a kind: may it be -/
noncomputable def mayB (b c d : SE) (m : SE) : SE := .and (.and (.not (.cmp .leq d (.li .i64 (-1)))) (.cmp .leq (.len c) (.li .i64 4096))) m
noncomputable def mayVS (n : Nat) (b c d : SE) : SE := match n with
  | 2 => mayB b c d (.and (seOr (.cmp .eql b (.lf 0x3ff0000000000000)) (.and (.cmp .eql b (.lf 0)) (.fn 7 b))) (.and (.cmp .eql c (.ls 0 0)) (.cmp .eql d (.li .i64 0))))
  | 3 => mayB b c d (.and (.fn 7 b) (.and (.cmp .eql c (.ls 0 0)) (.cmp .eql d (.li .i64 0))))
  | 4 => mayB b c d (.and (.and (.cmp .eql b (.lf 0)) (.fn 7 b)) (.cmp .eql d (.li .i64 0)))
  | 0 => mayB b c d (.and (.and (.cmp .eql b (.lf 0)) (.fn 7 b)) (.and (.cmp .eql c (.ls 0 0)) (.cmp .eql d (.li .i64 0))))
  | 1 => mayB b c d (.and (.and (.cmp .eql b (.lf 0)) (.fn 7 b)) (.and (.cmp .eql c (.ls 0 0)) (.cmp .eql d (.li .i64 0))))
  | _ => mayB b c d (.and (.and (.cmp .eql b (.lf 0)) (.fn 7 b)) (.cmp .eql c (.ls 0 0)))
theorem den_mayVS {E : Env} {b c d : SE} {r : Int} {x : Nat} {s : ByteArray} (hb : den E b = some (.float .f64 x)) (hc : den E c = some (.string s)) (hd : den E d = some (.int .i64 r)) :
    ∀ n : Nat, n ≤ 8 → den E (mayVS n b c d) = some (.bool (mayV n x s r)) := by
  have h7 : den E (.fn 7 b) = some (.bool (mayF x)) := by simp only [den, hb, apf]
  have hl : den E (.len c) = some (.int .i64 s.size) := by simp only [den, hc]
  have base : ∀ {m : SE} {z : Bool}, den E m = some (.bool z) → den E (mayB b c d m) = some (.bool ((!decide (r ≤ -1) && decide ((s.size : Int) ≤ 4096)) && z)) := fun hm =>
    den_and (den_and (den_not (fact_le hd)) (fact_le hl)) hm
  have e0 : (!decide (r ≤ -1)) = decide (0 ≤ r) := by rw [← decide_not, decide_eq_decide]; omega
  have z0 : den E (.and (.cmp .eql b (.lf 0)) (.fn 7 b)) = some (.bool (feq x 0 && mayF x)) := den_and (den_feq hb rfl) h7
  intro n hn
  match n, hn with
  | 0, _ => refine (base (den_and z0 (den_and (den_empty hc) (fact_eq hd)))).trans ?_; rw [e0]; unfold mayV; simp [Bool.and_assoc]
  | 1, _ => refine (base (den_and z0 (den_and (den_empty hc) (fact_eq hd)))).trans ?_; rw [e0]; unfold mayV; simp [Bool.and_assoc]
  | 2, _ => refine (base (den_and (den_or (den_feq hb rfl) z0) (den_and (den_empty hc) (fact_eq hd)))).trans ?_; rw [e0]; unfold mayV; simp [Bool.and_assoc]
  | 3, _ => refine (base (den_and h7 (den_and (den_empty hc) (fact_eq hd)))).trans ?_; rw [e0]; unfold mayV; simp [Bool.and_assoc]
  | 4, _ => refine (base (den_and z0 (fact_eq hd))).trans ?_; rw [e0]; unfold mayV; simp [Bool.and_assoc]
  | 5, _ => refine (base (den_and z0 (den_empty hc))).trans ?_; rw [e0]; unfold mayV; simp [Bool.and_assoc]
  | 6, _ => refine (base (den_and z0 (den_empty hc))).trans ?_; rw [e0]; unfold mayV; simp [Bool.and_assoc]
  | 7, _ => refine (base (den_and z0 (den_empty hc))).trans ?_; rw [e0]; unfold mayV; simp [Bool.and_assoc]
  | 8, _ => refine (base (den_and z0 (den_empty hc))).trans ?_; rw [e0]; unfold mayV; simp [Bool.and_assoc]
/-- the same in the document's order -/
noncomputable def mayRS (n : Nat) (b c d : SE) : SE := match n with
  | 2 => .and (seOr (.and (.cmp .eql b (.lf 0)) (.fn 7 b)) (.cmp .eql b (.lf 0x3ff0000000000000))) (.and (.cmp .eql c (.ls 0 0)) (.cmp .eql d (.li .i64 0)))
  | 3 => .and (.fn 7 b) (.and (.cmp .eql c (.ls 0 0)) (.cmp .eql d (.li .i64 0)))
  | 4 => .and (.and (.cmp .eql b (.lf 0)) (.fn 7 b)) (.and (seOr (.cmp .eql c (.ls 0 0)) (.cmp .leq (.len c) (.li .i64 4096))) (.cmp .eql d (.li .i64 0)))
  | 0 => .and (.and (.cmp .eql b (.lf 0)) (.fn 7 b)) (.and (.cmp .eql c (.ls 0 0)) (.cmp .eql d (.li .i64 0)))
  | 1 => .and (.and (.cmp .eql b (.lf 0)) (.fn 7 b)) (.and (.cmp .eql c (.ls 0 0)) (.cmp .eql d (.li .i64 0)))
  | _ => .and (.and (.cmp .eql b (.lf 0)) (.fn 7 b)) (.and (.cmp .eql c (.ls 0 0)) (seOr (.cmp .eql d (.li .i64 0)) (.not (.cmp .leq d (.li .i64 0)))))
theorem den_mayRS {E : Env} {b c d : SE} {r : Int} {x : Nat} {s : ByteArray} (hb : den E b = some (.float .f64 x)) (hc : den E c = some (.string s)) (hd : den E d = some (.int .i64 r)) :
    ∀ n : Nat, n ≤ 8 → den E (mayRS n b c d) = some (.bool (mayV n x s r)) := by
  have h7 : den E (.fn 7 b) = some (.bool (mayF x)) := by simp only [den, hb, apf]
  have hl : den E (.len c) = some (.int .i64 s.size) := by simp only [den, hc]
  have z0 : den E (.and (.cmp .eql b (.lf 0)) (.fn 7 b)) = some (.bool (feq x 0 && mayF x)) := den_and (den_feq hb rfl) h7
  have q1 : ∀ p : Bool, (decide (0 ≤ r) && (decide ((s.size : Int) ≤ 4096) && (p && (decide (s.size = 0) && decide (r = 0))))) = (p && (decide (s.size = 0) && decide (r = 0))) := by
    intro p
    by_cases h1 : r = 0
    · by_cases h2 : s.size = 0
      · rw [decide_eq_true (show 0 ≤ r by omega), decide_eq_true (show (s.size : Int) ≤ 4096 by omega)]; simp
      · simp [h2]
    · simp [h1]
  have q2 : ∀ p : Bool, (decide (0 ≤ r) && (decide ((s.size : Int) ≤ 4096) && (p && decide (s.size = 0)))) = (p && (decide (s.size = 0) && (decide (r = 0) || !decide (r ≤ 0)))) := by
    intro p
    by_cases h2 : s.size = 0
    · rw [decide_eq_true (show (s.size : Int) ≤ 4096 by omega), decide_eq_true h2]
      have : (decide (r = 0) || !decide (r ≤ 0)) = decide (0 ≤ r) := by
        rw [Bool.eq_iff_iff]; simp; omega
      rw [this]; simp [Bool.and_comm]
    · simp [h2]
  have q4 : ∀ p : Bool, (decide (0 ≤ r) && (decide ((s.size : Int) ≤ 4096) && (p && decide (r = 0)))) = (p && ((decide (s.size = 0) || decide ((s.size : Int) ≤ 4096)) && decide (r = 0))) := by
    intro p
    by_cases h1 : r = 0
    · have : (decide (s.size = 0) || decide ((s.size : Int) ≤ 4096)) = decide ((s.size : Int) ≤ 4096) := by
        by_cases h2 : s.size = 0
        · rw [decide_eq_true h2, decide_eq_true (show (s.size : Int) ≤ 4096 by omega)]; rfl
        · rw [decide_eq_false h2, Bool.false_or]
      rw [this, decide_eq_true (show 0 ≤ r by omega), decide_eq_true h1]; simp [Bool.and_comm]
    · simp [h1]
  intro n hn
  match n, hn with
  | 0, _ => refine (den_and z0 (den_and (den_empty hc) (fact_eq hd))).trans ?_; rw [← q1]; unfold mayV; simp [Bool.and_assoc]
  | 1, _ => refine (den_and z0 (den_and (den_empty hc) (fact_eq hd))).trans ?_; rw [← q1]; unfold mayV; simp [Bool.and_assoc]
  | 2, _ => refine (den_and (den_or z0 (den_feq hb rfl)) (den_and (den_empty hc) (fact_eq hd))).trans ?_; rw [← q1]; unfold mayV; simp [Bool.and_assoc, Bool.or_comm]
  | 3, _ => refine (den_and h7 (den_and (den_empty hc) (fact_eq hd))).trans ?_; rw [← q1]; unfold mayV; simp [Bool.and_assoc]
  | 4, _ => refine (den_and z0 (den_and (den_or (den_empty hc) (fact_le hl)) (fact_eq hd))).trans ?_; rw [← q4]; unfold mayV; simp [Bool.and_assoc]
  | 5, _ => refine (den_and z0 (den_and (den_empty hc) (den_or (fact_eq hd) (den_not (fact_le hd))))).trans ?_; rw [← q2]; unfold mayV; simp [Bool.and_assoc]
  | 6, _ => refine (den_and z0 (den_and (den_empty hc) (den_or (fact_eq hd) (den_not (fact_le hd))))).trans ?_; rw [← q2]; unfold mayV; simp [Bool.and_assoc]
  | 7, _ => refine (den_and z0 (den_and (den_empty hc) (den_or (fact_eq hd) (den_not (fact_le hd))))).trans ?_; rw [← q2]; unfold mayV; simp [Bool.and_assoc]
  | 8, _ => refine (den_and z0 (den_and (den_empty hc) (den_or (fact_eq hd) (den_not (fact_le hd))))).trans ?_; rw [← q2]; unfold mayV; simp [Bool.and_assoc]
theorem den_fn {E : Env} {c : Nat} {e : SE} {V U : Value} (h : den E e = some V) (k : apf c V = some U) : den E (.fn c e) = some U := by simp only [den, h, k]
theorem mayV_great {n : Int} {x : Nat} {s : ByteArray} {r : Int} (h : 8 < n) : mayV n x s r = false := by
  unfold mayV
  rw [decide_eq_false (by omega)]; rfl
end Go.Proofs.YtnkmiphcgjpgkaaGreatDoor.Vx
