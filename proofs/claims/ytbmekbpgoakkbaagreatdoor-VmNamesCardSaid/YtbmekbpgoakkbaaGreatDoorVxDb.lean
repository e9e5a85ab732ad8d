/- Conditions over what a law is given: comparisons, and how a run divides at them. No condition. -/
import Derived.Test.YtbmekbpgoakkbaaGreatDoorVxDa
set_option linter.unusedVariables false
set_option linter.unusedSimpArgs false
set_option linter.constructorNameAsVariable false
set_option linter.unusedSectionVars false
namespace Go.Proofs.YtbmekbpgoakkbaaGreatDoor.Vx
open Go

section
variable {E : Env} {h : Heap} {nxt : Nat} {w : World}

/-! ### The facts' place -/
def fplace : Nat := 1048574
noncomputable def factsOf (h : Heap) : Facts := match T.get .gone h fplace with
  | .facts fs => fs
  | _ => []
theorem factsOf_ok (hr : HR E h nxt w) : Holds E (factsOf h) := by
  unfold factsOf
  have := hr.obj fplace
  split
  · rename_i fs hfs; rw [hfs] at this; exact this
  · intro p hp; cases hp

noncomputable def setF (fs : Facts) (h : Heap) (k : Heap → Bool) : Bool := match T.get .gone h fplace with
  | .gone => bc (Nat.ble (flr h) fplace) (T.setK (.facts fs) h fplace k) false
  | .facts _ => bc (Nat.ble (flr h) fplace) (T.setK (.facts fs) h fplace k) false
  | _ => false

/-- nothing but facts turns -/
structure Fk (h h1 : Heap) : Prop where
  same : ∀ i, (T.get .gone h i).live = true ∨ (T.get .gone h1 i).live = true ∨ i < flr h ∨ i = 0 → T.get .gone h1 i = T.get .gone h i
  flr : Vx.flr h1 = Vx.flr h
theorem Fk.refl (h : Heap) : Fk h h := ⟨fun _ _ => rfl, rfl⟩
theorem Fk.live {h h1 : Heap} (f : Fk h h1) (i : Nat) : (T.get .gone h1 i).live = (T.get .gone h i).live := by
  cases h2 : (T.get .gone h1 i).live
  · cases h3 : (T.get .gone h i).live
    · rfl
    · rw [f.same i (.inl h3), h3] at h2; exact h2.symm
  · rw [← f.same i (.inr (.inl h2)), h2]
theorem Fk.goes {h1 : Heap} (f : Fk h h1) : Goes E h w E h1 w :=
  ⟨Env.le_refl _, Nat.le_refl _, fun _ _ _ => rfl, fun k _ ⟨i, L, a1, a2, a3, a4⟩ => ⟨i, L, by rw [← f.flr]; exact a1, by rw [← f.live i]; exact a2, a3, a4⟩, f.flr, fun i hi => f.same i (.inr (.inr (.inl hi))), rfl, rfl, rfl⟩

theorem setF_ok {fs : Facts} {k : Heap → Bool} (he : setF fs h k = true) (hr : HR E h nxt w) (hf : Holds E fs) : ∃ h1, k h1 = true ∧ HR E h1 nxt w ∧ Fk h h1 := by
  have key : (T.get .gone h fplace).live = false → bc (Nat.ble (flr h) fplace) (T.setK (.facts fs) h fplace k) false = true → ∃ h1, k h1 = true ∧ HR E h1 nxt w ∧ Fk h h1 := by
    intro hl he
    obtain ⟨hfl, he⟩ := bc_and he
    have hfl := Nat.le_of_ble_eq_true hfl
    rw [T.setK_eq] at he
    have hne : ∀ i, i ≠ fplace → T.get .gone (T.set (.facts fs) h fplace) i = T.get .gone h i := fun i hi => T.get_set_ne _ _ _ _ _ hi
    have hat : (T.get .gone (T.set (.facts fs) h fplace) fplace).live = false := by rcases T.get_set_eq AO.gone (.facts fs) h fplace with g | g <;> rw [g] <;> rfl
    have h0 : (0 : Nat) ≠ fplace := by unfold fplace; omega
    have hfs : flr (T.set (.facts fs) h fplace) = flr h := by unfold flr; rw [hne 0 h0]
    have hfk : Fk h (T.set (.facts fs) h fplace) := ⟨fun i hi => by
      by_cases e : i = fplace
      · subst e
        rcases hi with hi | hi | hi | hi
        · rw [hl] at hi; cases hi
        · rw [hat] at hi; cases hi
        · omega
        · exact absurd hi.symm h0
      · exact hne i e, hfs⟩
    refine ⟨_, he, ⟨fun i => ?_, fun i j L M hi hj => ?_, fun i hi => ?_, hr.fresh, hr.inw, hr.pos, by rw [hfs]; exact hr.flle, by rw [hne 0 h0]; exact hr.zero⟩, hfk⟩
    · by_cases e : i = fplace
      · subst e
        rcases T.get_set_eq AO.gone (.facts fs) h fplace with g | g <;> rw [g]
        · exact hf
        · trivial
      · rw [hne i e]; exact hr.obj i
    · rw [hfk.live] at hi hj; exact hr.inj i j L M hi hj
    · rw [hfk.live]; exact hr.lt i hi
  unfold setF at he
  split at he
  · rename_i hg; exact key (by rw [hg]; rfl) he
  · rename_i hg; exact key (by rw [hg]; rfl) he
  · cases he

/-- a condition: decided, or the run divides -/
noncomputable def condK (v : AV) (h : Heap) (kt kf : Heap → Bool) : Bool := match v with
  | .b t => bc t (kt h) (kf h)
  | .x .b e => forkK e (factsOf h) (fun fs => setF fs h kt) (fun fs => setF fs h kf)
  | _ => false
theorem condK_ok {v : AV} {V : Value} {kt kf : Heap → Bool} (he : condK v h kt kf = true) (rv : Rv E v V) (hr : HR E h nxt w) :
    ∃ x h1, V = .bool x ∧ HR E h1 nxt w ∧ Fk h h1 ∧ ((x = true ∧ kt h1 = true) ∨ (x = false ∧ kf h1 = true)) := by
  unfold condK at he
  split at he
  · rename_i t
    rw [Rv] at rv
    exact ⟨t, h, rv, hr, Fk.refl h, bc_or he⟩
  · rename_i e
    rw [Rv] at rv
    obtain ⟨hd, x, rfl⟩ := rv
    obtain ⟨fs, hf, hx⟩ := forkK_ok e he (factsOf_ok hr) hd
    rcases hx with ⟨rfl, hx⟩ | ⟨rfl, hx⟩
    · obtain ⟨h1, k1, k2, k3⟩ := setF_ok hx hr hf
      exact ⟨true, h1, rfl, k2, k3, .inl ⟨rfl, k1⟩⟩
    · obtain ⟨h1, k1, k2, k3⟩ := setF_ok hx hr hf
      exact ⟨false, h1, rfl, k2, k3, .inr ⟨rfl, k1⟩⟩
  · cases he

/-- one of two, by what is known -/
noncomputable def pickK (fs : Facts) (c : AV) (yes no : Bool) : Bool := match c with
  | .b t => bc t yes no
  | .x .b e => d3 (decX fs e) false yes no
  | _ => false
theorem pickK_ok {fs : Facts} {c : AV} {V : Value} {yes no : Bool} (he : pickK fs c yes no = true) (rv : Rv E c V) (hf : Holds E fs) : (V = .bool true ∧ yes = true) ∨ (V = .bool false ∧ no = true) := by
  unfold pickK at he
  split at he
  · rw [Rv] at rv
    rcases bc_or he with ⟨rfl, he⟩ | ⟨rfl, he⟩
    · exact .inl ⟨rv, he⟩
    · exact .inr ⟨rv, he⟩
  · rename_i e
    rw [Rv] at rv
    obtain ⟨hd, x, rfl⟩ := rv
    obtain ⟨h1, h2⟩ := decX_ok hf hd
    match hdx : decX fs e with
    | 0 => rw [hdx] at he; cases he
    | 1 => rw [hdx] at he; exact .inl ⟨by rw [h1 hdx], he⟩
    | n + 2 => rw [hdx] at he; exact .inr ⟨by rw [h2 (by omega)], he⟩
  · cases he

/-! ### Operations on expressions -/
def srtC (c : Nat) (V : Value) : Prop := match c with
  | 0 => ∃ x, V = .bool x
  | 1 => ∃ k n, V = .int k n
  | 2 => ∃ x, V = .float .f64 x
  | _ => ∃ s, V = .string s
/-- an operand as an expression -/
noncomputable def seK (v : AV) (k : Nat → SE → Bool) : Bool := match v with
  | .x s e => (match s with | .b => k 0 e | .i _ => k 1 e | .f => k 2 e | .s => k 3 e)
  | .b x => k 0 (.lb x)
  | .i kk n => k 1 (.li kk n)
  | .f .f64 x => k 2 (.lf x)
  | .s l x => k 3 (.ls l x)
  | _ => false
theorem seK_ok {v : AV} {V : Value} {k : Nat → SE → Bool} (he : seK v k = true) (r : Rv E v V) : ∃ c e, den E e = some V ∧ srtC c V ∧ k c e = true := by
  unfold seK at he
  split at he
  · rename_i s e
    rw [Rv] at r
    cases s
    · exact ⟨0, e, r.1, r.2, he⟩
    · obtain ⟨h1, n, h2, _⟩ := r; exact ⟨1, e, h1, ⟨_, n, h2⟩, he⟩
    · obtain ⟨h1, n, h2, _⟩ := r; exact ⟨2, e, h1, ⟨n, h2⟩, he⟩
    · obtain ⟨h1, n, h2, _⟩ := r; exact ⟨3, e, h1, ⟨n, h2⟩, he⟩
  · rw [Rv] at r; subst r; exact ⟨0, _, rfl, ⟨_, rfl⟩, he⟩
  · rw [Rv] at r; subst r; exact ⟨1, _, rfl, ⟨_, _, rfl⟩, he⟩
  · rw [Rv] at r; subst r; exact ⟨2, _, rfl, ⟨_, rfl⟩, he⟩
  · rw [Rv] at r; subst r; exact ⟨3, _, rfl, ⟨_, rfl⟩, he⟩
  · cases he

noncomputable def cmpLit (op : BinOp) (a : SE) (kb : IntKind) (c : Int) (k : SE → Bool) : Bool := match op with
  | .lss => k (.cmp .leq a (.li kb (c - 1))) | .leq => k (.cmp .leq a (.li kb c)) | .gtr => k (.not (.cmp .leq a (.li kb c))) | .geq => k (.not (.cmp .leq a (.li kb (c - 1))))
  | .eql => k (.cmp .eql a (.li kb c)) | .neq => k (.not (.cmp .eql a (.li kb c))) | _ => false
noncomputable def cmpSym (op : BinOp) (a b : SE) (k : SE → Bool) : Bool := match op with
  | .lss => k (.not (.cmp .leq b a)) | .leq => k (.cmp .leq a b) | .gtr => k (.not (.cmp .leq a b)) | .geq => k (.cmp .leq b a)
  | .eql => bc (seEq a b) (k (.lb true)) (k (.cmp .eql a b)) | .neq => bc (seEq a b) (k (.lb false)) (k (.not (.cmp .eql a b))) | _ => false
noncomputable def swapOp (op : BinOp) : BinOp := match op with
  | .lss => .gtr | .leq => .geq | .gtr => .lss | .geq => .leq | op => op
noncomputable def cmpInt (op : BinOp) (a b : SE) (k : SE → Bool) : Bool := match b with
  | .li kb c => cmpLit op a kb c k
  | b => (match a with
    | .li ka c => cmpLit (swapOp op) b ka c k
    | a => cmpSym op a b k)

theorem swapOp_ok (op : BinOp) (m n : Int) : cmpI (swapOp op) n m = cmpI op m n := by
  cases op <;> simp [swapOp, cmpI]
  · rw [Bool.eq_iff_iff, beq_iff_eq, beq_iff_eq]; exact eq_comm
  · rw [Bool.eq_iff_iff]; simp; exact ⟨fun h e => h e.symm, fun h e => h e.symm⟩
theorem den_not {e : SE} {r : Bool} (h : den E e = some (.bool r)) : den E (.not e) = some (.bool !r) := by simp only [den, h]
theorem den_cmpI (o : BinOp) {x y : SE} {kk : IntKind} {p q : Int} (hx : den E x = some (.int kk p)) (hy : den E y = some (.int kk q)) : den E (.cmp o x y) = (cmpI o p q).map .bool := by simp only [den, hx, hy, cmpV, if_true]
theorem cmpLit_ok {op : BinOp} {a : SE} {kk : IntKind} {m c : Int} {k : SE → Bool} (he : cmpLit op a kk c k = true) (ha : den E a = some (.int kk m)) : ∃ e r, cmpI op m c = some r ∧ den E e = some (.bool r) ∧ k e = true := by
  have li : ∀ d, den E (.li kk d) = some (.int kk d) := fun _ => rfl
  unfold cmpLit at he
  split at he <;> try (cases he; done)
  · refine ⟨_, _, rfl, ?_, he⟩; rw [den_cmpI .leq ha (li _)]; simp only [cmpI, Option.map_some]; congr 2; rw [decide_eq_decide]; omega
  · refine ⟨_, _, rfl, ?_, he⟩; rw [den_cmpI .leq ha (li _)]; rfl
  · refine ⟨_, _, rfl, ?_, he⟩; rw [den_not (den_cmpI .leq ha (li _))]; congr 2; rw [← decide_not, decide_eq_decide]; omega
  · refine ⟨_, _, rfl, ?_, he⟩; rw [den_not (den_cmpI .leq ha (li _))]; congr 2; rw [← decide_not, decide_eq_decide]; omega
  · refine ⟨_, _, rfl, ?_, he⟩; rw [den_cmpI .eql ha (li _)]; rfl
  · refine ⟨_, _, rfl, ?_, he⟩; rw [den_not (den_cmpI .eql ha (li _))]; rfl
theorem cmpInt_ok {op : BinOp} {a b : SE} {k : SE → Bool} (he : cmpInt op a b k = true) {kk : IntKind} {m n : Int} (ha : den E a = some (.int kk m)) (hb : den E b = some (.int kk n)) :
    ∃ e r, cmpI op m n = some r ∧ den E e = some (.bool r) ∧ k e = true := by
  unfold cmpInt at he
  split at he
  · rename_i kb c
    have hb' := hb
    simp only [den, Option.some.injEq, Value.int.injEq] at hb'
    obtain ⟨rfl, rfl⟩ := hb'
    exact cmpLit_ok he ha
  · split at he
    · rename_i ka c
      have ha' := ha
      simp only [den, Option.some.injEq, Value.int.injEq] at ha'
      obtain ⟨rfl, rfl⟩ := ha'
      obtain ⟨e, r, h1, h2⟩ := cmpLit_ok he hb
      rw [swapOp_ok] at h1
      exact ⟨e, r, h1, h2⟩
    · unfold cmpSym at he
      split at he <;> try (cases he; done)
      · refine ⟨_, _, rfl, ?_, he⟩; rw [den_not (den_cmpI .leq hb ha)]; congr 2; rw [← decide_not, decide_eq_decide]; omega
      · refine ⟨_, _, rfl, ?_, he⟩; rw [den_cmpI .leq ha hb]; rfl
      · refine ⟨_, _, rfl, ?_, he⟩; rw [den_not (den_cmpI .leq ha hb)]; congr 2; rw [← decide_not, decide_eq_decide]; omega
      · refine ⟨_, _, rfl, ?_, he⟩; rw [den_cmpI .leq hb ha]; rfl
      · rcases bc_or he with ⟨hs, he1⟩ | ⟨_, he⟩
        · have := seEq_ok hs
          subst this
          rw [ha] at hb; cases hb
          exact ⟨.lb true, true, by simp [cmpI], rfl, he1⟩
        · refine ⟨_, _, rfl, ?_, he⟩; rw [den_cmpI .eql ha hb]; rfl
      · rcases bc_or he with ⟨hs, he1⟩ | ⟨_, he⟩
        · have := seEq_ok hs
          subst this
          rw [ha] at hb; cases hb
          exact ⟨.lb false, false, by simp [cmpI], rfl, he1⟩
        · refine ⟨_, _, rfl, ?_, he⟩; rw [den_not (den_cmpI .eql ha hb)]; rfl

/-- other sorts: the expressions themselves -/
noncomputable def cmpOther (fl : Bool) (op : BinOp) (a b : SE) (k : SE → Bool) : Bool := match op with
  | .eql => bc (bc fl false (seEq a b)) (k (.lb true)) (match a with | .ls _ _ => k (.cmp .eql b a) | a => k (.cmp .eql a b))
  | .neq => bc (bc fl false (seEq a b)) (k (.lb false)) (match a with | .ls _ _ => k (.not (.cmp .eql b a)) | a => k (.not (.cmp .eql a b)))
  | op => k (.cmp op a b)

theorem binOp_cmp {P : Program} {op : BinOp} {t : TypeId} {X Y : Value} {r : Bool} (hb : ∀ x, X ≠ .bool x) (hc : cmpV op X Y = some r) : (binOp op t X Y).run P w = .ok (.bool r) w := by
  cases X <;> cases Y <;> simp only [cmpV] at hc <;> try (cases hc; done)
  · exact absurd rfl (hb _)
  · rename_i k a k' b
    by_cases hk : k = k'
    · subst hk
      simp only [if_true] at hc
      cases op <;> simp only [cmpI] at hc <;> (try (cases hc; done)) <;> simp [binOp, Op.intCmp] <;> simpa using hc
    · simp only [hk, if_false] at hc; cases hc
  · rename_i k a k' b
    cases k <;> cases k' <;> simp only at hc <;> try (cases hc; done)
    cases op <;> simp only [cmpF] at hc <;> (try (cases hc; done)) <;> simp [binOp, Op.floatCmp] <;> simpa using hc
  · cases op <;> simp only [cmpS] at hc <;> (try (cases hc; done)) <;> simp [binOp, Op.stringOp] <;> simpa using hc

/-- two operands held against each other; the sort's number goes along -/
noncomputable def symE (op : BinOp) (x y : AV) (k : Nat → SE → Bool) : Bool := bc (cmpOp op) (seK x fun c a => seK y fun d b => bc (Nat.beq c d)
  (match c with
    | 0 => (match op with | .eql => bc (seEq a b) (k 0 (.lb true)) (k 0 (.cmp .eql a b)) | _ => false)
    | 1 => (match x, y with
      | .x (.i k1) _, .x (.i k2) _ => bc (Nat.beq (kc k1) (kc k2)) (cmpInt op a b (k 1)) false
      | .x (.i k1) _, .i k2 _ => bc (Nat.beq (kc k1) (kc k2)) (cmpInt op a b (k 1)) false
      | .i k1 _, .x (.i k2) _ => bc (Nat.beq (kc k1) (kc k2)) (cmpInt op a b (k 1)) false
      | _, _ => false)
    | 2 => cmpOther true op a b (k 2)
    | 3 => cmpOther false op a b (k 3)
    | _ => false) false) false

theorem cmpOther_ok {fl : Bool} {op : BinOp} {a b : SE} {k : SE → Bool} (he : cmpOther fl op a b k = true) {X Y : Value} {r : Bool} (ha : den E a = some X) (hb : den E b = some Y) (hc : cmpV op X Y = some r)
    (hn : cmpV .neq X Y = (cmpV .eql X Y).map not) (hs : ∀ s, X = .string s → cmpV .eql X Y = cmpV .eql Y X) (hr : fl = false → X = Y → cmpV .eql X Y = some true) : ∃ e, den E e = some (.bool r) ∧ k e = true := by
  have nt : ∀ {e : SE} {r : Bool}, den E e = some (.bool r) → den E (.not e) = some (.bool !r) := fun h => by simp only [den, h]
  have same : bc fl false (seEq a b) = true → cmpV .eql X Y = some true := fun h => by
    rcases bc_or h with ⟨_, hh⟩ | ⟨h1, h2⟩
    · cases hh
    have := seEq_ok h2
    subst this
    rw [ha] at hb; cases hb
    exact hr h1 rfl
  unfold cmpOther at he
  split at he
  · rcases bc_or he with ⟨h1, he⟩ | ⟨_, he⟩
    · have := same h1
      rw [hc] at this; cases this
      exact ⟨.lb true, rfl, he⟩
    · split at he
      · exact ⟨_, by simp only [den] at ha ⊢; rw [hb]; cases ha; simp only; rw [← hs _ rfl, hc]; rfl, he⟩
      · exact ⟨_, by simp only [den, ha, hb, hc, Option.map_some], he⟩
  · rw [hn] at hc
    cases hq : cmpV .eql X Y with
    | none => rw [hq] at hc; cases hc
    | some q =>
      rw [hq] at hc
      simp only [Option.map_some, Option.some.injEq] at hc
      subst hc
      rcases bc_or he with ⟨h1, he⟩ | ⟨_, he⟩
      · have := same h1
        rw [hq] at this; cases this
        exact ⟨.lb false, rfl, he⟩
      · split at he
        · refine ⟨_, nt (r := q) ?_, he⟩
          simp only [den] at ha ⊢; rw [hb]; cases ha; simp only; rw [← hs _ rfl, hq]; rfl
        · exact ⟨_, nt (r := q) (by simp only [den, ha, hb, hq, Option.map_some]), he⟩
  · exact ⟨_, by simp only [den, ha, hb, hc, Option.map_some], he⟩

theorem cmpV_neq (X Y : Value) : cmpV .neq X Y = (cmpV .eql X Y).map not ∨ ∃ x, X = .bool x := by
  cases X <;> cases Y <;> simp only [cmpV, Option.map_none, true_or] <;> try (left; rfl)
  · right; exact ⟨_, rfl⟩
  · left
    rename_i k a k' b
    by_cases hk : k = k'
    · simp only [hk, if_true]; rfl
    · simp only [hk, if_false]; rfl
  · left
    rename_i k a k' b
    cases k <;> cases k' <;> rfl
theorem symE_ok {op : BinOp} {x y : AV} {X Y : Value} {k : Nat → SE → Bool} (he : symE op x y k = true) (rx : Rv E x X) (ry : Rv E y Y) :
    ∃ c e r, srtC c X ∧ srtC c Y ∧ c < 4 ∧ (c = 0 → op = .eql) ∧ cmpV op X Y = some r ∧ den E e = some (.bool r) ∧ k c e = true := by
  obtain ⟨hop, he1⟩ := bc_and he
  obtain ⟨c, a, ha, hca, he2⟩ := seK_ok he1 rx
  obtain ⟨d, b, hb, hdb, he3⟩ := seK_ok he2 ry
  obtain ⟨hcd, he4⟩ := bc_and he3
  have hcd := Nat.eq_of_beq_eq_true hcd
  clear he he1 he2 he3
  subst hcd
  match c, hca, hdb, he4 with
  | 0, ⟨p, e1⟩, ⟨q, e2⟩, he =>
    subst e1 e2
    simp only at he
    split at he
    · rcases bc_or he with ⟨hs, he5⟩ | ⟨_, he⟩
      · have := seEq_ok hs
        subst this
        rw [ha] at hb; cases hb
        exact ⟨0, .lb true, true, ⟨_, rfl⟩, ⟨_, rfl⟩, by omega, fun _ => rfl, by simp [cmpV], rfl, he5⟩
      · exact ⟨0, _, p == q, ⟨_, rfl⟩, ⟨_, rfl⟩, by omega, fun _ => rfl, by simp [cmpV], by simp [den, ha, hb, cmpV], he⟩
    · cases he
  | 1, ⟨k1, m, e1⟩, ⟨k2, n, e2⟩, he =>
    subst e1 e2
    have go : k1 = k2 → cmpInt op a b (k 1) = true → ∃ c e r, srtC c (.int k1 m) ∧ srtC c (.int k2 n) ∧ c < 4 ∧ (c = 0 → op = .eql) ∧ cmpV op (.int k1 m) (.int k2 n) = some r ∧ den E e = some (.bool r) ∧ k c e = true := by
      intro hk he
      subst hk
      obtain ⟨e, r, h1, h2, h3⟩ := cmpInt_ok he ha hb
      exact ⟨1, e, r, ⟨_, _, rfl⟩, ⟨_, _, rfl⟩, by omega, (fun h => absurd h (by decide)), by simp [cmpV, h1], h2, h3⟩
    simp only at he
    split at he
    · obtain ⟨h1, he5⟩ := bc_and he
      simp only [Rv, hasS] at rx ry
      obtain ⟨_, _, h4, _⟩ := rx
      obtain ⟨_, _, h5, _⟩ := ry
      cases h4; cases h5
      exact go (kc_inj h1) he5
    · obtain ⟨h1, he5⟩ := bc_and he
      simp only [Rv, hasS] at rx ry
      obtain ⟨_, _, h4, _⟩ := rx
      cases h4; cases ry
      exact go (kc_inj h1) he5
    · obtain ⟨h1, he5⟩ := bc_and he
      simp only [Rv, hasS] at rx ry
      obtain ⟨_, _, h5, _⟩ := ry
      cases rx; cases h5
      exact go (kc_inj h1) he5
    · cases he
  | 2, ⟨m, e1⟩, ⟨n, e2⟩, he =>
    subst e1 e2
    obtain ⟨r, hr⟩ : ∃ r, cmpV op (.float .f64 m) (.float .f64 n) = some r := by
      cases op <;> simp only [cmpOp, Bool.false_eq_true] at hop <;> exact ⟨_, rfl⟩
    obtain ⟨e, h1, h2⟩ := cmpOther_ok he ha hb hr rfl (fun _ h => by cases h) (fun h => by cases h)
    exact ⟨2, e, r, ⟨_, rfl⟩, ⟨_, rfl⟩, by omega, (fun h => absurd h (by decide)), hr, h1, h2⟩
  | c + 3, ⟨m, e1⟩, ⟨n, e2⟩, he =>
    subst e1 e2
    match c, he with
    | 0, he =>
      obtain ⟨r, hr⟩ : ∃ r, cmpV op (.string m) (.string n) = some r := by
        cases op <;> simp only [cmpOp, Bool.false_eq_true] at hop <;> exact ⟨_, rfl⟩
      obtain ⟨e, h1, h2⟩ := cmpOther_ok he ha hb hr rfl (fun _ _ => by simp only [cmpV, cmpS]; congr 1; rw [Bool.eq_iff_iff, beq_iff_eq, beq_iff_eq]; exact eq_comm) (fun _ h => by cases h; simp [cmpV, cmpS])
      exact ⟨3, e, r, ⟨_, rfl⟩, ⟨_, rfl⟩, by omega, (fun h => absurd h (by decide)), hr, h1, h2⟩
    | c + 1, he => cases he

noncomputable def symCmp (op : BinOp) (x y : AV) (k : AV → Bool) : Bool := symE op x y fun c e => Nat.rec (motive := fun _ => Bool) false (fun _ _ => k (.x .b e)) c
theorem symCmp_ok {P : Program} {op : BinOp} {t : TypeId} {x y : AV} {X Y : Value} {k : AV → Bool} (he : symCmp op x y k = true) (rx : Rv E x X) (ry : Rv E y Y) :
    (∃ v W, (binOp op t X Y).run P w = .ok W w ∧ Rv E v W ∧ k v = true) ∧ X ≠ .nilIface ∧ ∀ a, X ≠ .agg a := by
  obtain ⟨c, e, r, h1, _, _, _, h3, h4, h5⟩ := symE_ok he rx ry
  match c, h1, h5 with
  | 0, _, h5 => cases h5
  | c + 1, h1, h5 =>
    have hX : (∀ x, X ≠ .bool x) ∧ X ≠ .nilIface ∧ ∀ a, X ≠ .agg a := by
      match c, h1 with
      | 0, ⟨_, _, h⟩ => subst h; simp
      | 1, ⟨_, h⟩ => subst h; simp
      | _ + 2, ⟨_, h⟩ => subst h; simp
    exact ⟨⟨_, _, binOp_cmp hX.1 h3, by rw [Rv]; exact ⟨h4, _, rfl⟩, h5⟩, hX.2⟩

/-! ### Equality at a type -/
noncomputable def isX (v : AV) : Bool := match v with
  | .x _ _ => true
  | _ => false
noncomputable def srtD (d : TypeDesc) (c : Nat) : Bool := match d with
  | .bool => Nat.beq c 0
  | .int _ => Nat.beq c 1
  | .float _ => Nat.beq c 2
  | .string => Nat.beq c 3
  | _ => false
theorem symEq_run {P : Program} {t : TypeId} {d : TypeDesc} {X Y : Value} {c : Nat} {r : Bool} (hu : P.underlying t = some d) (hd : srtD d c = true) (h1 : srtC c X) (h2 : srtC c Y) (hc : cmpV .eql X Y = some r) (n : Nat) :
    (Op.equalIn (n + 1) t X Y).run P w = .ok r w := by
  cases d <;> simp only [srtD, Bool.false_eq_true] at hd <;> have hd := Nat.eq_of_beq_eq_true hd <;> subst hd
  · obtain ⟨a, rfl⟩ := h1
    obtain ⟨b, rfl⟩ := h2
    simp only [cmpV, Option.some.injEq] at hc
    subst hc
    simp [Op.equalIn, run_underlying' hu]
  · obtain ⟨k, a, rfl⟩ := h1
    obtain ⟨k', b, rfl⟩ := h2
    by_cases hk : k = k'
    · subst hk
      simp only [cmpV, if_true, cmpI, Option.some.injEq] at hc
      subst hc
      simp [Op.equalIn, run_underlying' hu]
    · simp only [cmpV, hk, if_false] at hc; cases hc
  · obtain ⟨a, rfl⟩ := h1
    obtain ⟨b, rfl⟩ := h2
    simp only [cmpV, cmpF, Option.some.injEq] at hc
    subst hc
    simp [Op.equalIn, run_underlying' hu, Op.floatEq]
  · obtain ⟨a, rfl⟩ := h1
    obtain ⟨b, rfl⟩ := h2
    simp only [cmpV, cmpS, Option.some.injEq] at hc
    subst hc
    rw [run_equalIn_string w n t _ _ hu]
end
end Go.Proofs.YtbmekbpgoakkbaaGreatDoor.Vx
