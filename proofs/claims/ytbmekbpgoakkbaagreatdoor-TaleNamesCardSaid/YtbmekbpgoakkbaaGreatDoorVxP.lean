/- The order of a drawn region, chosen and checked. No condition. -/
import Derived.Test.YtbmekbpgoakkbaaGreatDoorVxO
set_option linter.unusedVariables false
set_option linter.unusedSimpArgs false
set_option linter.constructorNameAsVariable false
set_option linter.unusedSectionVars false
namespace Go.Proofs.YtbmekbpgoakkbaaGreatDoor.Vx
open Go

structure Inf where
  i : Nat
  o : Oper
  k : Nat
  d : Nat
  b : Nat
  pre : List Nat      -- new blocks that may be made from here on

def bitB (m i : Nat) : Bool := Nat.beq (Nat.mod (Nat.shiftRight m i) 2) 1
def subB (x y : Nat) : Bool := Nat.beq (Nat.land x y) x
def addB (m i : Nat) : Nat := Nat.lor m (Nat.shiftLeft 1 i)

theorem bitB_iff {m i : Nat} : bitB m i = true ↔ m.testBit i = true := by
  unfold bitB
  rw [Nat.beq_eq, Nat.testBit_eq_decide_div_mod_eq, decide_eq_true_iff]
  show m >>> i % 2 = 1 ↔ _
  rw [Nat.shiftRight_eq_div_pow]
theorem subB_iff {x y : Nat} : subB x y = true ↔ ∀ t, x.testBit t = true → y.testBit t = true := by
  unfold subB
  rw [Nat.beq_eq]
  show x &&& y = x ↔ _
  constructor
  · intro h t ht
    have := congrArg (fun n => n.testBit t) h
    simp only [Nat.testBit_and, ht, Bool.true_and] at this
    exact this
  · intro h
    apply Nat.eq_of_testBit_eq
    intro t
    rw [Nat.testBit_and]
    cases hx : x.testBit t
    · rfl
    · rw [h t hx]; rfl
theorem addB_bit {m i j : Nat} : (addB m i).testBit j = (m.testBit j || decide (i = j)) := by
  unfold addB
  show (m ||| 1 <<< i).testBit j = _
  rw [Nat.testBit_or, Nat.one_shiftLeft, Nat.testBit_two_pow]

def dirM (es : List Edge) : Nat := es.foldr (fun e s => bif Region.binds .any e then addB s e.on else s) 0
def lookB (l : List Inf) (t : Nat) : Nat := l.foldr (fun x s => bif Nat.beq x.i t then x.b else s) 0
def befM (prev : List Inf) (es : List Edge) : Nat := es.foldr (fun e s => bif Region.binds .any e then Nat.lor (addB s e.on) (lookB prev e.on) else s) 0
def infs (kd : Oper → Nat) : List Oper → Nat → List Inf → List Inf
  | [], _, prev => prev
  | o :: l, j, prev => infs kd l (j + 1) (⟨j, o, kd o, dirM o.after.toList, befM prev o.after.toList, []⟩ :: prev)

structure InfOK (ops : Array Oper) (x : Inf) : Prop where
  op : ops[x.i]? = some x.o
  dir : ∀ t, x.d.testBit t = true ↔ Dir ops x.i t
  bef : ∀ t, x.b.testBit t = true → Reach ops x.i t

theorem dirM_iff {es : List Edge} {t : Nat} : (dirM es).testBit t = true ↔ ∃ e ∈ es, Region.binds .any e = true ∧ e.on = t := by
  induction es with
  | nil => simp [dirM]
  | cons e es ih =>
    show (bif Region.binds .any e then addB (dirM es) e.on else dirM es).testBit t = true ↔ _
    cases hb : Region.binds .any e
    · simp only [cond_false, ih, List.mem_cons]
      constructor
      · rintro ⟨e', h1, h2, h3⟩; exact ⟨e', .inr h1, h2, h3⟩
      · rintro ⟨e', h1 | h1, h2, h3⟩
        · subst h1; rw [hb] at h2; cases h2
        · exact ⟨e', h1, h2, h3⟩
    · simp only [cond_true, addB_bit, Bool.or_eq_true, ih, List.mem_cons, decide_eq_true_iff]
      constructor
      · rintro (⟨e', h1, h2, h3⟩ | h)
        · exact ⟨e', .inr h1, h2, h3⟩
        · exact ⟨e, .inl rfl, hb, h⟩
      · rintro ⟨e', h1 | h1, h2, h3⟩
        · subst h1; exact .inr h3
        · exact .inl ⟨e', h1, h2, h3⟩

theorem lookB_sound {ops : Array Oper} {l : List Inf} (hl : ∀ x ∈ l, InfOK ops x) {k t : Nat} (h : (lookB l k).testBit t = true) : Reach ops k t := by
  induction l with
  | nil => simp [lookB] at h
  | cons x l ih =>
    have h : (bif Nat.beq x.i k then x.b else lookB l k).testBit t = true := h
    cases hb : Nat.beq x.i k
    · rw [hb] at h; exact ih (fun y hy => hl y (by simp [hy])) h
    · rw [hb] at h
      have := Nat.eq_of_beq_eq_true hb
      subst this
      exact (hl x (by simp)).bef t h

theorem befM_sound {ops : Array Oper} {l : List Inf} (hl : ∀ x ∈ l, InfOK ops x) {j : Nat} {es : List Edge} (hes : ∀ e ∈ es, Region.binds .any e = true → Dir ops j e.on) {t : Nat} (h : (befM l es).testBit t = true) : Reach ops j t := by
  induction es with
  | nil => simp [befM] at h
  | cons e es ih =>
    have h : (bif Region.binds .any e then Nat.lor (addB (befM l es) e.on) (lookB l e.on) else befM l es).testBit t = true := h
    have ih := ih (fun e he => hes e (by simp [he]))
    cases hb : Region.binds .any e
    · rw [hb] at h; exact ih h
    · rw [hb] at h
      have h : (addB (befM l es) e.on ||| lookB l e.on).testBit t = true := h
      rw [Nat.testBit_or, Bool.or_eq_true, addB_bit, Bool.or_eq_true, decide_eq_true_iff] at h
      have d := hes e (by simp) hb
      rcases h with (h | h) | h
      · exact ih h
      · subst h; exact .one d
      · exact .more d (lookB_sound hl h)

theorem infs_ok {kd : Oper → Nat} {ops : Array Oper} : ∀ (l : List Oper) (j : Nat) (prev : List Inf), l = ops.toList.drop j → (∀ x ∈ prev, InfOK ops x) → ∀ x ∈ infs kd l j prev, InfOK ops x
  | [], _, prev, _, hp => hp
  | o :: l, j, prev, hl, hp => by
    have hoj : ops[j]? = some o := by
      have := congrArg (fun l => l[0]?) hl
      simpa using this.symm
    have hl' : l = ops.toList.drop (j + 1) := by
      have := congrArg List.tail hl
      simpa using this
    refine infs_ok l (j + 1) _ hl' ?_
    intro x hx
    rcases List.mem_cons.1 hx with rfl | hx
    · refine ⟨hoj, fun t => ?_, fun t h => ?_⟩
      · show (dirM o.after.toList).testBit t = true ↔ _
        rw [dirM_iff]
        constructor
        · rintro ⟨e, h1, h2, h3⟩; exact ⟨o, hoj, e, by simpa using h1, h2, h3⟩
        · rintro ⟨o', ho', e, h1, h2, h3⟩
          rw [hoj] at ho'; cases ho'
          exact ⟨e, by simpa using h1, h2, h3⟩
      · exact befM_sound hp (fun e he hb => ⟨o, hoj, e, by simpa using he, hb, rfl⟩) h
    · exact hp x hx

/-- an alloc that may be done at any time -/
def lazyOp (P : Program) (nt : Nat) (o : Oper) : Bool := match o.op with
  | .alloc t => (match P.info? t with
    | some i => i.zero.isSome && (o.guard.isNone && (match o.dst with | some d => Nat.ble (d + 1) nt | none => false))
    | none => false)
  | _ => false

theorem lazyOp_ok {P : Program} {nt : Nat} {o : Oper} (h : lazyOp P nt o = true) : ∃ t i z d, o.op = .alloc t ∧ P.info? t = some i ∧ i.zero = some z ∧ o.guard = none ∧ o.dst = some d ∧ d < nt := by
  unfold lazyOp at h
  split at h <;> try (cases h; done)
  rename_i t ht
  split at h <;> try (cases h; done)
  rename_i i hi
  simp only [Bool.and_eq_true] at h
  obtain ⟨h1, h2, h3⟩ := h
  obtain ⟨z, hz⟩ := Option.isSome_iff_exists.1 h1
  split at h3
  · rename_i d hd
    exact ⟨t, i, z, d, ht, hi, hz, by simpa using h2, hd, Nat.le_of_ble_eq_true h3⟩
  · cases h3

/-- an operation that pushes just one block -/
def newOp (nt : Nat) (o : Oper) : Bool := (match o.op with
  | .alloc _ | .buildSlice .. | .makeSlice .. | .makeMap _ none => true
  | .binOp .quo .. => true
  | _ => false) && (match o.dst with | some d => Nat.ble (d + 1) nt | none => false)

theorem newOp_dst {nt : Nat} {o : Oper} (h : newOp nt o = true) : ∃ d, o.dst = some d ∧ d < nt := by
  unfold newOp at h
  rw [Bool.and_eq_true] at h
  obtain ⟨_, h⟩ := h
  split at h
  · rename_i d hd; exact ⟨d, hd, Nat.le_of_ble_eq_true h⟩
  · cases h

/-- it doesn't look at where it writes -/
def selfOK (ops : Array Oper) (o : Oper) : Bool := match o.dst with | some d => !((o.looksAt ops).contains d) | none => true
theorem selfOK_ok {ops : Array Oper} {o : Oper} (h : selfOK ops o = true) : ∀ d, o.dst = some d → d ∉ o.looksAt ops := by
  intro d hd
  unfold selfOK at h
  rw [hd] at h
  simpa using h

def addL (m : Nat) (l : List Nat) : Nat := l.foldr (fun j s => addB s j) m
theorem addL_bit {l : List Nat} {m j : Nat} : (addL m l).testBit j = true ↔ m.testBit j = true ∨ j ∈ l := by
  induction l with
  | nil => simp [addL]
  | cons x l ih =>
    show (addB (addL m l) x).testBit j = true ↔ _
    rw [addB_bit, Bool.or_eq_true, ih, decide_eq_true_iff, List.mem_cons]
    constructor
    · rintro ((h | h) | h)
      · exact .inl h
      · exact .inr (.inr h)
      · exact .inr (.inl h.symm)
    · rintro (h | h | h)
      · exact .inl (.inl h)
      · exact .inr h.symm
      · exact .inl (.inr h)

def pick1 (f : Inf → Bool) : List Inf → Option (Inf × List Inf)
  | [] => none
  | x :: l => bif f x then some (x, l) else match pick1 f l with
    | some (y, l') => some (y, x :: l')
    | none => none

theorem pick1_mem {f : Inf → Bool} : ∀ {l : List Inf} {y : Inf} {l' : List Inf}, pick1 f l = some (y, l') → y ∈ l ∧ ∀ z ∈ l', z ∈ l
  | [], _, _, h => by cases h
  | x :: l, y, l', h => by
    unfold pick1 at h
    cases hf : f x
    · rw [hf] at h
      simp only [cond_false] at h
      split at h
      · rename_i y' l'' he
        obtain ⟨h1, h2⟩ := pick1_mem he
        cases h
        exact ⟨by simp [h1], fun z hz => by rcases List.mem_cons.1 hz with rfl | hz <;> simp [*]⟩
      · cases h
    · rw [hf] at h
      simp only [cond_true, Option.some.injEq, Prod.mk.injEq] at h
      obtain ⟨rfl, rfl⟩ := h
      exact ⟨by simp, fun z hz => by simp [hz]⟩

/-- new blocks that could be made now, and of which nothing is known yet -/
def preOf (st : Oper → Bool) (rem : List Inf) (D Pr : Nat) : List Nat :=
  let all := Nat.lor D (rem.foldr (fun z m => bif Nat.beq z.k 4 then addB m z.i else m) 0)
  let may := Nat.lor D (rem.foldr (fun z m => bif Nat.beq z.k 4 then bif (bif bitB Pr z.i then true else st z.o) then bif subB z.d all then addB m z.i else m else m else m) 0)
  rem.foldr (fun y s => bif Nat.beq y.k 4 then bif bitB Pr y.i then s else bif st y.o then s else bif subB y.d may then y.i :: s else s else s) []

def Inf.with_ (x : Inf) (l : List Nat) : Inf := ⟨x.i, x.o, x.k, x.d, x.b, l⟩

/-- would nothing else be ready beside a new block, whatever other blocks are made? -/
def aloneB (rem : List Inf) (D : Nat) (x : Inf) : Bool :=
  let lz := Nat.lor D (rem.foldr (fun z m => bif Nat.beq z.k 4 then (bif Nat.beq z.i x.i then m else addB m z.i) else m) 0)
  let all := Nat.lor D (rem.foldr (fun z m => bif Nat.beq z.k 4 then (bif Nat.beq z.i x.i then m else bif subB z.d lz then addB m z.i else m) else m) 0)
  rem.foldr (fun y b => bif Nat.beq y.k 4 then b else bif subB y.d all then false else b) true

def srch (st : Oper → Bool) : Nat → Nat → Nat → Nat → List Inf → List (Inf × Nat)
  | 0, _, _, _, _ => []
  | n + 1, D, R, Pr, rem => match pick1 (fun x => bif Nat.ble 2 x.k then false else subB x.d D) rem with
    | some (x, rem') => (x, x.k) :: srch st n (addB D x.i) (bif Nat.beq x.k 1 then addB R x.i else R) Pr rem'
    | none => match pick1 (fun x => bif Nat.ble 4 x.k then false else subB x.d D) rem with
      | some (x, rem') => (x.with_ (preOf st rem D Pr), bif subB R x.b then 2 else 3) :: srch st n (addB D x.i) R (addL Pr (preOf st rem D Pr)) rem'
      | none => match pick1 (fun x => bif subB x.d D then aloneB rem D x else false) rem with
        | some (x, rem') => (x.with_ (preOf st rem D Pr), 4) :: srch st n (addB D x.i) R (addL Pr (preOf st rem D Pr)) rem'
        | none => []

theorem srch_mem (st : Oper → Bool) : ∀ (n D R Pr : Nat) (rem : List Inf), ∀ p ∈ srch st n D R Pr rem, ∃ x ∈ rem, ∃ l, p.1 = x.with_ l
  | 0, _, _, _, _, p, h => by cases h
  | n + 1, D, R, Pr, rem, p, h => by
    have self : ∀ x : Inf, x = x.with_ x.pre := fun _ => rfl
    unfold srch at h
    split at h
    · rename_i x rem' hx
      obtain ⟨h1, h2⟩ := pick1_mem hx
      rcases List.mem_cons.1 h with rfl | h
      · exact ⟨x, h1, x.pre, self x⟩
      · obtain ⟨y, hy, e⟩ := srch_mem st n _ _ _ _ p h; exact ⟨y, h2 y hy, e⟩
    · split at h
      · rename_i x rem' hx
        obtain ⟨h1, h2⟩ := pick1_mem hx
        rcases List.mem_cons.1 h with rfl | h
        · exact ⟨x, h1, _, rfl⟩
        · obtain ⟨y, hy, e⟩ := srch_mem st n _ _ _ _ p h; exact ⟨y, h2 y hy, e⟩
      · split at h
        · rename_i x rem' hx
          obtain ⟨h1, h2⟩ := pick1_mem hx
          rcases List.mem_cons.1 h with rfl | h
          · exact ⟨x, h1, _, rfl⟩
          · obtain ⟨y, hy, e⟩ := srch_mem st n _ _ _ _ p h; exact ⟨y, h2 y hy, e⟩
        · cases h

theorem InfOK.with_ {ops : Array Oper} {x : Inf} (h : InfOK ops x) (l : List Nat) : InfOK ops (x.with_ l) := ⟨h.op, h.dir, h.bef⟩

/-- the lazy ones of the list -/
def lazies (l : List (Inf × Nat)) : Nat := l.foldr (fun y s => bif Nat.beq y.2 4 then addB s y.1.i else s) 0

/-- may the new block be made at any time from now on? -/
def rdyL (P : Program) (nt Pr : Nat) (y : Inf) : Bool := bif bitB Pr y.i then true else lazyOp P nt y.o

/-- no new block of the list is written where this one is; where it may be made already, the two stand apart -/
def apartDst (P : Program) (nt : Nat) (ops : Array Oper) (Pr : Nat) (x : Oper) (l : List (Inf × Nat)) : Bool := l.all fun y => bif Nat.beq y.2 4 then
  (match x.dst, y.1.o.dst with | some d, some e => !(Nat.beq d e) | _, _ => true) && (bif rdyL P nt Pr y.1 then x.apart ops y.1.o else true) else true

/-- new blocks of the list that can have been made already -/
def lazR (P : Program) (nt D Pr : Nat) (l : List (Inf × Nat)) : Nat := l.foldr (fun y s => bif Nat.beq y.2 4 then bif rdyL P nt Pr y.1 then bif subB y.1.d (Nat.lor D (lazies l)) then addB s y.1.i else s else s else s) 0

def good (P : Program) (nt : Nat) (ops : Array Oper) (full : Nat) : List (Inf × Nat) → Nat → Nat → Nat → Bool
  | [], D, _, _ => Nat.beq D full
  | (x, m) :: l, D, R, Pr => bif bitB D x.i then false else bif subB x.d D then
      bif (bif Nat.ble 2 m then l.all (fun y => bif Nat.beq y.2 4 then (bif subB y.1.d (Nat.lor D (lazR P nt D (addL Pr x.pre) l)) then rdyL P nt (addL Pr x.pre) y.1 else true) else !subB y.1.d (Nat.lor D (lazR P nt D (addL Pr x.pre) l))) else l.all (fun y => bif bitB y.1.b x.i then true else x.o.apart ops y.1.o)) then
        bif (bif Nat.beq m 2 then subB R x.b else true) then
          bif (bif Nat.beq m 4 then newOp nt x.o && rdyL P nt (addL Pr x.pre) x && selfOK ops x.o else true) then bif apartDst P nt ops (addL Pr x.pre) x.o l then
            good P nt ops full l (addB D x.i) (bif Nat.beq m 1 then addB R x.i else R) (addL Pr x.pre) else false else false else false
      else false
    else false

theorem lazies_bit {l : List (Inf × Nat)} {t : Nat} : (lazies l).testBit t = true ↔ ∃ z ∈ l, z.2 = 4 ∧ z.1.i = t := by
  induction l with
  | nil => simp [lazies]
  | cons y l ih =>
    show (bif Nat.beq y.2 4 then addB (lazies l) y.1.i else lazies l).testBit t = true ↔ _
    cases hb : Nat.beq y.2 4
    · have : y.2 ≠ 4 := fun e => by rw [e] at hb; cases hb
      simp only [cond_false, ih, List.mem_cons]
      constructor
      · rintro ⟨z, h1, h2⟩; exact ⟨z, .inr h1, h2⟩
      · rintro ⟨z, h1 | h1, h2, h3⟩
        · subst h1; exact absurd h2 this
        · exact ⟨z, h1, h2, h3⟩
    · have : y.2 = 4 := Nat.eq_of_beq_eq_true hb
      simp only [cond_true, addB_bit, Bool.or_eq_true, ih, List.mem_cons, decide_eq_true_iff]
      constructor
      · rintro (⟨z, h1, h2⟩ | h)
        · exact ⟨z, .inr h1, h2⟩
        · exact ⟨y, .inl rfl, this, h⟩
      · rintro ⟨z, h1 | h1, h2, h3⟩
        · subst h1; exact .inr h3
        · exact .inl ⟨z, h1, h2, h3⟩

/-- it can have been made already -/
def MayL (P : Program) (nt D Pr : Nat) (l : List (Inf × Nat)) (t : Nat) : Prop :=
  ∃ z ∈ l, z.2 = 4 ∧ rdyL P nt Pr z.1 = true ∧ (∀ t, z.1.d.testBit t = true → D.testBit t = true ∨ ∃ q ∈ l, q.2 = 4 ∧ q.1.i = t) ∧ z.1.i = t

theorem lazR_bit {P : Program} {nt D Pr : Nat} {l : List (Inf × Nat)} {t : Nat} (h : MayL P nt D Pr l t) : (lazR P nt D Pr l).testBit t = true := by
  obtain ⟨z, hz, h4, hr, hd, rfl⟩ := h
  have hs : subB z.1.d (Nat.lor D (lazies l)) = true := subB_iff.2 fun t ht => by
    show (D ||| lazies l).testBit t = true
    rw [Nat.testBit_or, Bool.or_eq_true]
    exact (hd t ht).imp id lazies_bit.2
  have key : ∀ l' : List (Inf × Nat), z ∈ l' → (l'.foldr (fun y s => bif Nat.beq y.2 4 then bif rdyL P nt Pr y.1 then bif subB y.1.d (Nat.lor D (lazies l)) then addB s y.1.i else s else s else s) 0).testBit z.1.i = true := by
    intro l'
    induction l' with
    | nil => intro h; cases h
    | cons q l' ih =>
      intro hq
      rw [List.foldr_cons]
      rcases List.mem_cons.1 hq with rfl | hq
      · have e4 : Nat.beq z.2 4 = true := by rw [h4]; rfl
        rw [e4, hr, hs]
        simp only [cond_true, addB_bit, decide_true, Bool.or_true]
      · have ih := ih hq
        cases Nat.beq q.2 4
        · exact ih
        · cases rdyL P nt Pr q.1
          · exact ih
          · cases subB q.1.d (Nat.lor D (lazies l))
            · exact ih
            · simp only [cond_true, addB_bit, ih, Bool.true_or]
  exact key l hz

structure GoodAt (P : Program) (nt : Nat) (ops : Array Oper) (x : Inf) (m : Nat) (l : List (Inf × Nat)) (D R Pr : Nat) : Prop where
  new : D.testBit x.i = false
  rdy : ∀ t, x.d.testBit t = true → D.testBit t = true
  one : 2 ≤ m → ∀ y ∈ l, (y.2 = 4 ∧ ((∀ t, y.1.d.testBit t = true → D.testBit t = true ∨ MayL P nt D Pr l t) → rdyL P nt Pr y.1 = true)) ∨ ¬ ∀ t, y.1.d.testBit t = true → D.testBit t = true ∨ MayL P nt D Pr l t
  free : m < 2 → ∀ y ∈ l, y.1.b.testBit x.i = true ∨ x.o.apart ops y.1.o = true
  over : m = 2 → ∀ t, R.testBit t = true → x.b.testBit t = true
  lazy_ : m = 4 → (newOp nt x.o = true ∧ rdyL P nt Pr x = true) ∧ selfOK ops x.o = true
  dst : ∀ y ∈ l, y.2 = 4 → ∀ d, y.1.o.dst = some d → x.o.dst ≠ some d
  apt : ∀ y ∈ l, y.2 = 4 → rdyL P nt Pr y.1 = true → x.o.apart ops y.1.o = true

theorem good_cons {P : Program} {nt : Nat} {ops : Array Oper} {full : Nat} {x : Inf} {m : Nat} {l : List (Inf × Nat)} {D R Pr : Nat} (h : good P nt ops full ((x, m) :: l) D R Pr = true) :
    GoodAt P nt ops x m l D R (addL Pr x.pre) ∧ good P nt ops full l (addB D x.i) (bif Nat.beq m 1 then addB R x.i else R) (addL Pr x.pre) = true := by
  unfold good at h
  cases h1 : bitB D x.i
  case true => rw [h1] at h; cases h
  cases h2 : subB x.d D
  case false => rw [h1, h2] at h; cases h
  cases h3 : (bif Nat.ble 2 m then l.all (fun y => bif Nat.beq y.2 4 then (bif subB y.1.d (Nat.lor D (lazR P nt D (addL Pr x.pre) l)) then rdyL P nt (addL Pr x.pre) y.1 else true) else !subB y.1.d (Nat.lor D (lazR P nt D (addL Pr x.pre) l))) else l.all (fun y => bif bitB y.1.b x.i then true else x.o.apart ops y.1.o))
  case false => rw [h1, h2, h3] at h; cases h
  cases h4 : (bif Nat.beq m 2 then subB R x.b else true)
  case false => rw [h1, h2, h3, h4] at h; cases h
  cases h5 : (bif Nat.beq m 4 then newOp nt x.o && rdyL P nt (addL Pr x.pre) x && selfOK ops x.o else true)
  case false => rw [h1, h2, h3, h4, h5] at h; cases h
  cases h6 : apartDst P nt ops (addL Pr x.pre) x.o l
  case false => rw [h1, h2, h3, h4, h5, h6] at h; cases h
  rw [h1, h2, h3, h4, h5, h6] at h
  have hsub : ∀ y : Inf, (∀ t, y.d.testBit t = true → D.testBit t = true ∨ MayL P nt D (addL Pr x.pre) l t) → subB y.d (Nat.lor D (lazR P nt D (addL Pr x.pre) l)) = true := fun y hall => subB_iff.2 fun t ht => by
    show (D ||| lazR P nt D (addL Pr x.pre) l).testBit t = true
    rw [Nat.testBit_or, Bool.or_eq_true]
    exact (hall t ht).imp id lazR_bit
  refine ⟨⟨?_, subB_iff.1 h2, ?_, ?_, ?_, ?_, ?_, ?_⟩, h⟩
  · cases hb : D.testBit x.i
    · rfl
    · rw [bitB_iff.2 hb] at h1; cases h1
  · intro hm y hy
    rw [Nat.ble_eq_true_of_le hm] at h3
    have := List.all_eq_true.1 h3 y hy
    cases hb : Nat.beq y.2 4
    · rw [hb] at this
      refine .inr fun hall => ?_
      rw [hsub y.1 hall] at this
      cases this
    · rw [hb] at this
      refine .inl ⟨Nat.eq_of_beq_eq_true hb, fun hall => ?_⟩
      rw [hsub y.1 hall] at this
      exact this
  · intro hm y hy
    have : Nat.ble 2 m = false := by
      cases hb : Nat.ble 2 m
      · rfl
      · have := Nat.le_of_ble_eq_true hb; omega
    rw [this] at h3
    have := List.all_eq_true.1 h3 y hy
    cases hb : bitB y.1.b x.i
    · rw [hb] at this; exact .inr this
    · exact .inl (bitB_iff.1 hb)
  · rintro rfl
    exact subB_iff.1 h4
  · rintro rfl
    have h5 : (newOp nt x.o && rdyL P nt (addL Pr x.pre) x && selfOK ops x.o) = true := h5
    rwa [Bool.and_eq_true, Bool.and_eq_true] at h5
  · intro y hy hm d hd hx
    have := List.all_eq_true.1 h6 y hy
    rw [hm, hx, hd] at this
    have e : Nat.beq d d = true := Nat.beq_refl d
    simp [e] at this
  · intro y hy hm hr
    have := List.all_eq_true.1 h6 y hy
    rw [hm, hr] at this
    have this : (_ && x.o.apart ops y.1.o) = true := this
    rw [Bool.and_eq_true] at this
    exact this.2

theorem rdyL_mono {P : Program} {nt Pr : Nat} {l : List Nat} {y : Inf} (h : rdyL P nt Pr y = true) : rdyL P nt (addL Pr l) y = true := by
  unfold rdyL at *
  cases hb : bitB Pr y.i
  · rw [hb] at h
    cases bitB (addL Pr l) y.i
    · exact h
    · rfl
  · rw [bitB_iff.2 (addL_bit.2 (.inl (bitB_iff.1 hb)))]; rfl

theorem good_cover {P : Program} {nt : Nat} {ops : Array Oper} {n : Nat} : ∀ (l : List (Inf × Nat)) (D R Pr : Nat), good P nt ops (2 ^ n - 1) l D R Pr = true → ∀ j, j < n → D.testBit j = true ∨ ∃ y ∈ l, y.1.i = j
  | [], D, R, _, h, j, hj => by
    have : D = 2 ^ n - 1 := Nat.eq_of_beq_eq_true h
    subst this
    left
    rw [Nat.testBit_two_pow_sub_one]; simpa using hj
  | (x, m) :: l, D, R, Pr, h, j, hj => by
    obtain ⟨_, h⟩ := good_cons h
    rcases good_cover l _ _ _ h j hj with h | ⟨y, hy, e⟩
    · rw [addB_bit, Bool.or_eq_true, decide_eq_true_iff] at h
      rcases h with h | h
      · exact .inl h
      · exact .inr ⟨(x, m), by simp, h⟩
    · exact .inr ⟨y, by simp [hy], e⟩

/-- the indices of the rest are new -/
theorem good_new {P : Program} {nt : Nat} {ops : Array Oper} {full : Nat} : ∀ (l : List (Inf × Nat)) (D R Pr : Nat), good P nt ops full l D R Pr = true → ∀ y ∈ l, D.testBit y.1.i = false
  | [], _, _, _, _, y, hy => by cases hy
  | (x, m) :: l, D, R, Pr, h, y, hy => by
    obtain ⟨g, h⟩ := good_cons h
    rcases List.mem_cons.1 hy with rfl | hy
    · exact g.new
    · have := good_new l _ _ _ h y hy
      rw [addB_bit, Bool.or_eq_false_iff] at this
      exact this.1

theorem good_ne {P : Program} {nt : Nat} {ops : Array Oper} {full : Nat} {x : Inf} {m : Nat} {l : List (Inf × Nat)} {D R Pr : Nat} (h : good P nt ops full ((x, m) :: l) D R Pr = true) : ∀ y ∈ l, y.1.i ≠ x.i := by
  obtain ⟨_, h⟩ := good_cons h
  intro y hy e
  have := good_new l _ _ _ h y hy
  rw [addB_bit, e] at this
  simp at this
theorem good_lazy {P : Program} {nt : Nat} {ops : Array Oper} {full : Nat} : ∀ (l : List (Inf × Nat)) (D R Pr : Nat), good P nt ops full l D R Pr = true → ∀ y ∈ l, y.2 = 4 → newOp nt y.1.o = true
  | [], _, _, _, _, y, hy => by cases hy
  | (x, m) :: l, D, R, Pr, h, y, hy => by
    obtain ⟨g, h⟩ := good_cons h
    rcases List.mem_cons.1 hy with rfl | hy
    · exact fun h4 => (g.lazy_ h4).1.1
    · exact good_lazy l _ _ _ h y hy

theorem good_inj {P : Program} {nt : Nat} {ops : Array Oper} {full : Nat} : ∀ (l : List (Inf × Nat)) (D R Pr : Nat), good P nt ops full l D R Pr = true → ∀ y ∈ l, ∀ z ∈ l, y.1.i = z.1.i → y = z
  | [], _, _, _, _, y, hy => by cases hy
  | (x, m) :: l, D, R, Pr, h, y, hy => by
    have hne := good_ne h
    obtain ⟨g, h⟩ := good_cons h
    intro z hz e
    rcases List.mem_cons.1 hy with rfl | hy <;> rcases List.mem_cons.1 hz with rfl | hz
    · rfl
    · exact absurd e.symm (hne z hz)
    · exact absurd e (hne y hy)
    · exact good_inj l _ _ _ h y hy z hz e

theorem good_dst {P : Program} {nt : Nat} {ops : Array Oper} {full : Nat} : ∀ (l : List (Inf × Nat)) (D R Pr : Nat), good P nt ops full l D R Pr = true → ∀ y ∈ l, ∀ z ∈ l, y.2 = 4 → z.2 = 4 → y.1.i ≠ z.1.i → ∀ d, y.1.o.dst = some d → z.1.o.dst ≠ some d
  | [], _, _, _, _, y, hy => by cases hy
  | (x, m) :: l, D, R, Pr, h, y, hy => by
    obtain ⟨g, h⟩ := good_cons h
    intro z hz hy4 hz4 ne d hd hd'
    rcases List.mem_cons.1 hy with rfl | hy <;> rcases List.mem_cons.1 hz with rfl | hz
    · exact ne rfl
    · exact g.dst z hz hz4 d hd' hd
    · exact g.dst y hy hy4 d hd hd'
    · exact good_dst l _ _ _ h y hy z hz hy4 hz4 ne d hd hd'

/-- one early alloc more: one operation less to do -/
theorem good_count {P : Program} {nt : Nat} {ops : Array Oper} {full : Nat} {α : Type} {EA : Nat → Option α} {b : α} : ∀ (l : List (Inf × Nat)) (D R Pr : Nat), good P nt ops full l D R Pr = true → ∀ y ∈ l, EA y.1.i = none →
    (l.filter fun p => ((fun j => if j = y.1.i then some b else EA j) p.1.i : Option α).isNone).length + 1 = (l.filter fun p => (EA p.1.i).isNone).length
  | [], _, _, _, _, y, hy, _ => by cases hy
  | (x, m) :: l, D, R, Pr, h, y, hy, he => by
    have hne := good_ne h
    obtain ⟨g, h⟩ := good_cons h
    rcases List.mem_cons.1 hy with rfl | hy
    · rw [List.filter_cons, List.filter_cons]
      simp only [if_true, Option.isNone_some, he, Option.isNone_none, List.length_cons]
      rw [if_neg (by simp)]
      congr 2
      refine List.filter_congr fun z hz => ?_
      simp [hne z hz]
    · have ih := good_count (b := b) l _ _ _ h y hy he
      have : x.i ≠ y.1.i := fun e => hne y hy e.symm
      rw [List.filter_cons, List.filter_cons]
      simp only [this, if_false]
      dsimp only at ih
      split
      · simp only [List.length_cons]
        generalize hc : (l.filter fun p => (if p.1.i = y.1.i then some b else EA p.1.i).isNone).length = c1 at ih ⊢
        omega
      · exact ih
theorem good_self {P : Program} {nt : Nat} {ops : Array Oper} {full : Nat} : ∀ (l : List (Inf × Nat)) (D R Pr : Nat), good P nt ops full l D R Pr = true → ∀ y ∈ l, y.2 = 4 → selfOK ops y.1.o = true
  | [], _, _, _, _, y, hy => by cases hy
  | (x, m) :: l, D, R, Pr, h, y, hy => by
    obtain ⟨g, h⟩ := good_cons h
    rcases List.mem_cons.1 hy with rfl | hy
    · exact fun h4 => (g.lazy_ h4).2
    · exact good_self l _ _ _ h y hy

/-- two new blocks that may be made already stand apart -/
theorem good_apt {P : Program} {nt : Nat} {ops : Array Oper} {full : Nat} : ∀ (l : List (Inf × Nat)) (D R Pr : Nat), good P nt ops full l D R Pr = true → ∀ y ∈ l, ∀ z ∈ l, y.2 = 4 → z.2 = 4 → rdyL P nt Pr y.1 = true → rdyL P nt Pr z.1 = true → y.1.i ≠ z.1.i → ∀ d, y.1.o.dst = some d → d ∉ z.1.o.looksAt ops
  | [], _, _, _, _, y, hy => by cases hy
  | (x, m) :: l, D, R, Pr, h, y, hy => by
    obtain ⟨g, h⟩ := good_cons h
    intro z hz hy4 hz4 ry rz ne d hd
    rcases List.mem_cons.1 hy with rfl | hy <;> rcases List.mem_cons.1 hz with rfl | hz
    · exact absurd rfl ne
    · exact (Oper.apart_spec (g.apt z hz hz4 (rdyL_mono rz))).1 d hd
    · exact (Oper.apart_spec (g.apt y hy hy4 (rdyL_mono ry))).2.2 d hd
    · exact good_apt l _ _ _ h y hy z hz hy4 hz4 (rdyL_mono ry) (rdyL_mono rz) ne d hd
end Go.Proofs.YtbmekbpgoakkbaaGreatDoor.Vx
