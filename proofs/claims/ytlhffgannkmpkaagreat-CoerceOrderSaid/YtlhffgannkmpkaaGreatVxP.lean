/- The order of a drawn region, chosen and checked. No condition. -/
import Derived.Test.YtlhffgannkmpkaaGreatVxO
set_option linter.unusedVariables false
set_option linter.unusedSimpArgs false
namespace Go.Proofs.YtlhffgannkmpkaaGreat.Vx
open Go

structure Inf where
  i : Nat
  o : Oper
  k : Nat
  d : Nat
  b : Nat

def bitB (m i : Nat) : Bool := Nat.beq (Nat.mod (Nat.shiftRight m i) 2) 1
def subB (x y : Nat) : Bool := Nat.beq (Nat.land x y) x
def addB (m i : Nat) : Nat := Nat.lor m (Nat.shiftLeft 1 i)

theorem bitB_iff {m i : Nat} : bitB m i = true ↔ m.testBit i = true := by
  unfold bitB
  rw [Nat.beq_eq, Nat.testBit_eq_decide_div_mod_eq, decide_eq_true_iff]
  show m >>> i % 2 = 1 ↔ _
  rw [Nat.shiftRight_eq_div_pow]
theorem subB_iff {x y : Nat} : subB x y = true ↔ ∀ t, x.testBit t = true → y.testBit t = true := by
  unfold subB
  rw [Nat.beq_eq]
  show x &&& y = x ↔ _
  constructor
  · intro h t ht
    have := congrArg (fun n => n.testBit t) h
    simp only [Nat.testBit_and, ht, Bool.true_and] at this
    exact this
  · intro h
    apply Nat.eq_of_testBit_eq
    intro t
    rw [Nat.testBit_and]
    cases hx : x.testBit t
    · rfl
    · rw [h t hx]; rfl
theorem addB_bit {m i j : Nat} : (addB m i).testBit j = (m.testBit j || decide (i = j)) := by
  unfold addB
  show (m ||| 1 <<< i).testBit j = _
  rw [Nat.testBit_or, Nat.one_shiftLeft, Nat.testBit_two_pow]

def dirM (es : List Edge) : Nat := es.foldr (fun e s => bif Region.binds .any e then addB s e.on else s) 0
def lookB (l : List Inf) (t : Nat) : Nat := l.foldr (fun x s => bif Nat.beq x.i t then x.b else s) 0
def befM (prev : List Inf) (es : List Edge) : Nat := es.foldr (fun e s => bif Region.binds .any e then Nat.lor (addB s e.on) (lookB prev e.on) else s) 0
def infs (kd : Oper → Nat) : List Oper → Nat → List Inf → List Inf
  | [], _, prev => prev
  | o :: l, j, prev => infs kd l (j + 1) (⟨j, o, kd o, dirM o.after.toList, befM prev o.after.toList⟩ :: prev)

structure InfOK (ops : Array Oper) (x : Inf) : Prop where
  op : ops[x.i]? = some x.o
  dir : ∀ t, x.d.testBit t = true ↔ Dir ops x.i t
  bef : ∀ t, x.b.testBit t = true → Reach ops x.i t

theorem dirM_iff {es : List Edge} {t : Nat} : (dirM es).testBit t = true ↔ ∃ e ∈ es, Region.binds .any e = true ∧ e.on = t := by
  induction es with
  | nil => simp [dirM]
  | cons e es ih =>
    show (bif Region.binds .any e then addB (dirM es) e.on else dirM es).testBit t = true ↔ _
    cases hb : Region.binds .any e
    · simp only [cond_false, ih, List.mem_cons]
      constructor
      · rintro ⟨e', h1, h2, h3⟩; exact ⟨e', .inr h1, h2, h3⟩
      · rintro ⟨e', h1 | h1, h2, h3⟩
        · subst h1; rw [hb] at h2; cases h2
        · exact ⟨e', h1, h2, h3⟩
    · simp only [cond_true, addB_bit, Bool.or_eq_true, ih, List.mem_cons, decide_eq_true_iff]
      constructor
      · rintro (⟨e', h1, h2, h3⟩ | h)
        · exact ⟨e', .inr h1, h2, h3⟩
        · exact ⟨e, .inl rfl, hb, h⟩
      · rintro ⟨e', h1 | h1, h2, h3⟩
        · subst h1; exact .inr h3
        · exact .inl ⟨e', h1, h2, h3⟩

theorem lookB_sound {ops : Array Oper} {l : List Inf} (hl : ∀ x ∈ l, InfOK ops x) {k t : Nat} (h : (lookB l k).testBit t = true) : Reach ops k t := by
  induction l with
  | nil => simp [lookB] at h
  | cons x l ih =>
    have h : (bif Nat.beq x.i k then x.b else lookB l k).testBit t = true := h
    cases hb : Nat.beq x.i k
    · rw [hb] at h; exact ih (fun y hy => hl y (by simp [hy])) h
    · rw [hb] at h
      have := Nat.eq_of_beq_eq_true hb
      subst this
      exact (hl x (by simp)).bef t h

theorem befM_sound {ops : Array Oper} {l : List Inf} (hl : ∀ x ∈ l, InfOK ops x) {j : Nat} {es : List Edge} (hes : ∀ e ∈ es, Region.binds .any e = true → Dir ops j e.on) {t : Nat} (h : (befM l es).testBit t = true) : Reach ops j t := by
  induction es with
  | nil => simp [befM] at h
  | cons e es ih =>
    have h : (bif Region.binds .any e then Nat.lor (addB (befM l es) e.on) (lookB l e.on) else befM l es).testBit t = true := h
    have ih := ih (fun e he => hes e (by simp [he]))
    cases hb : Region.binds .any e
    · rw [hb] at h; exact ih h
    · rw [hb] at h
      have h : (addB (befM l es) e.on ||| lookB l e.on).testBit t = true := h
      rw [Nat.testBit_or, Bool.or_eq_true, addB_bit, Bool.or_eq_true, decide_eq_true_iff] at h
      have d := hes e (by simp) hb
      rcases h with (h | h) | h
      · exact ih h
      · subst h; exact .one d
      · exact .more d (lookB_sound hl h)

theorem infs_ok {kd : Oper → Nat} {ops : Array Oper} : ∀ (l : List Oper) (j : Nat) (prev : List Inf), l = ops.toList.drop j → (∀ x ∈ prev, InfOK ops x) → ∀ x ∈ infs kd l j prev, InfOK ops x
  | [], _, prev, _, hp => hp
  | o :: l, j, prev, hl, hp => by
    have hoj : ops[j]? = some o := by
      have := congrArg (fun l => l[0]?) hl
      simpa using this.symm
    have hl' : l = ops.toList.drop (j + 1) := by
      have := congrArg List.tail hl
      simpa using this
    refine infs_ok l (j + 1) _ hl' ?_
    intro x hx
    rcases List.mem_cons.1 hx with rfl | hx
    · refine ⟨hoj, fun t => ?_, fun t h => ?_⟩
      · show (dirM o.after.toList).testBit t = true ↔ _
        rw [dirM_iff]
        constructor
        · rintro ⟨e, h1, h2, h3⟩; exact ⟨o, hoj, e, by simpa using h1, h2, h3⟩
        · rintro ⟨o', ho', e, h1, h2, h3⟩
          rw [hoj] at ho'; cases ho'
          exact ⟨e, by simpa using h1, h2, h3⟩
      · exact befM_sound hp (fun e he hb => ⟨o, hoj, e, by simpa using he, hb, rfl⟩) h
    · exact hp x hx

def srch : Nat → Nat → Nat → List Inf → List (Inf × Nat)
  | 0, _, _, _ => []
  | n + 1, D, R, rem => match rem.find? (fun x => bif Nat.ble 2 x.k then false else subB x.d D) with
    | some x => (x, x.k) :: srch n (addB D x.i) (bif Nat.beq x.k 1 then addB R x.i else R) (rem.filter fun y => !(Nat.beq y.i x.i))
    | none => match rem.find? (fun x => subB x.d D) with
      | some x => (x, bif subB R x.b then 2 else 3) :: srch n (addB D x.i) R (rem.filter fun y => !(Nat.beq y.i x.i))
      | none => []

theorem srch_mem : ∀ (n D R : Nat) (rem : List Inf), ∀ p ∈ srch n D R rem, p.1 ∈ rem
  | 0, _, _, _, p, h => by cases h
  | n + 1, D, R, rem, p, h => by
    unfold srch at h
    split at h
    · rename_i x hx
      rcases List.mem_cons.1 h with rfl | h
      · exact List.mem_of_find?_eq_some hx
      · exact (List.mem_filter.1 (srch_mem n _ _ _ p h)).1
    · split at h
      · rename_i x hx
        rcases List.mem_cons.1 h with rfl | h
        · exact List.mem_of_find?_eq_some hx
        · exact (List.mem_filter.1 (srch_mem n _ _ _ p h)).1
      · cases h

def good (ops : Array Oper) (full : Nat) : List (Inf × Nat) → Nat → Nat → Bool
  | [], D, _ => Nat.beq D full
  | (x, m) :: l, D, R => bif bitB D x.i then false else bif subB x.d D then
      bif (bif Nat.ble 2 m then l.all (fun y => !subB y.1.d D) else l.all (fun y => bif bitB y.1.b x.i then true else x.o.apart ops y.1.o)) then
        bif (bif Nat.beq m 2 then subB R x.b else true) then good ops full l (addB D x.i) (bif Nat.beq m 1 then addB R x.i else R) else false
      else false
    else false

theorem good_cons {ops : Array Oper} {full : Nat} {x : Inf} {m : Nat} {l : List (Inf × Nat)} {D R : Nat} (h : good ops full ((x, m) :: l) D R = true) :
    D.testBit x.i = false ∧ (∀ t, x.d.testBit t = true → D.testBit t = true) ∧ (2 ≤ m → ∀ y ∈ l, ¬ ∀ t, y.1.d.testBit t = true → D.testBit t = true) ∧
    (m < 2 → ∀ y ∈ l, y.1.b.testBit x.i = true ∨ x.o.apart ops y.1.o = true) ∧ (m = 2 → ∀ t, R.testBit t = true → x.b.testBit t = true) ∧
    good ops full l (addB D x.i) (bif Nat.beq m 1 then addB R x.i else R) = true := by
  unfold good at h
  cases h1 : bitB D x.i
  case true => rw [h1] at h; cases h
  cases h2 : subB x.d D
  case false => rw [h1, h2] at h; cases h
  cases h3 : (bif Nat.ble 2 m then l.all (fun y => !subB y.1.d D) else l.all (fun y => bif bitB y.1.b x.i then true else x.o.apart ops y.1.o))
  case false => rw [h1, h2, h3] at h; cases h
  cases h4 : (bif Nat.beq m 2 then subB R x.b else true)
  case false => rw [h1, h2, h3, h4] at h; cases h
  rw [h1, h2, h3, h4] at h
  refine ⟨?_, subB_iff.1 h2, ?_, ?_, ?_, h⟩
  · cases hb : D.testBit x.i
    · rfl
    · rw [bitB_iff.2 hb] at h1; cases h1
  · intro hm y hy hall
    rw [Nat.ble_eq_true_of_le hm] at h3
    have := List.all_eq_true.1 h3 y hy
    rw [subB_iff.2 hall] at this
    cases this
  · intro hm y hy
    have : Nat.ble 2 m = false := by
      cases hb : Nat.ble 2 m
      · rfl
      · have := Nat.le_of_ble_eq_true hb; omega
    rw [this] at h3
    have := List.all_eq_true.1 h3 y hy
    cases hb : bitB y.1.b x.i
    · rw [hb] at this; exact .inr this
    · exact .inl (bitB_iff.1 hb)
  · rintro rfl
    exact subB_iff.1 h4

theorem good_cover {ops : Array Oper} {n : Nat} : ∀ (l : List (Inf × Nat)) (D R : Nat), good ops (2 ^ n - 1) l D R = true → ∀ j, j < n → D.testBit j = true ∨ ∃ y ∈ l, y.1.i = j
  | [], D, R, h, j, hj => by
    have : D = 2 ^ n - 1 := Nat.eq_of_beq_eq_true h
    subst this
    left
    rw [Nat.testBit_two_pow_sub_one]; simpa using hj
  | (x, m) :: l, D, R, h, j, hj => by
    obtain ⟨_, _, _, _, _, h⟩ := good_cons h
    rcases good_cover l _ _ h j hj with h | ⟨y, hy, e⟩
    · rw [addB_bit, Bool.or_eq_true, decide_eq_true_iff] at h
      rcases h with h | h
      · exact .inl h
      · exact .inr ⟨(x, m), by simp, h⟩
    · exact .inr ⟨y, by simp [hy], e⟩

theorem good_full {ops : Array Oper} {n : Nat} : ∀ (l : List (Inf × Nat)) (D R : Nat), good ops (2 ^ n - 1) l D R = true → ∀ j, D.testBit j = true → j < n
  | [], D, R, h, j, hj => by
    have : D = 2 ^ n - 1 := Nat.eq_of_beq_eq_true h
    subst this
    rw [Nat.testBit_two_pow_sub_one] at hj; simpa using hj
  | (x, m) :: l, D, R, h, j, hj => by
    obtain ⟨_, _, _, _, _, h⟩ := good_cons h
    exact good_full l _ _ h j (by rw [addB_bit, hj]; rfl)
end Go.Proofs.YtlhffgannkmpkaaGreat.Vx
