/- Expressions over what a law is given: what is known of them, and how a run divides. No condition. -/
import Derived.Test.YtbmekbpgoakkbaaGreatDoorVxD
import Derived.Laws.StructEq
set_option linter.unusedVariables false
set_option linter.unusedSimpArgs false
set_option linter.constructorNameAsVariable false
set_option linter.unusedSectionVars false
namespace Go.Proofs.YtbmekbpgoakkbaaGreatDoor.Vx
open Go

/-! ### The same expression -/
noncomputable def opc (op : BinOp) : Nat := match op with
  | .eql => 0 | .neq => 1 | .lss => 2 | .leq => 3 | .gtr => 4 | .geq => 5 | _ => 6
def cmpOp : BinOp → Bool
  | .eql | .neq | .lss | .leq | .gtr | .geq => true
  | _ => false
theorem opc_inj {a b : BinOp} (h : Nat.beq (opc a) (opc b) = true) (ha : cmpOp a = true) : a = b := by
  have := Nat.eq_of_beq_eq_true h
  cases a <;> cases ha <;> cases b <;> first | rfl | exact absurd this (by decide)
noncomputable def kc (k : IntKind) : Nat := match k with
  | .i8 => 0 | .i16 => 1 | .i32 => 2 | .i64 => 3 | .u8 => 4 | .u16 => 5 | .u32 => 6 | .u64 => 7
theorem kc_inj {k k' : IntKind} (hh : Nat.beq (kc k) (kc k') = true) : k = k' := by
  have := Nat.eq_of_beq_eq_true hh
  cases k <;> cases k' <;> first | rfl | (exact absurd this (by decide))
noncomputable def iEq (a b : Int) : Bool :=
  Int.rec (motive := fun _ => Bool) (fun m => Int.rec (motive := fun _ => Bool) (fun n => Nat.beq m n) (fun _ => false) b) (fun m => Int.rec (motive := fun _ => Bool) (fun _ => false) (fun n => Nat.beq m n) b) a
theorem iEq_ok {a b : Int} (h : iEq a b = true) : a = b := by
  cases a <;> cases b <;> first | (rw [Nat.eq_of_beq_eq_true h]) | cases h

noncomputable def seEq (a : SE) : SE → Bool := SE.rec (motive := fun _ => SE → Bool)
  (fun n b => match b with | .sy m => Nat.beq n m | _ => false)
  (fun x b => match b with | .lb y => bc x y (bc y false true) | _ => false)
  (fun k n b => match b with | .li k' m => bc (Nat.beq (kc k) (kc k')) (iEq n m) false | _ => false)
  (fun x b => match b with | .lf y => Nat.beq x y | _ => false)
  (fun l x b => match b with | .ls l' y => bc (Nat.beq l l') (Nat.beq x y) false | _ => false)
  (fun _ ih b => match b with | .len e => ih e | _ => false)
  (fun _ ih b => match b with | .not e => ih e | _ => false)
  (fun k _ ih b => match b with | .conv k' e => bc (Nat.beq (kc k) (kc k')) (ih e) false | _ => false)
  (fun m _ ih b => match b with | .rem m' e => bc (Nat.beq m m') (ih e) false | _ => false)
  (fun c _ ih b => match b with | .fn c' e => bc (Nat.beq c c') (ih e) false | _ => false)
  (fun c _ _ iha ihb b => match b with | .fn2 c' x y => bc (Nat.beq c c') (bc (iha x) (ihb y) false) false | _ => false)
  (fun op _ _ iha ihb b => match b with | .cmp op' x y => bc (cmpOp op) (bc (Nat.beq (opc op) (opc op')) (bc (iha x) (ihb y) false) false) false | _ => false)
  (fun _ _ iha ihb b => match b with | .and x y => bc (iha x) (ihb y) false | _ => false) a

theorem seEq_ok : ∀ {a b : SE}, seEq a b = true → a = b := by
  intro a
  induction a with
  | sy n => intro b h; cases b <;> first | (cases h; done) | (rw [Nat.eq_of_beq_eq_true h])
  | lb x => intro b h; cases b <;> first | (cases h; done) | (rename_i y; cases x <;> cases y <;> first | rfl | cases h)
  | li k n =>
    intro b h; cases b <;> try (cases h; done)
    obtain ⟨h1, h2⟩ := bc_and h
    rw [kc_inj h1, iEq_ok h2]
  | lf x => intro b h; cases b <;> first | (cases h; done) | (rw [Nat.eq_of_beq_eq_true h])
  | ls l x =>
    intro b h; cases b <;> try (cases h; done)
    obtain ⟨h1, h2⟩ := bc_and h
    rw [Nat.eq_of_beq_eq_true h1, Nat.eq_of_beq_eq_true h2]
  | len e ih => intro b h; cases b <;> first | (cases h; done) | (rw [ih h])
  | not e ih => intro b h; cases b <;> first | (cases h; done) | (rw [ih h])
  | conv k e ih =>
    intro b h; cases b <;> try (cases h; done)
    obtain ⟨h1, h2⟩ := bc_and h
    rw [kc_inj h1, ih h2]
  | rem m e ih =>
    intro b h; cases b <;> try (cases h; done)
    obtain ⟨h1, h2⟩ := bc_and h
    rw [Nat.eq_of_beq_eq_true h1, ih h2]
  | fn c e ih =>
    intro b h; cases b <;> try (cases h; done)
    obtain ⟨h1, h2⟩ := bc_and h
    rw [Nat.eq_of_beq_eq_true h1, ih h2]
  | fn2 c x y ihx ihy =>
    intro b h; cases b <;> try (cases h; done)
    obtain ⟨h1, h⟩ := bc_and h
    obtain ⟨h2, h3⟩ := bc_and h
    rw [Nat.eq_of_beq_eq_true h1, ihx h2, ihy h3]
  | cmp op x y ihx ihy =>
    intro b h; cases b <;> try (cases h; done)
    obtain ⟨h0, h⟩ := bc_and h
    obtain ⟨h1, h⟩ := bc_and h
    obtain ⟨h2, h3⟩ := bc_and h
    rw [opc_inj h1 h0, ihx h2, ihy h3]
  | and x y ihx ihy =>
    intro b h; cases b <;> try (cases h; done)
    obtain ⟨h2, h3⟩ := bc_and h
    rw [ihx h2, ihy h3]

/-! ### What is known -/
def Holds (E : Env) (fs : Facts) : Prop := ∀ p ∈ fs, den E p.1 = some (.bool p.2)

/-- is it among the facts? 0: no; 1: true; 2: false -/
noncomputable def look (e : SE) (fs : Facts) : Nat := List.rec (motive := fun _ => Nat) 0 (fun p _ ih => bif seEq e p.1 then (bif p.2 then 1 else 2) else ih) fs
theorem look_ok {E : Env} {e : SE} : ∀ {fs : Facts}, Holds E fs → (look e fs = 1 → den E e = some (.bool true)) ∧ (2 ≤ look e fs → den E e = some (.bool false))
  | [], _ => ⟨fun h => absurd h (by show ¬ ((0 : Nat) = 1); omega), fun h => absurd h (by show ¬ (2 ≤ (0 : Nat)); omega)⟩
  | p :: fs, hf => by
    have ih := look_ok (e := e) (fs := fs) fun q hq => hf q (by simp [hq])
    have e1 : look e (p :: fs) = bif seEq e p.1 then (bif p.2 then 1 else 2) else look e fs := rfl
    rw [e1]
    cases hs : seEq e p.1
    · exact ih
    · have := seEq_ok hs
      subst this
      have hp := hf p (by simp)
      cases hb : p.2 <;> rw [hb] at hp
      · exact ⟨fun h => absurd h (by show ¬ ((2 : Nat) = 1); omega), fun _ => hp⟩
      · exact ⟨fun _ => hp, fun h => absurd h (by show ¬ (2 ≤ (1 : Nat)); omega)⟩

/-- a bound above, from the facts alone -/
noncomputable def below1 (e : SE) (c : Int) (fs : Facts) : Bool := List.rec (motive := fun _ => Bool) false
  (fun p _ ih => match p.1 with
    | .cmp .leq a (.li _ d) => bif bc p.2 (bc (seEq e a) (decide (d ≤ c)) false) false then true else ih
    | .cmp .eql a (.li _ d) => bif bc p.2 (bc (seEq e a) (decide (d ≤ c)) false) false then true else ih
    | _ => ih) fs
/-- a bound below: more than c -/
noncomputable def above1 (e : SE) (c : Int) (fs : Facts) : Bool := List.rec (motive := fun _ => Bool) false
  (fun p _ ih => match p.1 with
    | .cmp .leq a (.li _ d) => bif bc p.2 false (bc (seEq e a) (decide (c ≤ d)) false) then true else ih
    | .cmp .eql a (.li _ d) => bif bc p.2 (bc (seEq e a) (decide (c < d)) false) false then true else ih
    | _ => ih) fs

theorem below1_ok {E : Env} {e : SE} {c : Int} {k : IntKind} {n : Int} (hn : den E e = some (.int k n)) : ∀ {fs : Facts}, Holds E fs → below1 e c fs = true → n ≤ c
  | [], _, h => by cases h
  | (p, b) :: fs, hf, h => by
    have ih := below1_ok (c := c) hn (fs := fs) fun q hq => hf q (by simp [hq])
    have hp := hf (p, b) (by simp)
    have h : (match (generalizing := false) p with
      | .cmp .leq a (.li _ d) => bif bc b (bc (seEq e a) (decide (d ≤ c)) false) false then true else below1 e c fs
      | .cmp .eql a (.li _ d) => bif bc b (bc (seEq e a) (decide (d ≤ c)) false) false then true else below1 e c fs
      | _ => below1 e c fs) = true := h
    split at h
    · rename_i a k' d _
      cases hb : bc b (bc (seEq e a) (decide (d ≤ c)) false) false <;> rw [hb] at h
      · exact ih h
      · obtain ⟨h1, h2⟩ := bc_and hb
        obtain ⟨h2, h3⟩ := bc_and h2
        have := seEq_ok h2
        subst this h1
        simp only [den, hn] at hp
        by_cases hk : k = k'
        · subst hk; simp [cmpV, cmpI] at hp; have := of_decide_eq_true h3; omega
        · simp [cmpV, hk] at hp
    · rename_i a k' d _
      cases hb : bc b (bc (seEq e a) (decide (d ≤ c)) false) false <;> rw [hb] at h
      · exact ih h
      · obtain ⟨h1, h2⟩ := bc_and hb
        obtain ⟨h2, h3⟩ := bc_and h2
        have := seEq_ok h2
        subst this h1
        simp only [den, hn] at hp
        by_cases hk : k = k'
        · subst hk; simp [cmpV, cmpI] at hp; have := of_decide_eq_true h3; omega
        · simp [cmpV, hk] at hp
    · exact ih h

theorem above1_ok {E : Env} {e : SE} {c : Int} {k : IntKind} {n : Int} (hn : den E e = some (.int k n)) : ∀ {fs : Facts}, Holds E fs → above1 e c fs = true → c < n
  | [], _, h => by cases h
  | (p, b) :: fs, hf, h => by
    have ih := above1_ok (c := c) hn (fs := fs) fun q hq => hf q (by simp [hq])
    have hp := hf (p, b) (by simp)
    have h : (match (generalizing := false) p with
      | .cmp .leq a (.li _ d) => bif bc b false (bc (seEq e a) (decide (c ≤ d)) false) then true else above1 e c fs
      | .cmp .eql a (.li _ d) => bif bc b (bc (seEq e a) (decide (c < d)) false) false then true else above1 e c fs
      | _ => above1 e c fs) = true := h
    split at h
    · rename_i a k' d _
      cases hb : bc b false (bc (seEq e a) (decide (c ≤ d)) false) <;> rw [hb] at h
      · exact ih h
      · rcases bc_or hb with ⟨_, hh⟩ | ⟨h1, h2⟩
        · cases hh
        obtain ⟨h2, h3⟩ := bc_and h2
        have := seEq_ok h2
        subst this h1
        simp only [den, hn] at hp
        by_cases hk : k = k'
        · subst hk; simp [cmpV, cmpI] at hp; have := of_decide_eq_true h3; omega
        · simp [cmpV, hk] at hp
    · rename_i a k' d _
      cases hb : bc b (bc (seEq e a) (decide (c < d)) false) false <;> rw [hb] at h
      · exact ih h
      · obtain ⟨h1, h2⟩ := bc_and hb
        obtain ⟨h2, h3⟩ := bc_and h2
        have := seEq_ok h2
        subst this h1
        simp only [den, hn] at hp
        by_cases hk : k = k'
        · subst hk; simp [cmpV, cmpI] at hp; have := of_decide_eq_true h3; omega
        · simp [cmpV, hk] at hp
    · exact ih h

/-- bounds by what the expression is -/
noncomputable def belowS (e : SE) (c : Int) (fs : Facts) : Bool := SE.rec (motive := fun _ => Bool)
  (fun n => below1 (.sy n) c fs) (fun _ => false) (fun _ n => decide (n ≤ c)) (fun _ => false) (fun _ _ => false)
  (fun e _ => below1 (.len e) c fs) (fun _ _ => false) (fun k e ih => bif below1 (.conv k e) c fs then true else ih)
  (fun m e _ => bif decide ((m : Int) ≤ c + 1) then true else below1 (.rem m e) c fs) (fun d e _ => below1 (.fn d e) c fs) (fun d a b _ _ => below1 (.fn2 d a b) c fs) (fun _ _ _ _ _ => false) (fun _ _ _ _ => false) e
noncomputable def aboveS (e : SE) (c : Int) (fs : Facts) : Bool := SE.rec (motive := fun _ => Bool)
  (fun n => above1 (.sy n) c fs) (fun _ => false) (fun _ n => decide (c < n)) (fun _ => false) (fun _ _ => false)
  (fun e _ => bif decide (c < 0) then true else above1 (.len e) c fs) (fun _ _ => false) (fun k e ih => bif above1 (.conv k e) c fs then true else ih)
  (fun m e _ => bif decide (c < 0) then true else above1 (.rem m e) c fs) (fun d e _ => above1 (.fn d e) c fs) (fun d a b _ _ => above1 (.fn2 d a b) c fs) (fun _ _ _ _ _ => false) (fun _ _ _ _ => false) e

theorem bif_or {b x : Bool} (h : (bif b then true else x) = true) : b = true ∨ x = true := by cases b <;> simp_all
theorem belowS_ok {E : Env} {c : Int} {fs : Facts} (hf : Holds E fs) : ∀ (e : SE) {k : IntKind} {n : Int}, den E e = some (.int k n) → belowS e c fs = true → n ≤ c := by
  intro e
  induction e with
  | sy m => intro k n hn h; exact below1_ok hn hf h
  | li k' m =>
    intro k n hn h
    simp only [den, Option.some.injEq, Value.int.injEq] at hn
    obtain ⟨_, rfl⟩ := hn
    exact of_decide_eq_true h
  | len e ih => intro k n hn h; exact below1_ok hn hf h
  | conv k' e ih =>
    intro k n hn h
    have h : (bif below1 (.conv k' e) c fs then true else belowS e c fs) = true := h
    rcases bif_or h with h | h
    · exact below1_ok hn hf h
    · simp only [den] at hn
      split at hn <;> try (cases hn; done)
      rename_i k2 m he
      split at hn <;> cases hn
      exact ih he h
  | rem m e ih =>
    intro k n hn h
    have h : (bif decide ((m : Int) ≤ c + 1) then true else below1 (.rem m e) c fs) = true := h
    rcases bif_or h with h | h
    · simp only [den] at hn
      split at hn <;> try (cases hn; done)
      rename_i k2 q he
      split at hn <;> cases hn
      rename_i hc
      have := Int.emod_lt_of_pos q (show (0 : Int) < (m : Int) by omega)
      have := of_decide_eq_true h
      omega
    · exact below1_ok hn hf h
  | fn d e ih => intro k n hn h; exact below1_ok hn hf h
  | fn2 d a b iha ihb => intro k n hn h; exact below1_ok hn hf h
  | _ => intro k n hn h; cases h

theorem aboveS_ok {E : Env} {c : Int} {fs : Facts} (hf : Holds E fs) : ∀ (e : SE) {k : IntKind} {n : Int}, den E e = some (.int k n) → aboveS e c fs = true → c < n := by
  intro e
  induction e with
  | sy m => intro k n hn h; exact above1_ok hn hf h
  | li k' m =>
    intro k n hn h
    simp only [den, Option.some.injEq, Value.int.injEq] at hn
    obtain ⟨_, rfl⟩ := hn
    exact of_decide_eq_true h
  | len e ih =>
    intro k n hn h
    have h : (bif decide (c < 0) then true else above1 (.len e) c fs) = true := h
    rcases bif_or h with h | h
    · simp only [den] at hn
      split at hn <;> cases hn
      have := of_decide_eq_true h
      omega
    · exact above1_ok hn hf h
  | conv k' e ih =>
    intro k n hn h
    have h : (bif above1 (.conv k' e) c fs then true else aboveS e c fs) = true := h
    rcases bif_or h with h | h
    · exact above1_ok hn hf h
    · simp only [den] at hn
      split at hn <;> try (cases hn; done)
      rename_i k2 m he
      split at hn <;> cases hn
      exact ih he h
  | rem m e ih =>
    intro k n hn h
    have h : (bif decide (c < 0) then true else above1 (.rem m e) c fs) = true := h
    rcases bif_or h with h | h
    · simp only [den] at hn
      split at hn <;> try (cases hn; done)
      rename_i k2 q he
      split at hn <;> cases hn
      rename_i hc
      have := Int.emod_nonneg q (show (m : Int) ≠ 0 by omega)
      have := of_decide_eq_true h
      omega
    · exact above1_ok hn hf h
  | fn d e ih => intro k n hn h; exact above1_ok hn hf h
  | fn2 d a b iha ihb => intro k n hn h; exact above1_ok hn hf h
  | _ => intro k n hn h; cases h

/-- a string that is known to be another one -/
noncomputable def otherS (e : SE) (l x : Nat) (fs : Facts) : Bool := List.rec (motive := fun _ => Bool) false
  (fun p _ ih => match p.1 with
    | .cmp .eql a (.ls m y) => bif bc p.2 (bc (seEq e a) (bc (bc (Nat.beq l m) (Nat.beq (Nat.mod x (Nat.pow 256 l)) (Nat.mod y (Nat.pow 256 m))) false) false true) false) false then true else ih
    | _ => ih) fs

theorem otherS_ok {E : Env} {e : SE} {l x : Nat} {s : ByteArray} (hs : den E e = some (.string s)) : ∀ {fs : Facts}, Holds E fs → otherS e l x fs = true → (s.toList == (str l x).toList) = false
  | [], _, h => by cases h
  | (p, b) :: fs, hf, h => by
    have ih := otherS_ok (l := l) (x := x) hs (fs := fs) fun q hq => hf q (by simp [hq])
    have hp := hf (p, b) (by simp)
    have h : (match (generalizing := false) p with
      | .cmp .eql a (.ls m y) => bif bc b (bc (seEq e a) (bc (bc (Nat.beq l m) (Nat.beq (Nat.mod x (Nat.pow 256 l)) (Nat.mod y (Nat.pow 256 m))) false) false true) false) false then true else otherS e l x fs
      | _ => otherS e l x fs) = true := h
    split at h
    · rename_i a m y _
      cases hb : bc b (bc (seEq e a) (bc (bc (Nat.beq l m) (Nat.beq (Nat.mod x (Nat.pow 256 l)) (Nat.mod y (Nat.pow 256 m))) false) false true) false) false <;> rw [hb] at h
      · exact ih h
      · obtain ⟨h1, h2⟩ := bc_and hb
        obtain ⟨h2, h3⟩ := bc_and h2
        have := seEq_ok h2
        subst this h1
        simp only [den, hs, cmpV, cmpS, Option.map_some, Option.some.injEq, Value.bool.injEq] at hp
        rw [beq_iff_eq] at hp
        rw [hp, Bool.eq_false_iff]
        intro hh
        rw [beq_iff_eq, ByteArray.toList_eq, ByteArray.toList_eq, str_toList, str_toList] at hh
        have hl : m = l := by have := congrArg List.length hh; simpa using this
        subst hl
        rw [unpack_inj] at hh
        have e3 : bc (bc (Nat.beq m m) (Nat.beq (Nat.mod x (Nat.pow 256 m)) (Nat.mod y (Nat.pow 256 m))) false) false true = false := by
          have a1 : Nat.beq m m = true := Nat.beq_refl m
          have a2 : Nat.beq (Nat.mod x (Nat.pow 256 m)) (Nat.mod y (Nat.pow 256 m)) = true := by
            show Nat.beq (x % 256 ^ m) (y % 256 ^ m) = true
            rw [hh]; exact Nat.beq_refl _
          rw [a1, a2]; rfl
        rw [e3] at h3; cases h3
    · exact ih h

theorem icmp_eq (A B : Int) : (compare A B = .eq) ↔ A = B := by
  show compareOfLessAndEq A B = .eq ↔ A = B
  unfold compareOfLessAndEq
  constructor
  · intro h
    split at h
    · cases h
    · split at h
      · assumption
      · cases h
  · rintro rfl
    rw [if_neg (Int.lt_irrefl _), if_pos rfl]
theorem ord_comm (d e : Ieee.Datum) : (d.order e == some .eq) = (e.order d == some .eq) := by
  cases d with
  | nan s m => cases e <;> rfl
  | infinity s => cases e with
    | nan => rfl
    | infinity t => cases s <;> cases t <;> rfl
    | number t n j => cases s <;> rfl
  | number s m i => cases e with
    | nan => rfl
    | infinity t => cases t <;> rfl
    | number t n j =>
      rw [Bool.eq_iff_iff, beq_iff_eq, beq_iff_eq]
      show some (compare (Ieee.signed s m (i - min i j).toNat) (Ieee.signed t n (j - min i j).toNat)) = some .eq ↔ some (compare (Ieee.signed t n (j - min j i).toNat) (Ieee.signed s m (i - min j i).toNat)) = some .eq
      rw [Int.min_comm j i, Option.some.injEq, Option.some.injEq, icmp_eq, icmp_eq]
      exact eq_comm
theorem eql_comm (X Y : Value) : cmpV .eql X Y = cmpV .eql Y X := by
  cases X <;> cases Y <;> simp only [cmpV] <;> try rfl
  · congr 1; rw [Bool.eq_iff_iff, beq_iff_eq, beq_iff_eq]; exact eq_comm
  · rename_i k a k' b
    by_cases h : k = k'
    · subst h
      simp only [if_true, cmpI]
      congr 1; rw [Bool.eq_iff_iff, beq_iff_eq, beq_iff_eq]; exact eq_comm
    · rw [if_neg h, if_neg (fun e => h e.symm)]
  · rename_i k a k' b
    cases k <;> cases k' <;> try rfl
    simp only [cmpF]
    exact congrArg some (ord_comm _ _)
  · simp only [cmpS]
    congr 1; rw [Bool.eq_iff_iff, beq_iff_eq, beq_iff_eq]; exact eq_comm
theorem den_eql_comm {E : Env} {a b : SE} {x : Value} (h : den E (.cmp .eql a b) = some x) : den E (.cmp .eql b a) = some x := by
  simp only [den] at h ⊢
  cases ha : den E a with
  | none => rw [ha] at h; cases h
  | some X =>
    cases hb : den E b with
    | none => rw [ha, hb] at h; cases X <;> cases h
    | some Y =>
      rw [ha, hb] at h
      simp only at h ⊢
      rw [eql_comm]; exact h

/-- is it settled? 0: no; 1: true; 2: false -/
noncomputable def dec (fs : Facts) (e : SE) : Nat := match e with
  | .lb x => bif x then 1 else 2
  | .cmp .leq a (.li _ c) => bif belowS a c fs then 1 else bif aboveS a c fs then 2 else look e fs
  | .cmp .eql a (.li _ c) => bif belowS a (c - 1) fs then 2 else bif aboveS a c fs then 2 else bif bc (belowS a c fs) (aboveS a (c - 1) fs) false then 1 else look e fs
  | .cmp .eql a (.ls l x) => bif otherS a l x fs then 2 else look e fs
  | .cmp .eql a b => Nat.rec (motive := fun _ => Nat) (look (.cmp .eql b a) fs) (fun m _ => Nat.succ m) (look e fs)
  | e => look e fs

theorem dec_ok {E : Env} {fs : Facts} (hf : Holds E fs) {e : SE} {x : Bool} (hx : den E e = some (.bool x)) : (dec fs e = 1 → x = true) ∧ (2 ≤ dec fs e → x = false) := by
  have lk : ∀ e', den E e' = some (.bool x) → (look e' fs = 1 → x = true) ∧ (2 ≤ look e' fs → x = false) := fun e' he' => by
    obtain ⟨h1, h2⟩ := look_ok (e := e') hf
    exact ⟨fun h => by rw [h1 h] at he'; cases he'; rfl, fun h => by rw [h2 h] at he'; cases he'; rfl⟩
  unfold dec
  split
  · rename_i y
    simp only [den, Option.some.injEq, Value.bool.injEq] at hx
    subst hx
    cases y <;> simp
  · rename_i a k c
    have hx' := hx
    simp only [den] at hx
    split at hx <;> try (cases hx; done)
    rename_i X Y hX hY
    cases hY
    cases X <;> simp only [cmpV, Option.map_none] at hx <;> try (cases hx; done)
    rename_i k' n
    by_cases hk : k' = k
    · simp only [hk, if_true, cmpI, Option.map_some, Option.some.injEq, Value.bool.injEq] at hx
      cases hb : belowS a c fs
      · cases ha : aboveS a c fs
        · exact lk _ hx'
        · refine ⟨fun h => absurd h (by show ¬ ((2 : Nat) = 1); omega), fun _ => ?_⟩
          have := aboveS_ok hf a hX ha
          rw [← hx, decide_eq_false_iff_not]; omega
      · refine ⟨fun _ => ?_, fun h => absurd h (by show ¬ (2 ≤ (1 : Nat)); omega)⟩
        have := belowS_ok hf a hX hb
        rw [← hx, decide_eq_true_iff]; omega
    · simp only [hk, if_false, Option.map_none] at hx; cases hx
  · rename_i a k c
    have hx' := hx
    simp only [den] at hx
    split at hx <;> try (cases hx; done)
    rename_i X Y hX hY
    cases hY
    cases X <;> simp only [cmpV, Option.map_none] at hx <;> try (cases hx; done)
    rename_i k' n
    by_cases hk : k' = k
    · simp only [hk, if_true, cmpI, Option.map_some, Option.some.injEq, Value.bool.injEq] at hx
      cases hb : belowS a (c - 1) fs
      · cases ha : aboveS a c fs
        · cases hc : bc (belowS a c fs) (aboveS a (c - 1) fs) false
          · exact lk _ hx'
          · refine ⟨fun _ => ?_, fun h => absurd h (by show ¬ (2 ≤ (1 : Nat)); omega)⟩
            obtain ⟨h1, h2⟩ := bc_and hc
            have := belowS_ok hf a hX h1
            have := aboveS_ok hf a hX h2
            rw [← hx, beq_iff_eq]; omega
        · refine ⟨fun h => absurd h (by show ¬ ((2 : Nat) = 1); omega), fun _ => ?_⟩
          have := aboveS_ok hf a hX ha
          rw [← hx, beq_eq_false_iff_ne]; omega
      · refine ⟨fun h => absurd h (by show ¬ ((2 : Nat) = 1); omega), fun _ => ?_⟩
        have := belowS_ok hf a hX hb
        rw [← hx, beq_eq_false_iff_ne]; omega
    · simp only [hk, if_false, Option.map_none] at hx; cases hx
  · rename_i a l y
    have hx' := hx
    simp only [den] at hx
    split at hx <;> try (cases hx; done)
    rename_i X Y hX hY
    cases hY
    cases X <;> simp only [cmpV, Option.map_none] at hx <;> try (cases hx; done)
    rename_i s
    cases ho : otherS a l y fs
    · exact lk _ hx'
    · refine ⟨fun h => absurd h (by show ¬ ((2 : Nat) = 1); omega), fun _ => ?_⟩
      have := otherS_ok hX hf ho
      simp only [cmpS, this, Option.map_some, Option.some.injEq, Value.bool.injEq] at hx
      exact hx.symm
  · rename_i a b _ _
    cases hl : look (.cmp .eql a b) fs with
    | zero => exact lk _ (den_eql_comm hx)
    | succ m => have := lk _ hx; rw [hl] at this; exact this
  · exact lk _ hx

/-- the same through 'not' and 'and' -/
noncomputable def decX (fs : Facts) (e : SE) : Nat := SE.rec (motive := fun _ => Nat)
  (fun n => dec fs (.sy n)) (fun x => bif x then 1 else 2) (fun _ _ => 0) (fun _ => 0) (fun _ _ => 0) (fun _ _ => 0)
  (fun _ ih => Nat.rec (motive := fun _ => Nat) 0 (fun m _ => Nat.rec (motive := fun _ => Nat) 2 (fun _ _ => 1) m) ih)
  (fun _ _ _ => 0) (fun _ _ _ => 0) (fun c e _ => dec fs (.fn c e)) (fun c a b _ _ => dec fs (.fn2 c a b)) (fun op a b _ _ => dec fs (.cmp op a b))
  (fun _ _ iha ihb => Nat.rec (motive := fun _ => Nat) (Nat.rec (motive := fun _ => Nat) 0 (fun m _ => Nat.rec (motive := fun _ => Nat) 0 (fun _ _ => 2) m) ihb) (fun m _ => Nat.rec (motive := fun _ => Nat) ihb (fun _ _ => 2) m) iha) e
theorem decX_ok {E : Env} {fs : Facts} (hf : Holds E fs) : ∀ {e : SE} {x : Bool}, den E e = some (.bool x) → (decX fs e = 1 → x = true) ∧ (2 ≤ decX fs e → x = false) := by
  intro e
  induction e with
  | sy n => intro x hx; exact dec_ok hf hx
  | lb y =>
    intro x hx
    simp only [den, Option.some.injEq, Value.bool.injEq] at hx
    subst hx
    cases y <;> simp [decX]
  | fn c e ih => intro x hx; exact dec_ok hf hx
  | fn2 c a b iha ihb => intro x hx; exact dec_ok hf hx
  | cmp op a b iha ihb => intro x hx; exact dec_ok hf hx
  | not e ih =>
    intro x hx
    simp only [den] at hx
    split at hx <;> cases hx
    rename_i y hy
    obtain ⟨h1, h2⟩ := ih hy
    have e1 : decX fs (.not e) = Nat.rec (motive := fun _ => Nat) 0 (fun m _ => Nat.rec (motive := fun _ => Nat) 2 (fun _ _ => 1) m) (decX fs e) := rfl
    rw [e1]
    match hd : decX fs e with
    | 0 => exact ⟨fun h => absurd h (by show ¬ ((0 : Nat) = 1); omega), fun h => absurd h (by show ¬ (2 ≤ (0 : Nat)); omega)⟩
    | 1 => exact ⟨fun h => absurd h (by show ¬ ((2 : Nat) = 1); omega), fun _ => by rw [h1 hd]; rfl⟩
    | n + 2 => exact ⟨fun _ => by rw [h2 (by omega)]; rfl, fun h => absurd h (by show ¬ (2 ≤ (1 : Nat)); omega)⟩
  | and a b iha ihb =>
    intro x hx
    simp only [den] at hx
    split at hx <;> cases hx
    rename_i y z hy hz
    obtain ⟨a1, a2⟩ := iha hy
    obtain ⟨b1, b2⟩ := ihb hz
    have e1 : decX fs (.and a b) = Nat.rec (motive := fun _ => Nat) (Nat.rec (motive := fun _ => Nat) 0 (fun m _ => Nat.rec (motive := fun _ => Nat) 0 (fun _ _ => 2) m) (decX fs b)) (fun m _ => Nat.rec (motive := fun _ => Nat) (decX fs b) (fun _ _ => 2) m) (decX fs a) := rfl
    rw [e1]
    match hda : decX fs a with
    | 0 =>
      match hdb : decX fs b with
      | 0 => exact ⟨fun h => absurd h (by show ¬ ((0 : Nat) = 1); omega), fun h => absurd h (by show ¬ (2 ≤ (0 : Nat)); omega)⟩
      | 1 => exact ⟨fun h => absurd h (by show ¬ ((0 : Nat) = 1); omega), fun h => absurd h (by show ¬ (2 ≤ (0 : Nat)); omega)⟩
      | n + 2 => exact ⟨fun h => absurd h (by show ¬ ((2 : Nat) = 1); omega), fun _ => by rw [b2 (by omega), Bool.and_false]⟩
    | 1 =>
      rw [a1 hda, Bool.true_and]
      exact ⟨b1, b2⟩
    | n + 2 => exact ⟨fun h => absurd h (by show ¬ ((2 : Nat) = 1); omega), fun _ => by rw [a2 (by omega), Bool.false_and]⟩
  | _ =>
    intro x hx
    exact ⟨fun h => absurd h (by show ¬ ((0 : Nat) = 1); omega), fun h => absurd h (by show ¬ (2 ≤ (0 : Nat)); omega)⟩

/-! ### A run divides -/
noncomputable def d3 (n : Nat) (no yes nay : Bool) : Bool := Nat.rec (motive := fun _ => Bool) no (fun m _ => Nat.rec (motive := fun _ => Bool) yes (fun _ _ => nay) m) n
noncomputable def forkK (e : SE) : Facts → (Facts → Bool) → (Facts → Bool) → Bool :=
  SE.rec (motive := fun _ => Facts → (Facts → Bool) → (Facts → Bool) → Bool)
  (fun n fs kt kf => d3 (dec fs (.sy n)) (bc (kt ((.sy n, true) :: fs)) (kf ((.sy n, false) :: fs)) false) (kt fs) (kf fs))
  (fun x fs kt kf => bc x (kt fs) (kf fs))
  (fun _ _ _ _ _ => false) (fun _ _ _ _ => false) (fun _ _ _ _ _ => false) (fun _ _ _ _ _ => false)
  (fun _ ih fs kt kf => ih fs kf kt)
  (fun _ _ _ _ _ _ => false) (fun _ _ _ _ _ _ => false)
  (fun c e _ fs kt kf => d3 (dec fs (.fn c e)) (bc (kt ((.fn c e, true) :: fs)) (kf ((.fn c e, false) :: fs)) false) (kt fs) (kf fs))
  (fun c a b _ _ fs kt kf => d3 (dec fs (.fn2 c a b)) (bc (kt ((.fn2 c a b, true) :: fs)) (kf ((.fn2 c a b, false) :: fs)) false) (kt fs) (kf fs))
  (fun op a b _ _ fs kt kf => d3 (dec fs (.cmp op a b)) (bc (kt ((.cmp op a b, true) :: fs)) (kf ((.cmp op a b, false) :: fs)) false) (kt fs) (kf fs))
  (fun _ _ iha ihb fs kt kf => iha fs (fun fs => ihb fs kt kf) kf) e

theorem forkK_ok {E : Env} : ∀ (e : SE) {fs : Facts} {kt kf : Facts → Bool} {x : Bool}, forkK e fs kt kf = true → Holds E fs → den E e = some (.bool x) → ∃ fs', Holds E fs' ∧ ((x = true ∧ kt fs' = true) ∨ (x = false ∧ kf fs' = true)) := by
  have base : ∀ (e : SE) {fs : Facts} {kt kf : Facts → Bool} {x : Bool}, d3 (dec fs e) (bc (kt ((e, true) :: fs)) (kf ((e, false) :: fs)) false) (kt fs) (kf fs) = true → Holds E fs → den E e = some (.bool x) →
      ∃ fs', Holds E fs' ∧ ((x = true ∧ kt fs' = true) ∨ (x = false ∧ kf fs' = true)) := by
    intro e fs kt kf x he hf hx
    obtain ⟨d1, d2⟩ := dec_ok hf hx
    match hd : dec fs e with
    | 0 =>
      rw [hd] at he
      obtain ⟨h1, h2⟩ := bc_and (b := kt ((e, true) :: fs)) he
      refine ⟨(e, x) :: fs, fun p hp => ?_, ?_⟩
      · rcases List.mem_cons.1 hp with rfl | hp
        · exact hx
        · exact hf p hp
      · cases x
        · exact .inr ⟨rfl, h2⟩
        · exact .inl ⟨rfl, h1⟩
    | 1 => rw [hd] at he; exact ⟨fs, hf, .inl ⟨d1 hd, he⟩⟩
    | n + 2 => rw [hd] at he; exact ⟨fs, hf, .inr ⟨d2 (by omega), he⟩⟩
  intro e
  induction e with
  | sy n => intro fs kt kf x he hf hx; exact base _ he hf hx
  | lb y =>
    intro fs kt kf x he hf hx
    simp only [den, Option.some.injEq, Value.bool.injEq] at hx
    subst hx
    rcases bc_or he with ⟨h, he⟩ | ⟨h, he⟩
    · exact ⟨fs, hf, .inl ⟨h, he⟩⟩
    · exact ⟨fs, hf, .inr ⟨h, he⟩⟩
  | not e ih =>
    intro fs kt kf x he hf hx
    simp only [den] at hx
    split at hx <;> cases hx
    rename_i y hy
    obtain ⟨fs', h1, h2⟩ := ih (x := y) he hf hy
    refine ⟨fs', h1, ?_⟩
    rcases h2 with ⟨rfl, h2⟩ | ⟨rfl, h2⟩
    · exact .inr ⟨rfl, h2⟩
    · exact .inl ⟨rfl, h2⟩
  | fn c e ih => intro fs kt kf x he hf hx; exact base _ he hf hx
  | fn2 c a b iha ihb => intro fs kt kf x he hf hx; exact base _ he hf hx
  | cmp op a b iha ihb => intro fs kt kf x he hf hx; exact base _ he hf hx
  | and a b iha ihb =>
    intro fs kt kf x he hf hx
    simp only [den] at hx
    split at hx <;> cases hx
    rename_i y z hy hz
    obtain ⟨fs', h1, h2⟩ := iha (x := y) he hf hy
    rcases h2 with ⟨rfl, h2⟩ | ⟨rfl, h2⟩
    · simpa using ihb (x := z) h2 h1 hz
    · exact ⟨fs', h1, .inr ⟨by simp, h2⟩⟩
  | _ => intro fs kt kf x he; cases he
end Go.Proofs.YtbmekbpgoakkbaaGreatDoor.Vx
