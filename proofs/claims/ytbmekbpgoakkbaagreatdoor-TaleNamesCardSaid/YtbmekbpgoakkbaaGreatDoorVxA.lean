/- The data of a verified evaluator: tries, packed strings, abstract values and an abstract heap, and how they stand to the model's own values and memory. No condition. -/
import Derived.Orders
import Derived.Laws.Sem
import Derived.KernelRfl
import GoSem.Dispatch
import Derived.Lib.ItoaNum
import Derived.Lib.Index
set_option linter.unusedVariables false
set_option linter.unusedSimpArgs false
set_option linter.constructorNameAsVariable false
set_option linter.unusedSectionVars false
namespace Go.Proofs.YtbmekbpgoakkbaaGreatDoor.Vx
open Go

/-! ### Tries -/
inductive T (α : Type) where
  | nil
  | node (v : α) (l r : T α)

noncomputable def T.get {α : Type} (d : α) (t : T α) : Nat → α :=
  T.rec (motive := fun _ => Nat → α) (fun _ => d)
    (fun v _ _ ihl ihr i => Nat.rec (motive := fun _ => α) v
      (fun j _ => Nat.rec (motive := fun _ => α) (ihl (Nat.div j 2)) (fun _ _ => ihr (Nat.div j 2)) (Nat.mod j 2)) i) t

noncomputable def T.set {α : Type} (x : α) (t : T α) : Nat → T α :=
  T.rec (motive := fun _ => Nat → T α) (fun _ => .nil)
    (fun v l r ihl ihr i => Nat.rec (motive := fun _ => T α) (.node x l r)
      (fun j _ => Nat.rec (motive := fun _ => T α) (.node v (ihl (Nat.div j 2)) r) (fun _ _ => .node v l (ihr (Nat.div j 2))) (Nat.mod j 2)) i) t

/-- the same, handed on only when it is built -/
noncomputable def T.setK {α : Type} (x : α) (t : T α) : Nat → (T α → Bool) → Bool :=
  T.rec (motive := fun _ => Nat → (T α → Bool) → Bool) (fun _ k => k .nil)
    (fun v l r ihl ihr i k => Nat.rec (motive := fun _ => Bool) (k (.node x l r))
      (fun j _ => Nat.rec (motive := fun _ => Bool) (ihl (Nat.div j 2) (fun l' => k (.node v l' r))) (fun _ _ => ihr (Nat.div j 2) (fun r' => k (.node v l r'))) (Nat.mod j 2)) i) t

/-- an empty trie with room for 2 ^ n - 1 -/
noncomputable def T.full {α : Type} (d : α) (n : Nat) : T α := Nat.rec (motive := fun _ => T α) .nil (fun _ ih => .node d ih ih) n

section
variable {α : Type} (d x : α)

theorem T.mod_two (j : Nat) : j % 2 = 0 ∨ j % 2 = 1 := by omega

theorem T.get_full (n i : Nat) : T.get d (T.full d n) i = d := by
  induction n generalizing i with
  | zero => rfl
  | succ n ih =>
    show Nat.rec (motive := fun _ => α) d (fun j _ => Nat.rec (motive := fun _ => α) (T.get d (T.full d n) (j / 2)) (fun _ _ => T.get d (T.full d n) (j / 2)) (j % 2)) i = d
    cases i with
    | zero => rfl
    | succ j =>
      show Nat.rec (motive := fun _ => α) (T.get d (T.full d n) (j / 2)) (fun _ _ => T.get d (T.full d n) (j / 2)) (j % 2) = d
      rcases T.mod_two j with h | h <;> rw [h] <;> exact ih _

theorem T.setK_eq (t : T α) : ∀ (i : Nat) (k : T α → Bool), T.setK x t i k = k (T.set x t i) := by
  induction t with
  | nil => intro i k; rfl
  | node v l r ihl ihr =>
    intro i k
    cases i with
    | zero => rfl
    | succ j =>
      show Nat.rec (motive := fun _ => Bool) (T.setK x l (j / 2) (fun l' => k (.node v l' r))) (fun _ _ => T.setK x r (j / 2) (fun r' => k (.node v l r'))) (j % 2)
        = k (Nat.rec (motive := fun _ => T α) (.node v (T.set x l (j / 2)) r) (fun _ _ => .node v l (T.set x r (j / 2))) (j % 2))
      rcases T.mod_two j with h | h <;> rw [h]
      · exact ihl _ _
      · exact ihr _ _

theorem T.get_set_ne (t : T α) : ∀ (i j : Nat), j ≠ i → T.get d (T.set x t i) j = T.get d t j := by
  induction t with
  | nil => intro i j _; rfl
  | node v l r ihl ihr =>
    intro i j hij
    cases i with
    | zero =>
      cases j with
      | zero => exact absurd rfl hij
      | succ j => rfl
    | succ i =>
      have e : T.set x (.node v l r) (i + 1) = Nat.rec (motive := fun _ => T α) (.node v (T.set x l (i / 2)) r) (fun _ _ => .node v l (T.set x r (i / 2))) (i % 2) := rfl
      cases j with
      | zero => rw [e]; rcases T.mod_two i with h | h <;> rw [h] <;> rfl
      | succ j =>
        have g : ∀ l r : T α, T.get d (.node v l r) (j + 1) = Nat.rec (motive := fun _ => α) (T.get d l (j / 2)) (fun _ _ => T.get d r (j / 2)) (j % 2) := fun _ _ => rfl
        rw [e, g]
        rcases T.mod_two i with h | h <;> rw [h] <;> (show T.get d (.node v _ _) (j + 1) = _) <;> rw [g] <;> rcases T.mod_two j with h' | h' <;> rw [h']
        · exact ihl _ _ (by omega)
        · rfl
        · rfl
        · exact ihr _ _ (by omega)

theorem T.get_set_eq (t : T α) : ∀ (i : Nat), T.get d (T.set x t i) i = x ∨ T.get d (T.set x t i) i = d := by
  induction t with
  | nil => intro i; exact .inr rfl
  | node v l r ihl ihr =>
    intro i
    cases i with
    | zero => exact .inl rfl
    | succ i =>
      have e : T.set x (.node v l r) (i + 1) = Nat.rec (motive := fun _ => T α) (.node v (T.set x l (i / 2)) r) (fun _ _ => .node v l (T.set x r (i / 2))) (i % 2) := rfl
      have g : ∀ l r : T α, T.get d (.node v l r) (i + 1) = Nat.rec (motive := fun _ => α) (T.get d l (i / 2)) (fun _ _ => T.get d r (i / 2)) (i % 2) := fun _ _ => rfl
      rw [e]
      rcases T.mod_two i with h | h <;> rw [h] <;> (show T.get d (.node v _ _) (i + 1) = _ ∨ T.get d (.node v _ _) (i + 1) = _) <;> rw [g, h]
      · exact ihl _
      · exact ihr _
end

/-! ### Strings, packed: the bytes as digits to the base 256, the first byte the lowest -/
def unpack : Nat → Nat → List UInt8
  | 0, _ => []
  | l + 1, n => UInt8.ofNat (n % 256) :: unpack l (n / 256)

noncomputable def pack (l : List UInt8) : Nat := List.rec (motive := fun _ => Nat) 0 (fun b _ ih => b.toNat + 256 * ih) l

def str (l n : Nat) : ByteArray := ⟨(unpack l n).toArray⟩

theorem pack_nil : pack [] = 0 := rfl
theorem pack_cons (b : UInt8) (l : List UInt8) : pack (b :: l) = b.toNat + 256 * pack l := rfl

@[simp] theorem unpack_length (l n : Nat) : (unpack l n).length = l := by
  induction l generalizing n with
  | zero => rfl
  | succ l ih => simp [unpack, ih]

theorem unpack_pack (l : List UInt8) : unpack l.length (pack l) = l := by
  induction l with
  | nil => rfl
  | cons b l ih =>
    have hb : b.toNat < 256 := b.toNat_lt
    have h1 : (b.toNat + 256 * pack l) % 256 = b.toNat := by omega
    have h2 : (b.toNat + 256 * pack l) / 256 = pack l := by omega
    rw [pack_cons, List.length_cons, unpack, h1, h2, ih]
    simp

theorem unpack_mod (l : Nat) : ∀ n, unpack l (n % 256 ^ l) = unpack l n := by
  induction l with
  | zero => intro n; rfl
  | succ l ih =>
    intro n
    have h1 : n % 256 ^ (l + 1) % 256 = n % 256 := Nat.mod_mod_of_dvd n ⟨256 ^ l, by rw [Nat.pow_succ, Nat.mul_comm]⟩
    have h2 : n % 256 ^ (l + 1) / 256 = n / 256 % 256 ^ l := by
      rw [Nat.pow_succ, Nat.mul_comm, Nat.mod_mul_right_div_self]
    simp only [unpack, h1, h2, ih]

theorem unpack_append (a : Nat) : ∀ (x b y : Nat), unpack a x ++ unpack b y = unpack (a + b) (x % 256 ^ a + y * 256 ^ a) := by
  induction a with
  | zero => intro x b y; simp [unpack, Nat.mod_one]
  | succ a ih =>
    intro x b y
    have e : a + 1 + b = a + b + 1 := by omega
    have p : 256 ^ (a + 1) = 256 * 256 ^ a := by rw [Nat.pow_succ, Nat.mul_comm]
    have m1 : (x % 256 ^ (a + 1) + y * 256 ^ (a + 1)) % 256 = x % 256 := by
      rw [p, show y * (256 * 256 ^ a) = 256 * (y * 256 ^ a) by rw [Nat.mul_left_comm], Nat.add_mul_mod_self_left, Nat.mod_mul_right_mod]
    have m2 : (x % 256 ^ (a + 1) + y * 256 ^ (a + 1)) / 256 = x / 256 % 256 ^ a + y * 256 ^ a := by
      rw [p, show y * (256 * 256 ^ a) = 256 * (y * 256 ^ a) by rw [Nat.mul_left_comm], Nat.add_mul_div_left _ _ (by omega), Nat.mod_mul, Nat.add_comm (x % 256), Nat.mul_add_div (by omega), Nat.div_eq_of_lt (Nat.mod_lt x (by omega : 256 > 0))]
      simp
    rw [e, unpack, unpack, m1, m2, List.cons_append, ih]

theorem unpack_drop (i : Nat) : ∀ (l n : Nat), (unpack l n).drop i = unpack (l - i) (n / 256 ^ i) := by
  induction i with
  | zero => intro l n; simp
  | succ i ih =>
    intro l n
    cases l with
    | zero => simp [unpack]
    | succ l =>
      rw [unpack, List.drop_succ_cons, ih, Nat.div_div_eq_div_mul]
      have : 256 * 256 ^ i = 256 ^ (i + 1) := by rw [Nat.pow_succ, Nat.mul_comm]
      rw [this, Nat.add_sub_add_right]

theorem unpack_take (i : Nat) : ∀ (l n : Nat), i ≤ l → (unpack l n).take i = unpack i n := by
  induction i with
  | zero => intro l n _; rfl
  | succ i ih =>
    intro l n h
    cases l with
    | zero => omega
    | succ l => rw [unpack, List.take_succ_cons, ih _ _ (by omega), unpack]

theorem unpack_get (l n i : Nat) (h : i < l) : (unpack l n)[i]? = some (UInt8.ofNat (n / 256 ^ i % 256)) := by
  have h1 := unpack_drop i l n
  obtain ⟨m, hm⟩ : ∃ m, l - i = m + 1 := ⟨l - i - 1, by omega⟩
  rw [hm, unpack] at h1
  have := congrArg (fun l => l[0]?) h1
  simpa using this

theorem unpack_inj (l : Nat) : ∀ (x y : Nat), unpack l x = unpack l y ↔ x % 256 ^ l = y % 256 ^ l := by
  induction l with
  | zero => intro x y; simp [unpack, Nat.mod_one]
  | succ l ih =>
    intro x y
    have p : 256 ^ (l + 1) = 256 * 256 ^ l := by rw [Nat.pow_succ, Nat.mul_comm]
    have hb : ∀ a b : Nat, a < 256 → b < 256 → (UInt8.ofNat a = UInt8.ofNat b ↔ a = b) := by
      intro a b ha hb
      constructor
      · intro h
        have := congrArg UInt8.toNat h
        rw [UInt8.toNat_ofNat', UInt8.toNat_ofNat', Nat.mod_eq_of_lt (by simpa using ha), Nat.mod_eq_of_lt (by simpa using hb)] at this
        exact this
      · intro h; rw [h]
    rw [unpack, unpack, List.cons.injEq, ih, hb _ _ (Nat.mod_lt _ (by omega)) (Nat.mod_lt _ (by omega)), p, Nat.mod_mul, Nat.mod_mul]
    have k1 := Nat.mod_lt x (by omega : 256 > 0)
    have k2 := Nat.mod_lt y (by omega : 256 > 0)
    generalize x % 256 = a at *
    generalize y % 256 = b at *
    generalize x / 256 % 256 ^ l = c at *
    generalize y / 256 % 256 ^ l = e at *
    omega

@[simp] theorem str_size (l n : Nat) : (str l n).size = l := by simp [str, ByteArray.size]

theorem str_toList (l n : Nat) : (str l n).data.toList = unpack l n := by simp [str]

/-! ### Expressions over what a law is given -/
inductive Srt where
  | b | i (k : IntKind) | f | s
inductive SE where
  | sy (n : Nat)
  | lb (x : Bool)
  | li (k : IntKind) (n : Int)
  | lf (x : Nat)
  | ls (l x : Nat)
  | len (e : SE)
  | not (e : SE)
  | conv (k : IntKind) (e : SE)
  | rem (m : Nat) (e : SE)
  | fn (c : Nat) (e : SE)
  | fn2 (c : Nat) (a b : SE)
  | cmp (op : BinOp) (a b : SE)
  | and (a b : SE)
abbrev Facts := List (SE × Bool)

/-! ### Abstract values -/
inductive AV where
  | no                              -- nothing is known
  | un                              -- 'undef'
  | b (x : Bool)
  | i (k : IntKind) (n : Int)
  | f (k : FloatKind) (bits : Nat)
  | nan                             -- some NaN of 64 bits
  | s (len bits : Nat)
  | pn
  | p (id off : Nat)
  | pg (g off : Nat)
  | sn
  | sl (id off len cap : Nat)
  | so (id off len used : Nat)      -- its capacity: the block's room less 'used'
  | fn (fn : Fn) (first captured : List AV)
  | fnil
  | ifc (t : TypeId) (v : AV)
  | inil
  | ag (cs : List AV)
  | tu (vs : List AV)
  | mp (id : Nat)
  | mpn
  | ii (k : IntKind)                -- some whole number
  | pk (v : AV)                     -- no value: what a panic carries
  | x (s : Srt) (e : SE)            -- what an expression comes to
  | any                             -- some value of one cell
  | sx (id m : Nat) (len cap : SE)  -- a slice from its block's beginning, of at least m
  | sz (id : Nat) (len : SE)        -- no slice where the spot has no room, else one from the spot on; its capacity: the room less one
  | sr (id : Nat) (len : SE)         -- a slice from the spot on; its capacity: the room

structure Spot where
  blk : Nat
  base : Nat
  room : Nat

abbrev Env := Nat → Option Spot

/-- a symbol's value, written in numbers -/
def symK (n : Nat) : IntKind := match n with
  | 0 => .i8 | 1 => .i16 | 2 => .i32 | 3 => .i64 | 4 => .u8 | 5 => .u16 | 6 => .u32 | _ => .u64
def symV (L : Spot) : Value := match L.base % 3 with
  | 0 => .float .f64 L.room
  | 1 => .int (symK (L.base / 3)) (if L.room % 2 = 0 then ((L.room / 2 : Nat) : Int) else -((L.room / 2 : Nat) : Int) - 1)
  | _ => .string (str (L.base / 3) L.room)

def cmpI (op : BinOp) (a b : Int) : Option Bool := match op with
  | .eql => some (a == b) | .neq => some (a != b) | .lss => some (decide (a < b)) | .leq => some (decide (a ≤ b)) | .gtr => some (decide (a > b)) | .geq => some (decide (a ≥ b))
  | _ => none
def cmpF (op : BinOp) (a b : Nat) : Option Bool := match op with
  | .eql => some (FloatKind.f64.format.order a b == some .eq) | .neq => some (FloatKind.f64.format.order a b != some .eq) | .lss => some (FloatKind.f64.format.order a b == some .lt)
  | .leq => some (FloatKind.f64.format.order a b == some .lt || FloatKind.f64.format.order a b == some .eq) | .gtr => some (FloatKind.f64.format.order a b == some .gt)
  | .geq => some (FloatKind.f64.format.order a b == some .gt || FloatKind.f64.format.order a b == some .eq)
  | _ => none
def cmpS (op : BinOp) (a b : ByteArray) : Option Bool := match op with
  | .eql => some (a.toList == b.toList) | .neq => some (!(a.toList == b.toList)) | .lss => some (Op.bytesLess a.toList b.toList) | .leq => some (Op.bytesLess a.toList b.toList || a.toList == b.toList)
  | .gtr => some (!(Op.bytesLess a.toList b.toList || a.toList == b.toList)) | .geq => some (!Op.bytesLess a.toList b.toList)
  | _ => none
def cmpV (op : BinOp) (X Y : Value) : Option Bool := match X, Y with
  | .int k a, .int k' b => if k = k' then cmpI op a b else none
  | .float .f64 a, .float .f64 b => cmpF op a b
  | .string a, .string b => cmpS op a b
  | .bool a, .bool b => (match op with | .eql => some (a == b) | _ => none)
  | _, _ => none

/-! Functions of the program's own ground, as plain Lean: floats that may be, texts' worths, numbers' texts -/
def feq (a b : Nat) : Bool := FloatKind.f64.format.order a b == some .eq
def fle (a b : Nat) : Bool := FloatKind.f64.format.order a b == some .lt || FloatKind.f64.format.order a b == some .eq
def truncF (x : Nat) : Nat := FloatKind.f64.encode ((FloatKind.f64.decode x).integral .zero)
def absF (x : Nat) : Nat := (IntKind.u64.wrap (BitVec.ofInt 64 (x : Int) &&& ~~~BitVec.ofInt 64 9223372036854775808).toNat).toNat
def sgnF (x : Nat) : Bool := decide (IntKind.i64.wrap (x : Int) ≤ -1)
/-- may a float be a number? -/
def mayF (x : Nat) : Bool := !feq x x || (feq (truncF x) x && fle (absF x) 0x433fffffffffffff && (!feq x 0 || !sgnF x))
/-- may a value be? (kind, number, string, place) -/
def mayV (c : Int) (x : Nat) (s : ByteArray) (r : Int) : Bool :=
  decide (c ≤ 8) && decide (0 ≤ r) && decide ((s.size : Int) ≤ 4096) &&
    (if c = 2 then (feq x 0x3ff0000000000000 || feq x 0 && mayF x) && decide (s.size = 0) && decide (r = 0)
     else if c = 3 then mayF x && decide (s.size = 0) && decide (r = 0)
     else feq x 0 && mayF x && (decide (c = 4) || decide (s.size = 0)) && (decide (5 ≤ c) || decide (r = 0)))
def blankB (b : UInt8) : Bool := b == 9 || b == 10 || b == 13 || b == 32
def bareL (l : List UInt8) : List UInt8 := ((l.reverse.dropWhile blankB).reverse).dropWhile blankB
def digitB (b : UInt8) : Bool := 48 ≤ b && b ≤ 57
def worthL (l : List UInt8) : Nat := l.foldl (fun n b => n * 10 + (b.toNat - 48)) 0
/-- digits' worth: the float's bits, and the error's number -/
def readD (minus : Bool) (d : List UInt8) : Nat × Int :=
  if d.isEmpty || !d.all digitB then (0x7ff8000000000001, 0)
  else if worthL d > 9007199254740991 || (minus && worthL d == 0) then (0, 10)
  else (FloatKind.f64.nearest (if minus then -(worthL d : Int) else worthL d), 0)
/-- a text's worth -/
def readL (l : List UInt8) : Nat × Int := match bareL l with
  | [] => (0, 0)
  | b :: t => readD (b == 45) (if b == 45 || b == 43 then t else b :: t)
/-- the byte at place t of a row of n, of u, as formatBase10 writes it -/
def rowB (n u t : Nat) : UInt8 := if t = 0 ∧ n % 2 = 1 then UInt8.ofNat (48 + u / 10 ^ (n - 1)) else UInt8.ofNat (48 + u / 10 ^ (n - 1 - t) % 10)
def rowL (nd u : Nat) : List UInt8 := (List.range nd).map (rowB nd u)
def tabAt (l : List Value) (i : Nat) : Int := match l[i]? with
  | some (.int .u64 z) => z
  | _ => 0
def ndG (l : List Value) (u : Nat) : Nat := Lib.l10 (Lib.bitLen u) + (if tabAt l (Lib.l10 (Lib.bitLen u)) ≤ (u : Int) then 1 else 0)
/-- a whole number's text, by what the table of powers holds -/
def itoaG (l : List Value) (n : Int) : List UInt8 := if 0 ≤ n ∧ n < 100 then Lib.decDigits n.toNat else if n < 0 then 45 :: rowL (ndG l n.natAbs) n.natAbs else rowL (ndG l n.natAbs) n.natAbs
def f2i (x : Nat) : Int := ((FloatKind.f64.decode x).toInt .zero).getD 0
def mayA3 (c : Int) (x : Nat) (V : List Value) : Option Value := match V with
  | [.string s, .int .i64 r] => some (.bool (mayV c x s r))
  | _ => none
def mayA2 (c : Int) (V : List Value) : Option Value := match V with
  | [.float .f64 x, .agg a] => mayA3 c x a.toList
  | _ => none
def mayA (a : Array Value) : Option Value := match a.toList with
  | [.int .u8 c, .agg b] => mayA2 c b.toList
  | _ => none

def bareV (n : Int) (x : Nat) (s : ByteArray) (r : Int) : Bool := mayV n x s r && (decide (n = 0) && (feq x 0 && (decide (s.size = 0) && decide (r = 0))))
def calledV (n : Int) (x : Nat) (s : ByteArray) (r : Int) : Bool := mayV n x s r && (decide (n = 0) || (decide (n = 7) || decide (n = 8)))
def hasB (c bit : Nat) : Bool := Nat.beq (c / bit % 2) 1
/-- may a descriptor be? -/
def chkV (c : Nat) (v1 b1 b2 c2 b3 c3 w e f : Bool) : Bool :=
  Nat.ble c 63 && (!((hasB c 1 || hasB c 2) && (hasB c 4 || hasB c 8)) && ((if hasB c 1 then v1 else b1) && ((if hasB c 4 then c2 else b2) && ((if hasB c 8 then c3 else b3) && ((!w || hasB c 2) && ((!e || hasB c 16) && (!f || hasB c 32)))))))
def unpackV : Nat → Value → List Value
  | 0, v => [v]
  | n + 1, .agg a => (match a.toList with
    | [x, y] => x :: unpackV n y
    | _ => [])
  | _, _ => []
def chkL (l : List Value) : Option Bool := match l with
  | [.int .u8 c, .int .u8 n1, .float .f64 x1, .string s1, .int .i64 r1, .int .u8 n2, .float .f64 x2, .string s2, .int .i64 r2, .int .u8 n3, .float .f64 x3, .string s3, .int .i64 r3, .bool w, .bool e, .bool f] =>
    some (chkV c.toNat (mayV n1 x1 s1 r1) (bareV n1 x1 s1 r1) (bareV n2 x2 s2 r2) (calledV n2 x2 s2 r2) (bareV n3 x3 s3 r3) (calledV n3 x3 s3 r3) w e f)
  | _ => none

/-! Rows of cells in one number: a cell is a symbol's two numbers -/
def pairN (a b : Nat) : Nat := 2 ^ a * (2 * b + 1)
theorem pairN_pos (a b : Nat) : 0 < pairN a b := Nat.mul_pos (Nat.pow_pos (by omega)) (by omega)
theorem pairN_inj : ∀ {a b c d : Nat}, pairN a b = pairN c d → a = c ∧ b = d
  | 0, b, 0, d, h => by unfold pairN at h; exact ⟨rfl, by omega⟩
  | 0, b, c + 1, d, h => by unfold pairN at h; rw [Nat.pow_succ, Nat.mul_comm (2 ^ c) 2, Nat.mul_assoc] at h; simp at h; omega
  | a + 1, b, 0, d, h => by unfold pairN at h; rw [Nat.pow_succ, Nat.mul_comm (2 ^ a) 2, Nat.mul_assoc] at h; simp at h; omega
  | a + 1, b, c + 1, d, h => by
    have h2 : pairN a b = pairN c d := by
      unfold pairN at h ⊢
      rw [Nat.pow_succ, Nat.pow_succ, Nat.mul_comm (2 ^ a) 2, Nat.mul_comm (2 ^ c) 2, Nat.mul_assoc, Nat.mul_assoc] at h
      omega
    obtain ⟨e1, e2⟩ := pairN_inj h2
    exact ⟨by omega, e2⟩
/-- an address in numbers: of a slice without room, which may point anywhere -/
def encA (a : Addr) : Nat := pairN a.block (pairN a.off (match a.spot with | none => 0 | some s => s + 1))
theorem encA_pos (a : Addr) : encA a ≠ 0 := Nat.pos_iff_ne_zero.1 (pairN_pos _ _)
theorem encA_inj {a b : Addr} (h : encA a = encA b) : a = b := by
  obtain ⟨h1, h2⟩ := pairN_inj h
  obtain ⟨h2, h3⟩ := pairN_inj h2
  obtain ⟨b1, o1, s1⟩ := a
  obtain ⟨b2, o2, s2⟩ := b
  cases h1; cases h2
  cases s1 <;> cases s2 <;> simp_all
open Classical in
/-- an address out of its number -/
noncomputable def adrV (n : Nat) : Value := if h : ∃ a : Addr, encA a = n then .slice (some h.choose) 0 0 else .slice none 0 0
/-- what a slice without room is: nothing, or one that points somewhere -/
noncomputable def nulV (n : Nat) : Value := if n = 0 then .slice none 0 0 else adrV n
theorem nulV_enc (a : Addr) : nulV (encA a) = .slice (some a) 0 0 := by
  unfold nulV adrV
  have h : ∃ b : Addr, encA b = encA a := ⟨a, rfl⟩
  rw [if_neg (encA_pos a), dif_pos h, encA_inj h.choose_spec]
theorem nulV_or (n : Nat) : ∃ a, nulV n = .slice a 0 0 := by
  unfold nulV adrV
  by_cases h0 : n = 0
  · rw [if_pos h0]; exact ⟨_, rfl⟩
  rw [if_neg h0]
  by_cases h : ∃ a : Addr, encA a = n
  · rw [dif_pos h]; exact ⟨_, rfl⟩
  · rw [dif_neg h]; exact ⟨_, rfl⟩
def codeP : List (Nat × Nat) → Nat
  | [] => 0
  | p :: l => pairN p.1 (pairN p.2 (codeP l))
def codeR : List (List (Nat × Nat)) → Nat
  | [] => 0
  | r :: l => pairN (codeP r) (codeR l)
theorem codeP_inj : ∀ {l m : List (Nat × Nat)}, codeP l = codeP m → l = m
  | [], [], _ => rfl
  | [], p :: m, h => by have := pairN_pos p.1 (pairN p.2 (codeP m)); simp only [codeP] at h; omega
  | p :: l, [], h => by have := pairN_pos p.1 (pairN p.2 (codeP l)); simp only [codeP] at h; omega
  | p :: l, q :: m, h => by
    simp only [codeP] at h
    obtain ⟨e1, e2⟩ := pairN_inj h
    obtain ⟨e2, e3⟩ := pairN_inj e2
    rw [codeP_inj e3, Prod.ext e1 e2]
theorem codeR_inj : ∀ {l m : List (List (Nat × Nat))}, codeR l = codeR m → l = m
  | [], [], _ => rfl
  | [], p :: m, h => by have := pairN_pos (codeP p) (codeR m); simp only [codeR] at h; omega
  | p :: l, [], h => by have := pairN_pos (codeP p) (codeR l); simp only [codeR] at h; omega
  | p :: l, q :: m, h => by
    simp only [codeR] at h
    obtain ⟨e1, e2⟩ := pairN_inj h
    rw [codeR_inj e2, codeP_inj e1]
open Classical in
noncomputable def unR (n : Nat) : List (List (Nat × Nat)) := if h : ∃ l, codeR l = n then Classical.choose h else []
theorem unR_code (l : List (List (Nat × Nat))) : unR (codeR l) = l := by
  have h : ∃ m, codeR m = codeR l := ⟨l, rfl⟩
  unfold unR
  rw [dif_pos h]
  exact codeR_inj (Classical.choose_spec h)
def cellV (p : Nat × Nat) : Value := symV ⟨0, p.1, p.2⟩
/-- a cell told by pairs: a symbol; a slice, nil or not; a boolean -/
def cellW : List (Nat × Nat) → Value
  | [] => .slice none 0 0
  | [p] => symV ⟨0, p.1, p.2⟩
  | [p, q] => .slice (some ⟨p.1, p.2, none⟩) q.1 q.2
  | p :: _ => .bool (decide (p.1 = 1))
/-- a cell of a row of rows -/
noncomputable def rowCell (N e : Int) (c : Nat) : Option Value := ((unR N.toNat)[e.toNat]?).bind fun r => (r[c]?).map cellV
/-- functions by their numbers: 0, Float64bits; 1, Float64frombits; 2, Trunc; 3, uint64 as int64; 4, &^ 1 << 63; 5, 6, a text's worth and its error; 7, may a float be; 8, a float's text; 9, an int's text; 10, may a value be; 11, a float as an int; 12, an int as a float; 13, a bool as a float; 14, may a descriptor be -/
noncomputable def apf (c : Nat) (V : Value) : Option Value := match c, V with
  | 0, .float .f64 x => some (.int .u64 x)
  | 1, .int .u64 n => some (.float .f64 n.toNat)
  | 2, .float .f64 x => (match FloatKind.f64.decode x with
    | .nan _ _ => none
    | d => some (.float .f64 (FloatKind.f64.encode (d.integral .zero))))
  | 3, .int .u64 n => some (.int .i64 (IntKind.i64.wrap n))
  | 4, .int .u64 n => some (.int .u64 (IntKind.u64.wrap (BitVec.ofInt 64 n &&& ~~~BitVec.ofInt 64 9223372036854775808).toNat))
  | 5, .string s => some (.float .f64 (readL s.toList).1)
  | 6, .string s => some (.int .i64 (readL s.toList).2)
  | 7, .float .f64 x => some (.bool (mayF x))
  | 10, .agg a => mayA a
  | 11, .float .f64 x => (match FloatKind.f64.decode x with
    | .number s m i => some (.int .i64 (f2i x))
    | _ => none)
  | 12, .int .i64 n => some (.float .f64 (FloatKind.f64.nearest n))
  | 13, .bool b => some (.float .f64 (if b then 0x3ff0000000000000 else 0))
  | 14, V => (chkL (unpackV 15 V)).map .bool
  | 20, .int .i64 N => some (.int .i64 (unR N.toNat).length)
  | _, _ => none
def boolOf : Option Value → Option Value
  | some (.int _ n) => some (.bool (n != 0))
  | _ => none
/-- functions of two: 0, a pair; 1, a sum of floats; 2, a difference; 3, strings put together; 4, a sum of whole numbers -/
noncomputable def apf2 (c : Nat) (X Y : Value) : Option Value := match c, X, Y with
  | 0, X, Y => some (.agg #[X, Y])
  | 1, .float .f64 x, .float .f64 y => (FloatKind.f64.format.add x y).map (.float .f64)
  | 2, .float .f64 x, .float .f64 y => (FloatKind.f64.format.sub x y).map (.float .f64)
  | 3, .string a, .string b => if (a.size + b.size : Int) ≤ 9223372036854775807 then some (.string (a ++ b)) else none
  | 6, T, .int .i64 n => some (.string ⟨(itoaG (unpackV 19 T) n).toArray⟩)
  | 5, .int .i64 a, .int .i64 b => if -9223372036854775808 ≤ a - b ∧ a - b ≤ 9223372036854775807 then some (.int .i64 (a - b)) else none
  | 7, .string s, .string t => some (.int .i64 (Lib.index s.data.toList t.data.toList))
  | 8, .string s, .agg a => (match a.toList with
    | [.int .i64 l, .int .i64 m] => some (.string (s.extract l.toNat m.toNat))
    | _ => none)
  | 9, .int .u8 a, .int .u8 b => some (.int .u8 (IntKind.u8.wrap (BitVec.ofInt 8 a &&& BitVec.ofInt 8 b).toNat))
  | 4, .int .i64 a, .int .i64 b => if -9223372036854775808 ≤ a + b ∧ a + b ≤ 9223372036854775807 then some (.int .i64 (a + b)) else none
  | c, .int .i64 N, .int .i64 e => if 300 ≤ c then boolOf (rowCell N e (c - 300)) else if 200 ≤ c then rowCell N e (c - 200) else none
  | _, _, _ => none

noncomputable def den (E : Env) : SE → Option Value
  | .sy n => (E n).map symV
  | .lb x => some (.bool x)
  | .li k n => some (.int k n)
  | .lf x => some (.float .f64 x)
  | .ls l x => some (.string (str l x))
  | .len e => (match den E e with | some (.string s) => some (.int .i64 s.size) | _ => none)
  | .not e => (match den E e with | some (.bool x) => some (.bool (!x)) | _ => none)
  | .conv k e => (match den E e with | some (.int _ n) => (if k.min ≤ n ∧ n ≤ k.max then some (.int k n) else none) | _ => none)
  | .rem m e => (match den E e with | some (.int k n) => (if 0 ≤ n ∧ 0 < m then some (.int k (n % (m : Int))) else none) | _ => none)
  | .fn c e => (match den E e with | some V => apf c V | _ => none)
  | .fn2 c a b => (match den E a, den E b with | some X, some Y => apf2 c X Y | _, _ => none)
  | .cmp op a b => (match den E a, den E b with | some X, some Y => (cmpV op X Y).map .bool | _, _ => none)
  | .and a b => (match den E a, den E b with | some (.bool x), some (.bool y) => some (.bool (x && y)) | _, _ => none)

/-- what is known of a value by its sort alone -/
def hasS : Srt → Value → Prop
  | .b, V => ∃ x, V = .bool x
  | .i k, V => ∃ n, V = .int k n ∧ k.min ≤ n ∧ n ≤ k.max
  | .f, V => ∃ x, V = .float .f64 x ∧ x < 18446744073709551616
  | .s, V => ∃ s : ByteArray, V = .string s ∧ (s.size : Int) ≤ 9223372036854775807

def isNaN0 (bits : Nat) : Prop := ∃ s m, FloatKind.f64.decode bits = .nan s m
def isNaN64 (bits : Nat) : Prop := isNaN0 bits ∧ bits < 18446744073709551616

mutual
def Rv (E : Env) : AV → Value → Prop
  | .no, _ => True
  | .un, V => V = undef
  | .b x, V => V = .bool x
  | .i k n, V => V = .int k n
  | .f k x, V => V = .float k x
  | .nan, V => ∃ x, V = .float .f64 x ∧ isNaN64 x
  | .s l n, V => V = .string (str l n)
  | .pn, V => V = .pointer none
  | .p id off, V => ∃ L, E id = some L ∧ V = .pointer (some ⟨L.blk, L.base + off, none⟩)
  | .pg g off, V => V = .pointer (some ⟨g, off, none⟩)
  | .sn, V => V = .slice none 0 0
  | .sl id off len cap, V => ∃ L, E id = some L ∧ V = .slice (some ⟨L.blk, L.base + off, none⟩) len cap
  | .so id off len used, V => ∃ L, E id = some L ∧ V = .slice (some ⟨L.blk, L.base + off, none⟩) len (L.room - used) ∧ used + len ≤ L.room
  | .fn g first captured, V => ∃ vs ws, V = .func g vs.toArray ws.toArray ∧ RvL E first vs ∧ RvL E captured ws
  | .fnil, V => V = .nilFunc
  | .ifc t v, V => ∃ W, V = .iface t W ∧ Rv E v W
  | .inil, V => V = .nilIface
  | .ag cs, V => ∃ vs, V = .agg vs.toArray ∧ RvL E cs vs
  | .tu cs, V => ∃ vs, V = .tuple vs.toArray ∧ RvL E cs vs
  | .mp id, V => ∃ L, E id = some L ∧ V = .map (some L.blk)
  | .mpn, V => V = .map none
  | .ii k, V => ∃ n, V = .int k n
  | .pk _, _ => False
  | .x s e, V => den E e = some V ∧ hasS s V
  | .any, V => V.oneCell' = true ∧ V.cells = #[V]
  | .sx id m len cap, V => ∃ (L : Spot) (n c : Nat), E id = some L ∧ den E len = some (.int .i64 n) ∧ den E cap = some (.int .i64 c) ∧ m ≤ n ∧ n ≤ 9223372036854775807 ∧ V = .slice (some ⟨L.blk, L.base, none⟩) n c
  | .sz id len, V => ∃ (L : Spot) (n : Nat), E id = some L ∧ den E len = some (.int .i64 n) ∧ n ≤ 9223372036854775807 ∧ (L.room = 0 → n = 0) ∧ V = (if L.room = 0 then nulV L.base else .slice (some ⟨L.blk, L.base, none⟩) n (L.room - 1))
  | .sr id len, V => ∃ (L : Spot) (n : Nat), E id = some L ∧ den E len = some (.int .i64 n) ∧ n ≤ 9223372036854775807 ∧ n ≤ L.room ∧ V = .slice (some ⟨L.blk, L.base, none⟩) n L.room
def RvL (E : Env) : List AV → List Value → Prop
  | [], vs => vs = []
  | a :: as, vs => ∃ v vs', vs = v :: vs' ∧ Rv E a v ∧ RvL E as vs'
end

def Env.le (E E' : Env) : Prop := ∀ i L, E i = some L → E' i = some L
theorem Env.le_refl (E : Env) : E.le E := fun _ _ h => h
theorem den_mono {E E' : Env} (h : E.le E') : ∀ (e : SE) (V : Value), den E e = some V → den E' e = some V := by
  intro e
  induction e with
  | sy n =>
    intro V hV
    simp only [den] at *
    cases hn : E n with
    | none => rw [hn] at hV; cases hV
    | some L => rw [h n L hn]; rw [hn] at hV; exact hV
  | lb | li | lf | ls => intro V hV; exact hV
  | len e ih | not e ih | conv k e ih | rem m e ih | fn c e ih =>
    intro V hV
    simp only [den] at *
    cases he : den E e with
    | none => rw [he] at hV; cases hV
    | some W => rw [ih W he]; rw [he] at hV; exact hV
  | cmp op a b iha ihb | and a b iha ihb | fn2 c a b iha ihb =>
    intro V hV
    simp only [den] at *
    cases ha : den E a with
    | none => rw [ha] at hV; cases hV
    | some W =>
      cases hb : den E b with
      | none => rw [ha, hb] at hV; cases W <;> cases hV
      | some U => rw [iha W ha, ihb U hb]; rw [ha, hb] at hV; exact hV
theorem Env.le_trans {A B C : Env} (h : A.le B) (k : B.le C) : A.le C := fun i L e => k i L (h i L e)

mutual
theorem Rv.mono {E E' : Env} (h : E.le E') : ∀ (a : AV) (V : Value), Rv E a V → Rv E' a V
  | .no, _, _ => by simp [Rv]
  | .un, _, r => by simpa [Rv] using r
  | .b _, _, r => by simpa [Rv] using r
  | .i _ _, _, r => by simpa [Rv] using r
  | .f _ _, _, r => by simpa [Rv] using r
  | .nan, _, r => by simpa [Rv] using r
  | .s _ _, _, r => by simpa [Rv] using r
  | .pn, _, r => by simpa [Rv] using r
  | .p _ _, _, r => by rw [Rv] at *; obtain ⟨L, e, r⟩ := r; exact ⟨L, h _ _ e, r⟩
  | .pg _ _, _, r => by simpa [Rv] using r
  | .sn, _, r => by simpa [Rv] using r
  | .sl _ _ _ _, _, r => by rw [Rv] at *; obtain ⟨L, e, r⟩ := r; exact ⟨L, h _ _ e, r⟩
  | .so _ _ _ _, _, r => by rw [Rv] at *; obtain ⟨L, e, r⟩ := r; exact ⟨L, h _ _ e, r⟩
  | .fn _ as bs, _, r => by rw [Rv] at *; obtain ⟨vs, ws, e, r1, r2⟩ := r; exact ⟨vs, ws, e, RvL.mono h as vs r1, RvL.mono h bs ws r2⟩
  | .fnil, _, r => by simpa [Rv] using r
  | .ifc _ v, _, r => by rw [Rv] at *; obtain ⟨W, e, r⟩ := r; exact ⟨W, e, Rv.mono h v W r⟩
  | .inil, _, r => by simpa [Rv] using r
  | .ag cs, _, r => by rw [Rv] at *; obtain ⟨vs, e, r⟩ := r; exact ⟨vs, e, RvL.mono h cs vs r⟩
  | .tu cs, _, r => by rw [Rv] at *; obtain ⟨vs, e, r⟩ := r; exact ⟨vs, e, RvL.mono h cs vs r⟩
  | .mp _, _, r => by rw [Rv] at *; obtain ⟨L, e, r⟩ := r; exact ⟨L, h _ _ e, r⟩
  | .mpn, _, r => by simpa [Rv] using r
  | .ii _, _, r => by simpa [Rv] using r
  | .pk _, _, r => by simp [Rv] at r
  | .x _ e, V, r => by rw [Rv] at *; exact ⟨den_mono h e V r.1, r.2⟩
  | .any, _, r => by simpa [Rv] using r
  | .sx _ _ len cap, _, r => by rw [Rv] at *; obtain ⟨L, n, c, e, e1, e2, r⟩ := r; exact ⟨L, n, c, h _ _ e, den_mono h len _ e1, den_mono h cap _ e2, r⟩
  | .sz _ len, _, r => by rw [Rv] at *; obtain ⟨L, n, e, e1, r⟩ := r; exact ⟨L, n, h _ _ e, den_mono h len _ e1, r⟩
  | .sr _ len, _, r => by rw [Rv] at *; obtain ⟨L, n, e, e1, r⟩ := r; exact ⟨L, n, h _ _ e, den_mono h len _ e1, r⟩
theorem RvL.mono {E E' : Env} (h : E.le E') : ∀ (as : List AV) (vs : List Value), RvL E as vs → RvL E' as vs
  | [], _, r => by simpa [RvL] using r
  | a :: as, _, r => by
    rw [RvL] at *
    obtain ⟨v, vs', e, r1, r2⟩ := r
    exact ⟨v, vs', e, Rv.mono h a v r1, RvL.mono h as vs' r2⟩
end

theorem RvL.length {E : Env} : ∀ {as : List AV} {vs : List Value}, RvL E as vs → vs.length = as.length
  | [], _, r => by simp [RvL] at r; simp [r]
  | _ :: _, _, r => by
    rw [RvL] at r
    obtain ⟨_, _, rfl, _, r2⟩ := r
    simp [r2.length]

theorem RvL.get {E : Env} : ∀ {as : List AV} {vs : List Value}, RvL E as vs → ∀ (j : Nat) (a : AV), as[j]? = some a → ∃ v, vs[j]? = some v ∧ Rv E a v
  | [], _, _, _, _, h => by simp at h
  | _ :: _, _, r, j, a, h => by
    rw [RvL] at r
    obtain ⟨v, vs', rfl, r1, r2⟩ := r
    cases j with
    | zero => simp at h; subst h; exact ⟨v, rfl, r1⟩
    | succ j => exact r2.get j a (by simpa using h)

theorem RvL.append {E : Env} : ∀ {as : List AV} {vs : List Value} {bs : List AV} {ws : List Value}, RvL E as vs → RvL E bs ws → RvL E (as ++ bs) (vs ++ ws)
  | [], _, _, _, r, r' => by simp [RvL] at r; subst r; simpa using r'
  | _ :: _, _, _, _, r, r' => by
    rw [RvL] at r
    obtain ⟨v, vs', rfl, r1, r2⟩ := r
    rw [List.cons_append, RvL]
    exact ⟨v, vs' ++ _, rfl, r1, r2.append r'⟩

theorem RvL.nil {E : Env} : RvL E [] [] := by simp [RvL]
theorem RvL.cons {E : Env} {a : AV} {v : Value} {as : List AV} {vs : List Value} (h : Rv E a v) (r : RvL E as vs) : RvL E (a :: as) (v :: vs) := by
  rw [RvL]; exact ⟨v, vs, rfl, h, r⟩

/-! ### Cells, in rows of one width -/
noncomputable def nthR (l : List AV) (i : Nat) : AV :=
  Nat.rec (motive := fun _ => List AV → AV) (fun l => List.rec (motive := fun _ => AV) .no (fun v _ _ => v) l) (fun _ ih l => List.rec (motive := fun _ => AV) .no (fun _ tl _ => ih tl) l) i l
theorem nthR_nil (i : Nat) : nthR [] i = .no := by cases i <;> rfl
theorem nthR_zero (v : AV) (l : List AV) : nthR (v :: l) 0 = v := rfl
theorem nthR_succ (v : AV) (l : List AV) (i : Nat) : nthR (v :: l) (i + 1) = nthR l i := rfl
theorem nthR_eq : ∀ (l : List AV) (i : Nat), nthR l i = l.getD i .no
  | [], i => by rw [nthR_nil]; rfl
  | v :: l, 0 => rfl
  | v :: l, i + 1 => by rw [nthR_succ, nthR_eq l i]; rfl

structure Cs where
  w : Nat
  t : T (List AV)
noncomputable def Cs.get (c : Cs) (j : Nat) : AV := nthR (T.get [] c.t (Nat.div j c.w)) (Nat.mod j c.w)

/-! ### Abstract memory -/
structure Ent where
  key : AV
  val : AV
  born : Nat

/-- what is known of a block beside its cells: the element's size where the room is open, else 0; the element's type; whether it begins at the block's beginning -/
structure Esz where
  sz : Nat
  el : Option TypeId
  z : Bool
instance : OfNat Esz 0 := ⟨⟨0, none, false⟩⟩

inductive AO where
  | gone
  | cells (n : Nat) (esz : Esz) (c : Cs)      -- at least n cells
  | map (es : List Ent) (clock : Nat)
  | siter (len bits pos : Nat)
  | glob (g n : Nat) (c : T AV)         -- a package variable: its block, cells that are known, never written
  | floor (n : Nat)                     -- at place 0: blocks below n are not written
  | facts (fs : Facts)                  -- what is known of the expressions
  | rows (el : TypeId) (len : SE)       -- a row of values, so many as an expression tells, in a block of its own
  | blob (el : TypeId) (sz S : Nat) (l : List AV) (len : SE)       -- a row of elements of sz cells in a block of its own: the cells that the symbol S tells, then l; so many elements as an expression tells
  | ali (p off q : Nat) (cap : SE)      -- not alive: this place is another's, q elements on, of a row whose capacity an expression tells

def AO.live : AO → Bool
  | .gone => false
  | .floor _ => false
  | .facts _ => false
  | .ali _ _ _ _ => false
  | _ => true

def REnt (E : Env) (e : Ent) (m : MapEntry) : Prop := Rv E e.key m.key ∧ Rv E e.val m.val ∧ e.born = m.born

def REntL (E : Env) : List Ent → List MapEntry → Prop
  | [], ms => ms = []
  | e :: es, ms => ∃ m ms', ms = m :: ms' ∧ REnt E e m ∧ REntL E es ms'

def Esz.ok (e : Esz) (L : Spot) (el : TypeId) (size n : Nat) : Prop :=
  (e.sz ≠ 0 → L.base + L.room * e.sz ≤ size ∧ n ≤ L.room * e.sz) ∧ (∀ t, e.el = some t → el = t) ∧ (e.z = true → L.base = 0)

theorem Esz.ok_zero (L : Spot) (el : TypeId) (size n : Nat) : Esz.ok 0 L el size n :=
  ⟨fun h => absurd rfl h, fun t h => (by cases h), fun h => (by cases h)⟩

theorem Esz.ok_new (b room : Nat) (el : TypeId) (size n : Nat) : Esz.ok ⟨0, some el, true⟩ ⟨b, 0, room⟩ el size n :=
  ⟨fun h => absurd rfl h, fun t h => (by cases h; rfl), fun _ => rfl⟩
theorem Esz.ok_row {b room sz size n : Nat} (el : TypeId) (h : sz ≠ 0 → 0 + room * sz ≤ size ∧ n ≤ room * sz) : Esz.ok ⟨sz, some el, true⟩ ⟨b, 0, room⟩ el size n :=
  ⟨h, fun t h => (by cases h; rfl), fun _ => rfl⟩

/-- a row of values (0), of keys (1): what its cells are -/
def perT (p : Nat) : Nat := if p = 0 then 4 else 2
def kTy (p j : Nat) (V : Value) : Prop :=
  if p = 0 then (match j % 4 with
    | 0 => ∃ n, V = .int .u8 n ∧ 0 ≤ n ∧ n ≤ 255
    | 1 => ∃ x, V = .float .f64 x ∧ x < 18446744073709551616
    | 2 => ∃ s : ByteArray, V = .string s ∧ (s.size : Int) ≤ 9223372036854775807
    | _ => ∃ n, V = .int .i64 n ∧ -9223372036854775808 ≤ n ∧ n ≤ 9223372036854775807)
  else (match j % 2 with
    | 0 => ∃ s : ByteArray, V = .string s ∧ (s.size : Int) ≤ 9223372036854775807
    | _ => ∃ n, V = .int .i64 n ∧ -9223372036854775808 ≤ n ∧ n ≤ 9223372036854775807)
/-- how many cells an element has: values (0), keys (1), answers (2) -/
def perG (p : Nat) : Nat := if p = 0 then 4 else if p = 1 then 2 else 26
/-- blocks by their numbers: from 2000000 on a row of that many, each of its kind; from 3000000 on a row that a symbol tells, cell by cell; from 4000000 on an element of a row, by a symbol's index -/
def TypB (E : Env) (i g : Nat) (L : Spot) (arr : Array Value) : Prop :=
  (2000000 ≤ g ∧ g < 3000000 ∧ g + 1 ≠ i → ∃ N : Nat, den E (.sy ((g - 2000000) / 2)) = some (.int .i64 N) ∧ L.base + perT (g % 2) * N ≤ arr.size ∧ ∀ j, j < perT (g % 2) * N → kTy (g % 2) j (arr.getD (L.base + j) undef)) ∧
  (3000000 ≤ g ∧ g < 4000000 ∧ g + 1 ≠ i → ∃ R : List (List (Nat × Nat)), den E (.sy ((g - 3000000) / 10)) = some (.int .i64 (codeR R)) ∧ L.base + perG (g % 10) * R.length ≤ arr.size ∧ ((∀ r ∈ R, r.length = perG (g % 10)) ∧ (L.room = 0 → L.base = 0)) ∧
    ∀ j r, R[j]? = some r → ∀ c p, r[c]? = some p → arr.getD (L.base + (perG (g % 10) * j + c)) undef = cellV p) ∧
  (4000000 ≤ g ∧ g + 1 ≠ i → ∃ (M : Spot) (n : Nat), E ((g - 4000000) / 100000) = some M ∧ den E (.sy ((g - 4000000) / 100 % 1000)) = some (.int .i64 n) ∧ L.blk = M.blk ∧ L.base = M.base + n * (g % 100))
theorem TypB.wide {E E' : Env} (h : E.le E') {i g : Nat} {L : Spot} {arr : Array Value} (t : TypB E i g L arr) : TypB E' i g L arr :=
  ⟨fun hg => by
    obtain ⟨N, a, b, c⟩ := t.1 hg
    exact ⟨N, den_mono h _ _ a, b, c⟩, fun hg => by
    obtain ⟨R, a, b⟩ := t.2.1 hg
    exact ⟨R, den_mono h _ _ a, b⟩, fun hg => by
    obtain ⟨M, n, a, b, c⟩ := t.2.2 hg
    exact ⟨M, n, h _ _ a, den_mono h _ _ b, c⟩⟩
theorem TypB.of_global {E : Env} {g : Nat} {L : Spot} {arr : Array Value} : TypB E (g + 1) g L arr := ⟨fun hg => absurd rfl hg.2.2, fun hg => absurd rfl hg.2.2, fun hg => absurd rfl hg.2⟩
theorem TypB.of_small {E : Env} {i g : Nat} {L : Spot} {arr : Array Value} (h : g < 2000000) : TypB E i g L arr := ⟨fun hg => absurd hg.1 (by omega), fun hg => absurd hg.1 (by omega), fun hg => absurd hg.1 (by omega)⟩

def RO (E : Env) (w : World) (i : Nat) : AO → Prop
  | .gone => True
  | .cells n esz c => ∃ L arr el, E i = some L ∧ w.heap[L.blk]? = some (.cells arr el (0, 0)) ∧ L.base + n ≤ arr.size ∧ esz.ok L el arr.size n ∧
      ∀ j, j < n → Rv E (c.get j) (arr.getD (L.base + j) undef)
  | .map es clock => ∃ L ms, E i = some L ∧ w.heap[L.blk]? = some (.map ms clock) ∧ REntL E es ms.toList
  | .siter l n pos => ∃ L, E i = some L ∧ L.base = 0 ∧ w.heap[L.blk]? = some (.stringIter (str l n) pos)
  | .glob g n c => ∃ L arr el fr, E i = some L ∧ (g < 1000000 → L.blk = g ∧ L.base = 0) ∧ w.heap[L.blk]? = some (.cells arr el fr) ∧ L.base + n ≤ arr.size ∧ (∀ j, j < n → Rv E (T.get .no c j) (arr.getD (L.base + j) undef)) ∧ TypB E i g L arr
  | .floor _ => True
  | .facts fs => ∀ p ∈ fs, den E p.1 = some (.bool p.2)
  | .rows el len => ∃ (L : Spot) (arr : Array Value) (n : Nat), E i = some L ∧ L.base = 0 ∧ w.heap[L.blk]? = some (.cells arr el (0, 0)) ∧ den E len = some (.int .i64 n) ∧ n ≤ L.room ∧ L.room * 4 ≤ arr.size ∧ ∀ j, j < 4 * n → kTy 0 j (arr.getD j undef)
  | .blob el sz S l len => ∃ (L : Spot) (arr : Array Value) (n : Nat), E i = some L ∧ L.base = 0 ∧ w.heap[L.blk]? = some (.cells arr el (0, 0)) ∧ den E len = some (.int .i64 n) ∧ n ≤ L.room ∧ L.room * sz ≤ arr.size ∧ ∃ c0 : List (List (Nat × Nat)), den E (.sy S) = some (.int .i64 (codeR c0)) ∧ c0.length + l.length = sz * n ∧ (∀ j, j < c0.length → arr.getD j undef = cellW (c0.getD j [])) ∧ ∀ j a, l[j]? = some a → Rv E a (arr.getD (c0.length + j) undef)
  | .ali p off q cap => ∃ (L M : Spot) (c : Nat), E i = some L ∧ E p = some M ∧ den E cap = some (.int .i64 c) ∧ q ≤ c ∧ L.blk = M.blk ∧ L.base = M.base + (if c = q then 0 else off) ∧ L.room = c - q + 1

abbrev Heap := T AO

noncomputable def flr (h : Heap) : Nat := match T.get .gone h 0 with
  | .floor n => n
  | _ => 0

structure HR (E : Env) (h : Heap) (nxt : Nat) (w : World) : Prop where
  obj : ∀ i, RO E w i (T.get .gone h i)
  inj : ∀ i j L M, (T.get .gone h i).live = true → (T.get .gone h j).live = true → E i = some L → E j = some M → L.blk = M.blk → i = j
  lt : ∀ i, nxt ≤ i → (T.get .gone h i).live = false
  fresh : ∀ i, nxt ≤ i → E i = none
  inw : ∀ i L, E i = some L → L.blk < w.heap.size
  pos : 1 ≤ nxt
  flle : flr h ≤ nxt
  zero : (T.get .gone h 0).live = false

/-- the blocks that the abstract memory speaks of, and that may be written -/
def fp (E : Env) (h : Heap) (k : Nat) : Prop := ∃ i L, flr h ≤ i ∧ (T.get .gone h i).live = true ∧ E i = some L ∧ L.blk = k

structure Goes (E : Env) (h : Heap) (w : World) (E' : Env) (h' : Heap) (w' : World) : Prop where
  ext : E.le E'
  size : w.heap.size ≤ w'.heap.size
  fr : ∀ k, k < w.heap.size → ¬ fp E h k → w'.heap[k]? = w.heap[k]?
  fpm : ∀ k, k < w.heap.size → fp E' h' k → fp E h k
  flr : Vx.flr h' = Vx.flr h
  keep : ∀ i, i < Vx.flr h → T.get .gone h' i = T.get .gone h i
  os : w'.os = w.os
  output : w'.output = w.output
  tape : w'.tape = w.tape

theorem Goes.refl (E : Env) (h : Heap) (w : World) : Goes E h w E h w :=
  ⟨Env.le_refl _, Nat.le_refl _, fun _ _ _ => rfl, fun _ _ h => h, rfl, fun _ _ => rfl, rfl, rfl, rfl⟩

theorem Goes.trans {E E' E'' : Env} {h h' h'' : Heap} {w w' w'' : World} (a : Goes E h w E' h' w') (b : Goes E' h' w' E'' h'' w'') : Goes E h w E'' h'' w'' :=
  ⟨Env.le_trans a.ext b.ext, Nat.le_trans a.size b.size,
    fun k hk hn => (b.fr k (Nat.lt_of_lt_of_le hk a.size) (fun hf => hn (a.fpm k hk hf))).trans (a.fr k hk hn),
    fun k hk hf => a.fpm k hk (b.fpm k (Nat.lt_of_lt_of_le hk a.size) hf),
    b.flr.trans a.flr, fun i hi => (b.keep i (by rw [a.flr]; exact hi)).trans (a.keep i hi),
    b.os.trans a.os, b.output.trans a.output, b.tape.trans a.tape⟩

end Go.Proofs.YtbmekbpgoakkbaaGreatDoor.Vx
