/- Operands, and rows of cells. No condition. -/
import Derived.Test.YtbmekbpgoakkbaaGreatDoorVxA
import GoSem.Dispatch
set_option linter.unusedVariables false
set_option linter.unusedSimpArgs false
set_option linter.constructorNameAsVariable false
set_option linter.unusedSectionVars false
namespace Go.Proofs.YtbmekbpgoakkbaaGreatDoor.Vx
open Go

/-- no part of the block is frozen -/
def Cold (o : Obj) : Prop := ∀ c e f, o = .cells c e f → f = (0, 0)
theorem cold_cells (c : Array Value) (e : TypeId) : Cold (.cells c e (0, 0)) := by
  rintro c' e' f h
  cases h; rfl

theorem frz_write {w : World} {L : Spot} {arr arr' : Array Value} {el : TypeId} (hb : w.heap[L.blk]? = some (.cells arr el (0, 0))) (hlt : L.blk < w.heap.size) (a : Addr) :
    ({ w with heap := w.heap.setIfInBounds L.blk (.cells arr' el (0, 0)) } : World).frozen? a = w.frozen? a := by
  unfold World.frozen?
  simp only [Array.getElem?_setIfInBounds]
  by_cases e : L.blk = a.block
  · rw [if_pos e, ← e, hb, if_pos hlt]
  · rw [if_neg e]

theorem frz_push {w : World} {o : Obj} (hz : Cold o) (a : Addr) : ({ w with heap := w.heap.push o } : World).frozen? a = w.frozen? a := by
  unfold World.frozen?
  simp only [Array.getElem?_push]
  by_cases e : a.block = w.heap.size
  · rw [if_pos e, e, Array.getElem?_eq_none (Nat.le_refl _)]
    cases o with
    | cells c el f =>
      have := hz c el f rfl
      subst this
      simp
    | _ => rfl
  · rw [if_neg e]


noncomputable def bc (b x y : Bool) : Bool := Bool.rec (motive := fun _ => Bool) y x b
theorem bc_true (x y : Bool) : bc true x y = x := rfl
theorem bc_false (x y : Bool) : bc false x y = y := rfl
theorem bc_and {b x : Bool} (h : bc b x false = true) : b = true ∧ x = true := by cases b <;> simp_all [bc]
theorem bc_or {b x y : Bool} (h : bc b x y = true) : (b = true ∧ x = true) ∨ (b = false ∧ y = true) := by cases b <;> simp_all [bc]

noncomputable def forceN (n : Nat) (k : Nat → Bool) : Bool := Nat.rec (motive := fun _ => Bool) (k 0) (fun m _ => k (Nat.succ m)) n
theorem forceN_eq (n : Nat) (k : Nat → Bool) : forceN n k = k n := by cases n <;> rfl
noncomputable def forceI (n : Int) (k : Int → Bool) : Bool := Int.rec (motive := fun _ => Bool) (fun m => forceN m fun m => k (.ofNat m)) (fun m => forceN m fun m => k (.negSucc m)) n
theorem forceI_eq (n : Int) (k : Int → Bool) : forceI n k = k n := by cases n <;> (unfold forceI; exact forceN_eq _ _)
noncomputable def forceB (b : Bool) (k : Bool → Bool) : Bool := Bool.rec (motive := fun _ => Bool) (k false) (k true) b
theorem forceB_eq (b : Bool) (k : Bool → Bool) : forceB b k = k b := by cases b <;> rfl

noncomputable def force (v : AV) (k : AV → Bool) : Bool := match v with
  | .no => k .no
  | .un => k .un
  | .b x => k (.b x)
  | .i kk n => k (.i kk n)
  | .f kk n => k (.f kk n)
  | .nan => k .nan
  | .s l n => k (.s l n)
  | .pn => k .pn
  | .p a b => k (.p a b)
  | .pg a b => k (.pg a b)
  | .sn => k .sn
  | .sl a b c d => k (.sl a b c d)
  | .so a b c d => k (.so a b c d)
  | .fn a b c => k (.fn a b c)
  | .fnil => k .fnil
  | .ifc t v => k (.ifc t v)
  | .inil => k .inil
  | .ag cs => k (.ag cs)
  | .tu cs => k (.tu cs)
  | .mp i => k (.mp i)
  | .mpn => k .mpn
  | .ii a => k (.ii a)
  | .pk v => k (.pk v)
  | .x s e => k (.x s e)
  | .any => k .any
  | .sx a b c d => k (.sx a b c d)
  | .sz a b => k (.sz a b)
  | .sr a b => k (.sr a b)
theorem force_eq (v : AV) (k : AV → Bool) : force v k = k v := by cases v <;> rfl

/-! ### Operands -/
noncomputable def abs1 : Value → AV
  | .bool x => .b x
  | .int k n => .i k n
  | .float k x => .f k x
  | .string s => .s (List.length s.data.toList) (pack s.data.toList)
  | .pointer none => .pn
  | .slice none 0 0 => .sn
  | .nilFunc => .fnil
  | .nilIface => .inil
  | .map none => .mpn
  | _ => .no
noncomputable def absV : Value → AV
  | .agg cs => .ag (List.map abs1 cs.toList)
  | v => abs1 v

theorem abs1_ok (E : Env) (v : Value) : Rv E (abs1 v) v := by
  unfold abs1
  split <;> simp only [Rv]
  · rename_i s
    have : str s.data.toList.length (pack s.data.toList) = s := by
      unfold str; rw [unpack_pack]
    rw [this]

theorem abs1L_ok (E : Env) : ∀ (l : List Value), RvL E (l.map abs1) l
  | [] => .nil
  | v :: l => .cons (abs1_ok E v) (abs1L_ok E l)

theorem absV_ok (E : Env) (v : Value) : Rv E (absV v) v := by
  unfold absV
  split
  · rename_i cs
    rw [Rv]; exact ⟨cs.toList, by simp, abs1L_ok E _⟩
  · exact abs1_ok E v

abbrev Regs := T AV

def Rr (E : Env) (regs : Regs) (tmps : Array Value) : Prop := ∀ t, Rv E (T.get .no regs t) (tmps.getD t undef)

theorem Rr.mono {E E' : Env} {regs : Regs} {tmps : Array Value} (h : E.le E') (r : Rr E regs tmps) : Rr E' regs tmps := fun t => (r t).mono h

noncomputable def opd (regs : Regs) (x : Operand) (k : AV → Bool) : Bool := match x with
  | .tmp t => force (T.get .no regs t) k
  | .const v => force (absV v) k
  | .global g => k (.pg g 0)
  | .func f => k (.fn (.func f) [] [])

section
variable {E : Env} {regs : Regs} {a : Act}

theorem opd_ok {x : Operand} {k : AV → Bool} (h : opd regs x k = true) (r : Rr E regs a.tmps) : ∃ v, Rv E v (a.eval x) ∧ k v = true := by
  cases x with
  | tmp t => rw [opd, force_eq] at h; exact ⟨_, r t, h⟩
  | const v => rw [opd, force_eq] at h; exact ⟨_, absV_ok E v, h⟩
  | global g => exact ⟨_, by simp [Rv, Act.eval], h⟩
  | func f => exact ⟨_, by rw [Rv]; exact ⟨[], [], rfl, .nil, .nil⟩, h⟩

noncomputable def opds (regs : Regs) (xs : List Operand) : (List AV → Bool) → Bool :=
  List.rec (motive := fun _ => (List AV → Bool) → Bool) (fun k => k []) (fun x _ ih k => opd regs x fun v => ih fun l => k (v :: l)) xs

theorem opds_ok (r : Rr E regs a.tmps) : ∀ (xs : List Operand) {k : List AV → Bool}, opds regs xs k = true → ∃ l, RvL E l (xs.map a.eval) ∧ k l = true
  | [], _, h => ⟨[], .nil, h⟩
  | x :: xs, k, h => by
    obtain ⟨v, hv, h⟩ := opd_ok (x := x) (k := fun v => opds regs xs fun l => k (v :: l)) h r
    obtain ⟨l, hl, h⟩ := opds_ok r xs h
    exact ⟨v :: l, .cons hv hl, h⟩
end

/-! ### What an operation leaves -/
abbrev K := AV → Heap → Nat → Bool

/-- the operation yields a value that stands for what is handed on -/
def Did (P : Program) (s : Sem Next) (E : Env) (h : Heap) (w : World) (k : K) : Prop :=
  ∃ v h' nxt' E' w' V, (s.run P w = .ok (.value V) w' ∨ (s.run P w = .ok .skip w' ∧ V = undef)) ∧ Rv E' v V ∧ HR E' h' nxt' w' ∧ Goes E h w E' h' w' ∧ k v h' nxt' = true

theorem Did.same {P : Program} {s : Sem Next} {E : Env} {h : Heap} {nxt : Nat} {w : World} {k : K} {v : AV} {V : Value} (hr : HR E h nxt w)
    (e : s.run P w = .ok (.value V) w) (r : Rv E v V) (hk : k v h nxt = true) : Did P s E h w k :=
  ⟨v, h, nxt, E, w, V, .inl e, r, hr, Goes.refl _ _ _, hk⟩

/-! ### Rows of cells -/
noncomputable def lenR (l : List AV) : Nat := List.rec (motive := fun _ => Nat) 0 (fun _ _ ih => Nat.succ ih) l
theorem lenR_eq : ∀ l : List AV, lenR l = l.length
  | [] => rfl
  | _ :: l => congrArg (· + 1) (lenR_eq l)

noncomputable def dropK (n : Nat) (l : List AV) (k : List AV → Bool) : Bool :=
  Nat.rec (motive := fun _ => List AV → (List AV → Bool) → Bool) (fun l k => List.rec (motive := fun _ => (List AV → Bool) → Bool) (fun k => k []) (fun v tl _ k => k (v :: tl)) l k)
    (fun _ ih l k => List.rec (motive := fun _ => (List AV → Bool) → Bool) (fun k => k []) (fun _ tl _ k => ih tl k) l k) n l k
theorem dropK_eq : ∀ (n : Nat) (l : List AV) (k : List AV → Bool), dropK n l k = k (l.drop n)
  | 0, [], _ => rfl
  | 0, _ :: _, _ => rfl
  | _ + 1, [], _ => by simp; rfl
  | n + 1, v :: l, k => by
    show dropK n l k = _
    rw [dropK_eq n l k]; rfl

/-- just so many, with 'no' behind -/
def padL : Nat → List AV → List AV
  | 0, _ => []
  | n + 1, [] => .no :: padL n []
  | n + 1, v :: l => v :: padL n l
noncomputable def padK (n : Nat) (l : List AV) (k : List AV → Bool) : Bool :=
  Nat.rec (motive := fun _ => List AV → (List AV → Bool) → Bool) (fun _ k => k [])
    (fun _ ih l k => List.rec (motive := fun _ => (List AV → Bool) → Bool) (fun k => ih [] fun r => k (.no :: r)) (fun v tl _ k => ih tl fun r => k (v :: r)) l k) n l k
theorem padK_eq : ∀ (n : Nat) (l : List AV) (k : List AV → Bool), padK n l k = k (padL n l)
  | 0, _, _ => rfl
  | n + 1, [], k => by
    show padK n [] (fun r => k (.no :: r)) = _
    rw [padK_eq n]; rfl
  | n + 1, v :: l, k => by
    show padK n l (fun r => k (v :: r)) = _
    rw [padK_eq n]; rfl
@[simp] theorem padL_length : ∀ (n : Nat) (l : List AV), (padL n l).length = n
  | 0, _ => rfl
  | n + 1, [] => by simp [padL, padL_length n]
  | n + 1, _ :: l => by simp [padL, padL_length n]
theorem padL_get : ∀ (n : Nat) (l : List AV) (i : Nat), i < n → nthR (padL n l) i = nthR l i
  | n + 1, [], 0, _ => rfl
  | n + 1, [], i + 1, h => by
    show nthR (padL n []) i = nthR [] (i + 1)
    rw [padL_get n [] i (by omega), nthR_nil, nthR_nil]
  | n + 1, v :: l, 0, _ => rfl
  | n + 1, v :: l, i + 1, h => padL_get n l i (by omega)
theorem padL_map (n : Nat) (l : List AV) : padL n l = (List.range n).map (nthR l) := by
  apply List.ext_getElem (by simp)
  intro i h1 h2
  have := padL_get n l i (by simpa using h1)
  rw [nthR_eq, List.getD_eq_getElem?_getD, List.getElem?_eq_getElem h1] at this
  have this : (padL n l)[i] = nthR l i := this
  rw [this]; simp

noncomputable def appK (a b : List AV) (k : List AV → Bool) : Bool :=
  List.rec (motive := fun _ => List AV → (List AV → Bool) → Bool) (fun b k => k b) (fun v _ ih b k => ih b fun r => k (v :: r)) a b k
theorem appK_eq : ∀ (a b : List AV) (k : List AV → Bool), appK a b k = k (a ++ b)
  | [], _, _ => rfl
  | v :: a, b, k => by
    show appK a b (fun r => k (v :: r)) = _
    rw [appK_eq a b]; rfl
noncomputable def takeK (n : Nat) (l : List AV) (k : List AV → Bool) : Bool :=
  Nat.rec (motive := fun _ => List AV → (List AV → Bool) → Bool) (fun _ k => k [])
    (fun _ ih l k => List.rec (motive := fun _ => (List AV → Bool) → Bool) (fun k => k []) (fun v tl _ k => ih tl fun r => k (v :: r)) l k) n l k
theorem takeK_eq : ∀ (n : Nat) (l : List AV) (k : List AV → Bool), takeK n l k = k (l.take n)
  | 0, l, k => by simp; rfl
  | _ + 1, [], _ => by simp; rfl
  | n + 1, v :: l, k => by
    show takeK n l (fun r => k (v :: r)) = _
    rw [takeK_eq n]; rfl

theorem nthR_append (a b : List AV) (i : Nat) : nthR (a ++ b) i = if i < a.length then nthR a i else nthR b (i - a.length) := by
  rw [nthR_eq, nthR_eq, nthR_eq]
  by_cases h : i < a.length
  · simp [h, List.getElem?_append_left h]
  · simp [h, List.getElem?_append_right (Nat.le_of_not_lt h)]
theorem nthR_drop (l : List AV) (n i : Nat) : nthR (l.drop n) i = nthR l (n + i) := by
  rw [nthR_eq, nthR_eq]; simp

/-- the row of a place -/
noncomputable def Cs.row (c : Cs) (q : Nat) : List AV := T.get [] c.t q
noncomputable def rowK (c : Cs) (q : Nat) (k : List AV → Bool) : Bool := List.rec (motive := fun _ => (List AV → Bool) → Bool) (fun k => k []) (fun v tl _ k => k (v :: tl)) (T.get [] c.t q) k
theorem rowK_eq (c : Cs) (q : Nat) (k : List AV → Bool) : rowK c q k = k (c.row q) := by
  unfold rowK Cs.row
  cases T.get [] c.t q <;> rfl

/-- is it all in one row? -/
noncomputable def inRow (w o n : Nat) : Bool := bc (Nat.ble (Nat.add o n) w) true (Nat.beq w 0)
theorem inRow_ok {w o n : Nat} (h : inRow w o n = true) : o + n ≤ w ∨ w = 0 := by
  unfold inRow at h
  rcases bc_or h with ⟨h, _⟩ | ⟨_, h⟩
  · exact .inl (Nat.le_of_ble_eq_true h)
  · exact .inr (Nat.eq_of_beq_eq_true h)
theorem inRow_no {w o n : Nat} (h : inRow w o n = false) : w < o + n ∧ 0 < w := by
  unfold inRow at h
  cases h1 : Nat.ble (Nat.add o n) w
  · rw [h1, bc_false] at h
    have h1 : ¬ (o + n ≤ w) := fun h' => by
      have h2 : Nat.ble (Nat.add o n) w = true := Nat.ble_eq_true_of_le h'
      rw [h2] at h1; cases h1
    have h2 : w ≠ 0 := fun e => by rw [e] at h; cases h
    omega
  · rw [h1] at h; cases h

theorem Cs.get_row (c : Cs) (q o j : Nat) (ho : o = Nat.mod q c.w) (h : o + j < c.w ∨ c.w = 0) : c.get (q + j) = nthR (c.row (Nat.div q c.w)) (o + j) := by
  unfold Cs.get Cs.row
  subst ho
  have e1 : Nat.div (q + j) c.w = Nat.div q c.w := by
    show (q + j) / c.w = q / c.w
    rcases h with h | h
    · have h : q % c.w + j < c.w := h
      have hw : 0 < c.w := by omega
      have := Nat.div_add_mod q c.w
      rw [Nat.div_eq_of_lt_le]
      · rw [Nat.mul_comm]; omega
      · rw [Nat.add_mul, Nat.mul_comm]; omega
    · rw [h]; simp
  have e2 : Nat.mod (q + j) c.w = Nat.mod q c.w + j := by
    show (q + j) % c.w = q % c.w + j
    rcases h with h | h
    · have h : q % c.w + j < c.w := h
      rw [Nat.add_mod, Nat.mod_eq_of_lt (show j < c.w by omega), Nat.mod_eq_of_lt h]
    · rw [h]; simp
  rw [e1, e2]

/-! #### reading -/
noncomputable def rd1 (c : Cs) (n off : Nat) (k : List AV → Bool) : Bool :=
  forceN (Nat.mod off c.w) fun o => rowK c (Nat.div off c.w) fun l => bc (bc (Nat.beq o 0) (Nat.beq (lenR l) n) false) (k l) (dropK o l fun r => padK n r k)
theorem rd1_eq {c : Cs} {n off : Nat} (h : Nat.mod off c.w + n ≤ c.w ∨ c.w = 0) (k : List AV → Bool) : rd1 c n off k = k ((List.range' off n).map c.get) := by
  unfold rd1
  rw [forceN_eq, rowK_eq]
  have key : (List.range' off n).map c.get = padL n ((c.row (Nat.div off c.w)).drop (Nat.mod off c.w)) := by
    rw [padL_map, List.range'_eq_map_range, List.map_map]
    apply List.map_congr_left
    intro j hj
    have hj := List.mem_range.1 hj
    show c.get (off + j) = _
    rw [nthR_drop, c.get_row off _ j rfl (h.imp (fun h => by omega) id)]
  rw [key]
  cases hb : bc (Nat.beq (Nat.mod off c.w) 0) (Nat.beq (lenR (c.row (Nat.div off c.w))) n) false
  · rw [bc_false, dropK_eq, padK_eq]
  · rw [bc_true]
    obtain ⟨h1, h2⟩ := bc_and hb
    have h1 := Nat.eq_of_beq_eq_true h1
    have h2 := Nat.eq_of_beq_eq_true h2
    rw [lenR_eq] at h2
    rw [h1, List.drop_zero]
    congr 1
    generalize c.row (Nat.div off c.w) = l at *
    subst h2
    have aux : ∀ l : List AV, padL l.length l = l := by
      intro l
      induction l with
      | nil => rfl
      | cons v l ih => show v :: padL l.length l = _; rw [ih]
    exact (aux l).symm
noncomputable def rdF (fuel : Nat) : Cs → Nat → Nat → (List AV → Bool) → Bool :=
  Nat.rec (motive := fun _ => Cs → Nat → Nat → (List AV → Bool) → Bool) (fun _ _ _ _ => false)
    (fun _ ih c n off k => bc (inRow c.w (Nat.mod off c.w) n) (rd1 c n off k)
      (forceN (Nat.sub c.w (Nat.mod off c.w)) fun m => rd1 c m off fun a => forceN (Nat.sub n m) fun n' => forceN (Nat.add off m) fun off' => ih c n' off' fun b => appK a b k)) fuel
theorem rdF_eq : ∀ (fuel : Nat) {c : Cs} {n off : Nat} (k : List AV → Bool), n < fuel → rdF fuel c n off k = k ((List.range' off n).map c.get)
  | 0, _, _, _, _, h => absurd h (Nat.not_lt_zero _)
  | fuel + 1, c, n, off, k, h => by
    show bc (inRow c.w (Nat.mod off c.w) n) _ _ = _
    cases hi : inRow c.w (Nat.mod off c.w) n
    · obtain ⟨h1, h2⟩ := inRow_no hi
      have h3 : Nat.mod off c.w < c.w := Nat.mod_lt off h2
      rw [bc_false, forceN_eq, rd1_eq (by left; show Nat.mod off c.w + (c.w - Nat.mod off c.w) ≤ c.w; omega), forceN_eq, forceN_eq]
      have hm : Nat.sub c.w (Nat.mod off c.w) = c.w - Nat.mod off c.w := rfl
      rw [hm]
      generalize hmm : c.w - Nat.mod off c.w = m at *
      have e1 : Nat.sub n m = n - m := rfl
      have e2 : Nat.add off m = off + m := rfl
      have := rdF_eq fuel (c := c) (n := n - m) (off := off + m) (fun b => appK ((List.range' off m).map c.get) b k) (by omega)
      have e3 : (rdF fuel c (Nat.sub n m) (Nat.add off m) fun b => appK ((List.range' off m).map c.get) b k) = _ := this
      refine e3.trans ?_
      show appK _ _ k = _
      rw [appK_eq, ← List.map_append, show (List.range' off m ++ List.range' (off + m) (n - m)) = List.range' off n by
        rw [List.range'_append_1]; congr 1; omega]
    · rw [bc_true]
      exact rd1_eq (inRow_ok hi) k
/-- n cells from off on -/
noncomputable def rdC (c : Cs) (n off : Nat) (k : List AV → Bool) : Bool := rdF (Nat.succ n) c n off k
theorem rdC_ok (c : Cs) (n off : Nat) (k : List AV → Bool) : rdC c n off k = k ((List.range' off n).map fun j => c.get j) := rdF_eq _ k (Nat.lt_succ_self n)

/-! #### writing -/
theorem T.get_set_or {α : Type} (d x : α) (t : T α) : ∀ (i : Nat), T.get d (T.set x t i) i = x ∨ (T.get d (T.set x t i) i = d ∧ T.get d t i = d) := by
  induction t with
  | nil => intro i; exact .inr ⟨rfl, rfl⟩
  | node v l r ihl ihr =>
    intro i
    cases i with
    | zero => exact .inl rfl
    | succ i =>
      have e : T.set x (.node v l r) (i + 1) = Nat.rec (motive := fun _ => T α) (.node v (T.set x l (i / 2)) r) (fun _ _ => .node v l (T.set x r (i / 2))) (i % 2) := rfl
      have g : ∀ l r : T α, T.get d (.node v l r) (i + 1) = Nat.rec (motive := fun _ => α) (T.get d l (i / 2)) (fun _ _ => T.get d r (i / 2)) (i % 2) := fun _ _ => rfl
      rw [e]
      rcases T.mod_two i with h | h <;> rw [h] <;> (show T.get d (.node v _ _) (i + 1) = _ ∨ (T.get d (.node v _ _) (i + 1) = _ ∧ _)) <;> rw [g, g, h]
      · exact ihl _
      · exact ihr _

noncomputable def Cs.put1 (c : Cs) (l : List AV) (off : Nat) : Cs :=
  ⟨c.w, T.set (if Nat.mod off c.w = 0 ∧ l.length = c.w then l else padL (Nat.mod off c.w) (c.row (Nat.div off c.w)) ++ (l ++ (c.row (Nat.div off c.w)).drop (Nat.mod off c.w + l.length))) c.t (Nat.div off c.w)⟩

theorem Cs.same_row {w off j : Nat} (h : Nat.div j w = Nat.div off w) : j + Nat.mod off w = off + Nat.mod j w := by
  have h : j / w = off / w := h
  have h1 := Nat.div_add_mod j w
  have h2 := Nat.div_add_mod off w
  rw [h] at h1
  show j + off % w = off + j % w
  omega

theorem Cs.put1_get {c : Cs} {l : List AV} {off : Nat} (h : Nat.mod off c.w + l.length ≤ c.w ∨ c.w = 0) (hl : 0 < l.length) :
    (∀ j, j < off ∨ off + l.length ≤ j → (c.put1 l off).get j = c.get j) ∧ ∀ i, i < l.length → (c.put1 l off).get (off + i) = nthR l i ∨ (c.put1 l off).get (off + i) = .no := by
  have row : ∀ j, Nat.div j c.w ≠ Nat.div off c.w → (c.put1 l off).get j = c.get j := fun j hj => by
    unfold Cs.get Cs.put1
    show nthR (T.get [] (T.set _ c.t (Nat.div off c.w)) (Nat.div j c.w)) _ = _
    rw [T.get_set_ne _ _ _ _ _ hj]
  have same : ∀ j, Nat.div j c.w = Nat.div off c.w → (c.put1 l off).get j = nthR (if Nat.mod off c.w = 0 ∧ l.length = c.w then l else padL (Nat.mod off c.w) (c.row (Nat.div off c.w)) ++ (l ++ (c.row (Nat.div off c.w)).drop (Nat.mod off c.w + l.length))) (Nat.mod j c.w) ∨
      ((c.put1 l off).get j = .no ∧ c.get j = .no) := fun j hj => by
    unfold Cs.get Cs.put1
    show nthR (T.get [] (T.set _ c.t (Nat.div off c.w)) (Nat.div j c.w)) (Nat.mod j c.w) = _ ∨ _
    rw [hj]
    rcases T.get_set_or [] (if Nat.mod off c.w = 0 ∧ l.length = c.w then l else padL (Nat.mod off c.w) (c.row (Nat.div off c.w)) ++ (l ++ (c.row (Nat.div off c.w)).drop (Nat.mod off c.w + l.length))) c.t (Nat.div off c.w) with e | ⟨e1, e2⟩
    · left; rw [e]
    · right
      refine ⟨?_, by rw [e2, nthR_nil]⟩
      show nthR (T.get [] (T.set _ c.t (Nat.div off c.w)) (Nat.div off c.w)) (Nat.mod j c.w) = _
      rw [e1, nthR_nil]
  have modlt : c.w ≠ 0 → ∀ j, Nat.mod j c.w < c.w := fun h j => Nat.mod_lt j (by omega)
  refine ⟨fun j hj => ?_, fun i hi => ?_⟩
  · by_cases hr : Nat.div j c.w = Nat.div off c.w
    · have hs := Cs.same_row hr
      rcases same j hr with e | ⟨e1, e2⟩
      · rw [e]
        by_cases hc : Nat.mod off c.w = 0 ∧ l.length = c.w
        · have := modlt (by omega) j
          omega
        · rw [if_neg hc, nthR_append, nthR_append, padL_length]
          have hg : c.get j = nthR (c.row (Nat.div off c.w)) (Nat.mod j c.w) := by unfold Cs.get Cs.row; rw [hr]
          by_cases h1 : Nat.mod j c.w < Nat.mod off c.w
          · rw [if_pos h1, padL_get _ _ _ h1, hg]
          · rw [if_neg h1, if_neg (by omega), nthR_drop, hg]
            congr 1; omega
      · rw [e1, e2]
    · exact row j hr
  · have hr : Nat.div (off + i) c.w = Nat.div off c.w := by
      show (off + i) / c.w = off / c.w
      rcases h with h | h
      · have h : off % c.w + l.length ≤ c.w := h
        have hw : 0 < c.w := by omega
        have := Nat.div_add_mod off c.w
        rw [Nat.div_eq_of_lt_le]
        · rw [Nat.mul_comm]; omega
        · rw [Nat.add_mul, Nat.mul_comm]; omega
      · rw [h]; simp
    have hs := Cs.same_row hr
    rcases same (off + i) hr with e | ⟨e1, _⟩
    · left
      rw [e]
      by_cases hc : Nat.mod off c.w = 0 ∧ l.length = c.w
      · rw [if_pos hc]; congr 1; omega
      · rw [if_neg hc, nthR_append, nthR_append, padL_length, if_neg (by omega), if_pos (by omega)]
        congr 1; omega
    · exact .inr e1

noncomputable def put1K (l : List AV) (m : Nat) (c : Cs) (off : Nat) (k : Cs → Bool) : Bool :=
  forceN (Nat.mod off c.w) fun o => forceN (Nat.div off c.w) fun q => bc (bc (Nat.beq o 0) (Nat.beq m c.w) false) (T.setK l c.t q fun t => k ⟨c.w, t⟩)
    (rowK c q fun b => padK o b fun x => dropK (Nat.add o m) b fun z => appK l z fun y => appK x y fun r => T.setK r c.t q fun t => k ⟨c.w, t⟩)
theorem put1K_eq (l : List AV) (c : Cs) (off : Nat) (k : Cs → Bool) : put1K l l.length c off k = k (c.put1 l off) := by
  unfold put1K Cs.put1
  rw [forceN_eq, forceN_eq]
  cases hb : bc (Nat.beq (Nat.mod off c.w) 0) (Nat.beq l.length c.w) false
  · have : ¬ (Nat.mod off c.w = 0 ∧ l.length = c.w) := by
      rintro ⟨h1, h2⟩
      rw [h1, h2] at hb
      have : bc (Nat.beq 0 0) (Nat.beq c.w c.w) false = true := by rw [Nat.beq_refl c.w]; rfl
      rw [this] at hb; cases hb
    rw [bc_false, if_neg this, rowK_eq, padK_eq, dropK_eq, appK_eq, appK_eq, T.setK_eq]; rfl
  · obtain ⟨h1, h2⟩ := bc_and hb
    rw [bc_true, if_pos ⟨Nat.eq_of_beq_eq_true h1, Nat.eq_of_beq_eq_true h2⟩, T.setK_eq]

noncomputable def wrF : Nat → List AV → Cs → Nat → Cs
  | 0, _, c, _ => c
  | _ + 1, [], c, _ => c
  | f + 1, v :: l, c, off => if inRow c.w (Nat.mod off c.w) (v :: l).length = true then c.put1 (v :: l) off
    else wrF f ((v :: l).drop (c.w - Nat.mod off c.w)) (c.put1 ((v :: l).take (c.w - Nat.mod off c.w)) off) (off + (c.w - Nat.mod off c.w))
noncomputable def wrKF (f : Nat) : List AV → Nat → Cs → Nat → (Cs → Bool) → Bool :=
  Nat.rec (motive := fun _ => List AV → Nat → Cs → Nat → (Cs → Bool) → Bool) (fun _ _ c _ k => k c)
    (fun _ ih l n c off k => List.rec (motive := fun _ => Bool) (k c) (fun _ _ _ => bc (inRow c.w (Nat.mod off c.w) n) (put1K l n c off k)
      (forceN (Nat.sub c.w (Nat.mod off c.w)) fun m => takeK m l fun a => dropK m l fun b => put1K a (lenR a) c off fun c' => forceN (Nat.add off m) fun off' => ih b (lenR b) c' off' k)) l) f
theorem wrKF_eq : ∀ (f : Nat) (l : List AV) (c : Cs) (off : Nat) (k : Cs → Bool), wrKF f l l.length c off k = k (wrF f l c off)
  | 0, _, _, _, _ => rfl
  | _ + 1, [], _, _, _ => rfl
  | f + 1, v :: l, c, off, k => by
    show bc (inRow c.w (Nat.mod off c.w) (v :: l).length) (put1K (v :: l) (v :: l).length c off k) (forceN (Nat.sub c.w (Nat.mod off c.w)) fun m => takeK m (v :: l) fun a => dropK m (v :: l) fun b => put1K a (lenR a) c off fun c' => forceN (Nat.add off m) fun off' => wrKF f b (lenR b) c' off' k) = k (if _ then _ else _)
    cases hi : inRow c.w (Nat.mod off c.w) (v :: l).length
    · rw [bc_false, if_neg (by simp), forceN_eq, takeK_eq, dropK_eq, lenR_eq, put1K_eq, forceN_eq, lenR_eq, wrKF_eq f]; rfl
    · rw [bc_true, if_pos rfl, put1K_eq]

theorem put1_w (c : Cs) (l : List AV) (off : Nat) : (c.put1 l off).w = c.w := rfl
theorem wrF_get : ∀ (f : Nat) (l : List AV) (c : Cs) (off : Nat), l.length < f →
    (∀ j, j < off ∨ off + l.length ≤ j → (wrF f l c off).get j = c.get j) ∧ ∀ i, i < l.length → (wrF f l c off).get (off + i) = nthR l i ∨ (wrF f l c off).get (off + i) = .no
  | 0, _, _, _, h => absurd h (Nat.not_lt_zero _)
  | f + 1, [], c, off, _ => ⟨fun _ _ => rfl, fun i h => absurd h (Nat.not_lt_zero _)⟩
  | f + 1, v :: l, c, off, h => by
    cases hi : inRow c.w (Nat.mod off c.w) (v :: l).length
    · have e : wrF (f + 1) (v :: l) c off = wrF f ((v :: l).drop (c.w - Nat.mod off c.w)) (c.put1 ((v :: l).take (c.w - Nat.mod off c.w)) off) (off + (c.w - Nat.mod off c.w)) := by
        rw [wrF, if_neg (by rw [hi]; simp)]
      obtain ⟨h1, h2⟩ := inRow_no hi
      have h3 : Nat.mod off c.w < c.w := Nat.mod_lt off h2
      rw [e]
      generalize v :: l = L at *
      have hm : c.w - Nat.mod off c.w < L.length := by omega
      generalize hmm : c.w - Nat.mod off c.w = m at *
      have hlen : (L.take m).length = m := by simp; omega
      obtain ⟨p1, p2⟩ := Cs.put1_get (c := c) (l := L.take m) (off := off) (by left; omega) (by omega)
      obtain ⟨r1, r2⟩ := wrF_get f (L.drop m) (c.put1 (L.take m) off) (off + m) (by simp; omega)
      have hdl : (L.drop m).length = L.length - m := by simp
      have tk : ∀ i, i < m → nthR (L.take m) i = nthR L i := fun i hi => by
        rw [nthR_eq, nthR_eq]
        simp [hi]
      refine ⟨fun j hj => ?_, fun i hi => ?_⟩
      · rw [r1 j (by omega), p1 j (by omega)]
      · by_cases him : i < m
        · rw [r1 (off + i) (by omega), ← tk i him]
          exact p2 i (by omega)
        · have := r2 (i - m) (by omega)
          rw [show off + m + (i - m) = off + i by omega, nthR_drop, show m + (i - m) = i by omega] at this
          exact this
    · have e : wrF (f + 1) (v :: l) c off = c.put1 (v :: l) off := by rw [wrF, if_pos hi]
      rw [e]
      exact Cs.put1_get (inRow_ok hi) (by simp)

/-- a list laid into rows from off on -/
noncomputable def wrC (l : List AV) (c : Cs) (off : Nat) (k : Cs → Bool) : Bool := forceN (lenR l) fun n => wrKF (Nat.succ n) l n c off k
noncomputable def wrCs (l : List AV) (c : Cs) (off : Nat) : Cs := wrF (l.length + 1) l c off
theorem wrC_eq (l : List AV) (c : Cs) (off : Nat) (k : Cs → Bool) : wrC l c off k = k (wrCs l c off) := by
  unfold wrC wrCs
  rw [forceN_eq, lenR_eq, wrKF_eq]
theorem wrCs_out {l : List AV} {c : Cs} {off j : Nat} (h : j < off ∨ off + l.length ≤ j) : (wrCs l c off).get j = c.get j := (wrF_get _ l c off (Nat.lt_succ_self _)).1 j h
theorem wrCs_in {l : List AV} {c : Cs} {off i : Nat} (h : i < l.length) : (wrCs l c off).get (off + i) = nthR l i ∨ (wrCs l c off).get (off + i) = .no := (wrF_get _ l c off (Nat.lt_succ_self _)).2 i h

noncomputable def bigR : T (List AV) := T.full [] 24
theorem big_get (w j : Nat) : Cs.get ⟨w, bigR⟩ j = .no := by
  unfold Cs.get bigR
  rw [T.get_full, nthR_nil]

/-- only some cells kept -/
noncomputable def T.imap {α : Type} : (Nat → α → α) → T α → T α
  | _, .nil => .nil
  | f, .node v l r => .node (f 0 v) (T.imap (fun j => f (2 * j + 1)) l) (T.imap (fun j => f (2 * j + 2)) r)
theorem T.get_imap {α : Type} (d : α) (t : T α) : ∀ (f : Nat → α → α) (i : Nat), (∀ i, f i d = d) → T.get d (T.imap f t) i = f i (T.get d t i) := by
  induction t with
  | nil => intro f i h; exact (h i).symm
  | node v l r ihl ihr =>
    intro f i h
    cases i with
    | zero => rfl
    | succ i =>
      have g : ∀ (v : α) (l r : T α), T.get d (.node v l r) (i + 1) = Nat.rec (motive := fun _ => α) (T.get d l (i / 2)) (fun _ _ => T.get d r (i / 2)) (i % 2) := fun _ _ _ => rfl
      show T.get d (.node (f 0 v) (T.imap (fun j => f (2 * j + 1)) l) (T.imap (fun j => f (2 * j + 2)) r)) (i + 1) = _
      rw [g, g]
      rcases T.mod_two i with hm | hm <;> rw [hm]
      · show T.get d (T.imap (fun j => f (2 * j + 1)) l) (i / 2) = f (i + 1) (T.get d l (i / 2))
        rw [ihl _ _ (fun j => h _)]
        congr 1; omega
      · show T.get d (T.imap (fun j => f (2 * j + 2)) r) (i / 2) = f (i + 1) (T.get d r (i / 2))
        rw [ihr _ _ (fun j => h _)]
        congr 1; omega
noncomputable def Cs.keep (p : Nat → Bool) (c : Cs) : Cs := ⟨c.w, T.imap (fun i l => (List.range l.length).map fun o => bif p (i * c.w + o) then nthR l o else .no) c.t⟩
theorem Cs.keep_get (p : Nat → Bool) (c : Cs) (j : Nat) : (c.keep p).get j = bif p j then c.get j else .no := by
  unfold Cs.keep Cs.get
  show nthR (T.get [] (T.imap _ c.t) (Nat.div j c.w)) (Nat.mod j c.w) = _
  rw [T.get_imap _ _ _ _ (fun i => rfl)]
  have hj : Nat.div j c.w * c.w + Nat.mod j c.w = j := by
    have := Nat.div_add_mod j c.w
    rw [Nat.mul_comm] at this; exact this
  generalize T.get [] c.t (Nat.div j c.w) = l
  have aux : ∀ (l : List AV) (f : Nat → AV) (i : Nat), nthR ((List.range l.length).map f) i = if i < l.length then f i else .no := fun l f i => by
    rw [nthR_eq]
    by_cases h : i < l.length
    · simp [h, List.getElem?_range h]
    · simp [h]
  rw [aux, hj]
  by_cases h : Nat.mod j c.w < l.length
  · rw [if_pos h]
  · rw [if_neg h]
    have : nthR l (Nat.mod j c.w) = .no := by rw [nthR_eq]; simp [h]
    rw [this]; cases p j <;> rfl

end Go.Proofs.YtbmekbpgoakkbaaGreatDoor.Vx
