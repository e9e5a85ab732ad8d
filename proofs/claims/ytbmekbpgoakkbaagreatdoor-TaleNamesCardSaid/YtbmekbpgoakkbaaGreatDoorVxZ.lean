/- What is known after a call whose contract says that nothing that was there has turned: an evaluator's contract for a function that hands back a new row. No condition. -/
import Derived.Test.YtbmekbpgoakkbaaGreatDoorVxN
import Derived.Lib.IndexMore
import Derived.OpenShut
import Derived.Test.YtbmekbpgoakkbaaGreatDoorVxD
import Derived.ProofKit
import Derived.Carry
import Derived.Laws.Cover2
import Derived.Lib.SmallJoins
set_option linter.unusedVariables false
set_option linter.unusedSimpArgs false
set_option linter.constructorNameAsVariable false
set_option linter.unusedSectionVars false
namespace Go.Proofs.YtbmekbpgoakkbaaGreatDoor.Vx
open Go

section
variable {E : Env} {h : Heap} {nxt : Nat} {w w' : World}

theorem old_get {x : Obj} {k : Nat} (hb : RowKit.Below w.heap.size w w') (hx : w.heap[k]? = some x) : w'.heap[k]? = some x := by
  have : k < w.heap.size := by
    rcases Nat.lt_or_ge k w.heap.size with hh | hh
    · exact hh
    · rw [Array.getElem?_eq_none hh] at hx; cases hx
  rw [hb.block k this]; exact hx

theorem RO.below {i : Nat} {a : AO} (hb : RowKit.Below w.heap.size w w') (r : RO E w i a) : RO E w' i a := by
  cases a with
  | gone => trivial
  | floor n => trivial
  | facts fs => exact r
  | ali p off q cap => exact r
  | cells n e c => obtain ⟨L, arr, el, h1, h2, h3⟩ := r; exact ⟨L, arr, el, h1, old_get hb h2, h3⟩
  | map es c => obtain ⟨L, ms, h1, h2, h3⟩ := r; exact ⟨L, ms, h1, old_get hb h2, h3⟩
  | siter l n p => obtain ⟨L, h1, h2, h3⟩ := r; exact ⟨L, h1, h2, old_get hb h3⟩
  | glob g n c => obtain ⟨L, arr, el, fr, h1, h2, h3, h4⟩ := r; exact ⟨L, arr, el, fr, h1, h2, old_get hb h3, h4⟩
  | rows el len => obtain ⟨L, arr, n, h1, h0, h2, h3⟩ := r; exact ⟨L, arr, n, h1, h0, old_get hb h2, h3⟩
  | blob el sz S l len => obtain ⟨L, arr, n, h1, h0, h2, h3⟩ := r; exact ⟨L, arr, n, h1, h0, old_get hb h2, h3⟩

theorem HR.below (hr : HR E h nxt w) (hb : RowKit.Below w.heap.size w w') : HR E h nxt w' :=
  ⟨fun i => (hr.obj i).below hb, hr.inj, hr.lt, hr.fresh, fun i L hi => Nat.lt_of_lt_of_le (hr.inw i L hi) hb.size, hr.pos, hr.flle, hr.zero⟩

theorem Goes.below (hb : RowKit.Below w.heap.size w w') : Goes E h w E h w' :=
  ⟨Env.le_refl _, hb.size, fun k hk _ => hb.block k hk, fun _ _ h => h, rfl, fun _ _ => rfl, hb.os, hb.output, hb.tape⟩

/-- a contract: a new row of these values, and nothing else -/
noncomputable def rowC (t : TypeId) (l : List AV) (n : Nat) : List AV → Heap → Nat → K → Bool := fun args h nxt k => match args with
  | [] => newCells 1 l n ⟨0, some t, true⟩ h nxt (k (.so nxt 0 n 0))
  | _ => false

theorem rowC_ok {P : Program} {g : FuncId} {t : TypeId} {vs : List Value} {n : Nat} (hn : vs.length = n)
    (hc : ∀ w : World, Calls P g #[] w fun e w' => ∃ b cap, e = .returned (.slice (some ⟨b, 0, none⟩) n cap) ∧ w'.ownsRow w.heap.size t 1 (.slice (some ⟨b, 0, none⟩) n cap) n vs ∧ RowKit.Below w.heap.size w w')
    (args : List AV) (ARGS : Array Value) (E : Env) (h : Heap) (nxt : Nat) (w : World) (k : K) (he : rowC t (vs.map abs1) n args h nxt k = true) (ra : RvL E args ARGS.toList) (hr : HR E h nxt w) :
    Calls P g ARGS w fun e w' => ∃ V, e = .returned V ∧ Gives E h w k V w' := by
  unfold rowC at he
  split at he <;> try (cases he; done)
  have hA : ARGS = #[] := by
    rw [RvL] at ra
    apply Array.ext'; simpa using ra
  subst hA
  refine (hc w).mono ?_
  rintro e w' ⟨b, cap, rfl, hrow, hb⟩
  obtain ⟨hl, ⟨hnil, _⟩ | ⟨b', cap', cur, hv, hbase, hg, h1, h2, h3, h4⟩⟩ := hrow
  · cases hnil
  obtain ⟨rfl, rfl⟩ : b = b' ∧ cap = cap' := by simpa using hv
  unfold newCells at he
  rw [wrC_eq, T.setK_eq, forceN_eq] at he
  have hr' := hr.below hb
  have hlt : b < w'.heap.size := (Array.getElem?_eq_some_iff.1 hg).1
  have hcur : n ≤ cur.size := by rw [h3]; omega
  have e1 : ∀ j, j < n → vs.getD j undef = cur.getD j undef := fun j hj => by
    rw [← h4]
    simp [List.getElem?_take, hj]
  have no : ∀ i M, (T.get AO.gone h i).live = true → E i = some M → M.blk ≠ b := fun i M _ hM => by
    have := hr.inw i M hM
    omega
  have hle := Env.le_set (hr'.fresh nxt (Nat.le_refl _)) ⟨b, 0, cap⟩
  have ad := hr'.adopt ⟨b, 0, cap⟩ hlt no (.cells n ⟨0, some t, true⟩ (wrCs (vs.map abs1) ⟨1, bigR⟩ 0)) ⟨⟨b, 0, cap⟩, cur, t, by simp, by simpa using hg, by simpa using hcur, Esz.ok_new _ _ _ _ _, fun j hj => by
    have := wrCs_new (E := fun i => if i = nxt then some ⟨b, 0, cap⟩ else E i) 1 (vs.map abs1) vs (abs1L_ok _ vs) j (by simpa [hn] using hj)
    rw [e1 j hj] at this
    simpa using this⟩
  refine ⟨_, rfl, _, _, _, _, ?_, ad, (Goes.below hb).adopt hr' ⟨b, 0, cap⟩ hbase _, he⟩
  rw [Rv]
  exact ⟨⟨b, 0, cap⟩, by simp, by simp, by simpa using h1⟩
end

/-! ### strings.Index and strings.Contains -/
theorem occ_iff {a x b y j : Nat} (hj : j ≤ a) : Lib.occAt (unpack a x) (unpack b y) j = true ↔ j + b ≤ a ∧ (x / 256 ^ j) % 256 ^ b = y % 256 ^ b := by
  unfold Lib.occAt
  rw [unpack_drop, List.isPrefixOf_iff_prefix, List.prefix_iff_eq_take, unpack_length]
  by_cases hb : b ≤ a - j
  · rw [unpack_take b (a - j) _ hb, unpack_inj]
    constructor
    · intro h; exact ⟨by omega, h.symm⟩
    · intro h; exact h.2.symm
  · constructor
    · intro h
      have := congrArg List.length h
      simp at this
      omega
    · intro h; omega

noncomputable def scanK (n : Nat) : Nat → Nat → Nat → Nat → (Int → Bool) → Bool :=
  Nat.rec (motive := fun _ => Nat → Nat → Nat → Nat → (Int → Bool) → Bool) (fun _ _ _ _ k => k (.negSucc 0))
    (fun _ ih x i m y k => bc (Nat.beq (Nat.mod x m) y) (k (.ofNat i)) (forceN (Nat.div x 256) fun x' => forceN (Nat.succ i) fun i' => ih x' i' m y k)) n

theorem scanK_ok {a X b Y : Nat} {k : Int → Bool} : ∀ (n i : Nat), i + n = a + 1 - b → (∀ j, j < i → Lib.occAt (unpack a X) (unpack b Y) j = false) →
    scanK n (X / 256 ^ i) i (256 ^ b) (Y % 256 ^ b) k = k (Lib.index (unpack a X) (unpack b Y))
  | 0, i, hi, hn => by
    have e : Lib.index (unpack a X) (unpack b Y) = -1 := Lib.index_none fun j hj => by
      rw [unpack_length] at hj
      by_cases h : j < i
      · exact hn j h
      · cases ho : Lib.occAt (unpack a X) (unpack b Y) j
        · rfl
        · have := ((occ_iff hj).1 ho).1
          omega
    rw [e]; rfl
  | n + 1, i, hi, hn => by
    have hia : i + b ≤ a := by omega
    show bc (Nat.beq (Nat.mod (X / 256 ^ i) (256 ^ b)) (Y % 256 ^ b)) (k (.ofNat i)) (forceN (Nat.div (X / 256 ^ i) 256) fun x' => forceN (Nat.succ i) fun i' => scanK n x' i' (256 ^ b) (Y % 256 ^ b) k) = _
    cases hb : Nat.beq (Nat.mod (X / 256 ^ i) (256 ^ b)) (Y % 256 ^ b)
    · rw [bc_false, forceN_eq, forceN_eq]
      have e : Nat.div (X / 256 ^ i) 256 = X / 256 ^ (i + 1) := by
        show X / 256 ^ i / 256 = _
        rw [Nat.div_div_eq_div_mul, Nat.pow_succ]
      rw [e]
      refine scanK_ok n (i + 1) (by omega) fun j hj => ?_
      by_cases h : j < i
      · exact hn j h
      · have : j = i := by omega
        subst this
        cases ho : Lib.occAt (unpack a X) (unpack b Y) j
        · rfl
        · have h2 := ((occ_iff (by omega)).1 ho).2
          have : Nat.beq (Nat.mod (X / 256 ^ j) (256 ^ b)) (Y % 256 ^ b) = true := by
            show Nat.beq ((X / 256 ^ j) % (256 ^ b)) _ = true
            rw [h2]; exact Nat.beq_refl _
          rw [this] at hb; cases hb
    · rw [bc_true]
      have h2 : (X / 256 ^ i) % 256 ^ b = Y % 256 ^ b := Nat.eq_of_beq_eq_true hb
      rw [Lib.index_first (i := i) (by simp; omega) ((occ_iff (by omega)).2 ⟨hia, h2⟩) hn]
      rfl

/-- the package variable holds some whole number -/
noncomputable def someInt (h : Heap) (g : Nat) (b : Bool) : Bool := match T.get .gone h (Nat.succ g) with
  | .glob g' n c => bc (bc (Nat.beq g g') (Nat.ble (Nat.succ g) 1000000) false) (bc (Nat.ble 1 n) (match T.get .no c 0 with
    | .ii .i64 => b
    | _ => false) false) false
  | _ => false

theorem someInt_ok {E : Env} {h : Heap} {nxt : Nat} {w : World} {g : Nat} {b : Bool} (he : someInt h g b = true) (hr : HR E h nxt w) : b = true ∧ ∃ m, w.cell? ⟨g, 0, none⟩ = some (.int .i64 m) := by
  unfold someInt at he
  split at he <;> try (cases he; done)
  rename_i g' n c hc
  obtain ⟨h1, he1⟩ := bc_and he
  clear he
  obtain ⟨h1, hbig⟩ := bc_and h1
  have hbig := Nat.le_of_ble_eq_true hbig
  obtain ⟨h2, he2⟩ := bc_and he1
  clear he1
  obtain rfl := Nat.eq_of_beq_eq_true h1
  have h2 := Nat.le_of_ble_eq_true h2
  split at he2 <;> try (cases he2; done)
  rename_i hg
  have he := he2
  have ho := hr.obj (Nat.succ g)
  rw [hc] at ho
  obtain ⟨L, arr, el, fr, _, hLB, hb, hsz, hcs, _⟩ := ho
  obtain ⟨hL, hB⟩ := hLB (by omega)
  rw [hB] at hcs hsz
  have := hcs 0 (by omega)
  rw [hg, Rv] at this
  obtain ⟨m, hm⟩ := this
  refine ⟨he, m, ?_⟩
  have := cell_of (off := 0) hb (by omega)
  rw [hm, hL] at this
  exact this

noncomputable def indexC (g : Nat) (res : Int → AV) : List AV → Heap → Nat → K → Bool := fun args h nxt k => match args with
  | [.s a x, .s b y] => someInt h g (bc (Nat.ble a 4294967280) (forceN (Nat.pow 256 b) fun m => forceN (Nat.mod y m) fun y' => scanK (Nat.sub (Nat.succ a) b) x 0 m y' fun r => k (res r) h nxt) false)
  | _ => false

theorem indexC_ok {P : Program} {f : FuncId} {g : Nat} {res : Int → AV} {RES : Int → Value} (hres : ∀ E r, Rv E (res r) (RES r))
    (hc : ∀ (s sub : ByteArray) (m : Int) (w : World), s.size < 4294967281 → w.cell? ⟨g, 0, none⟩ = some (.int .i64 m) → Calls P f #[.string s, .string sub] w fun e w' => e = .returned (RES (Lib.index s.data.toList sub.data.toList)) ∧ w' = w)
    (args : List AV) (ARGS : Array Value) (E : Env) (h : Heap) (nxt : Nat) (w : World) (k : K) (he : indexC g res args h nxt k = true) (ra : RvL E args ARGS.toList) (hr : HR E h nxt w) :
    Calls P f ARGS w fun e w' => ∃ V, e = .returned V ∧ Gives E h w k V w' := by
  unfold indexC at he
  split at he <;> try (cases he; done)
  rename_i a x b y
  obtain ⟨he, m, hm⟩ := someInt_ok he hr
  obtain ⟨hle, he⟩ := bc_and he
  have hle := Nat.le_of_ble_eq_true hle
  rw [forceN_eq, forceN_eq] at he
  obtain ⟨X, Y, hX, rx, ry⟩ := ra.two
  rw [Rv] at rx ry
  subst rx; subst ry
  have hA : ARGS = #[.string (str a x), .string (str b y)] := by apply Array.ext'; simpa using hX
  subst hA
  have key := scanK_ok (a := a) (X := x) (b := b) (Y := y) (k := fun r => k (res r) h nxt) (a + 1 - b) 0 (by omega) (fun j hj => by omega)
  have he : scanK (a + 1 - b) (x / 256 ^ 0) 0 (256 ^ b) (y % 256 ^ b) (fun r => k (res r) h nxt) = true := by rw [Nat.pow_zero, Nat.div_one]; exact he
  rw [key] at he
  refine (hc (str a x) (str b y) m w (by simp; omega) hm).mono ?_
  rintro e w' ⟨rfl, rfl⟩
  rw [str_toList, str_toList]
  exact ⟨_, rfl, _, _, _, _, hres E _, hr, Goes.refl _ _ _, he⟩

theorem holds_of_cell {w : World} {g : Nat} {m : Int} (h : w.cell? ⟨g, 0, none⟩ = some (.int .i64 m)) : HoldsG w [(g, [.ii .i64])] := by
  intro p hp
  obtain rfl := List.mem_singleton.1 hp
  unfold World.cell? at h
  simp only at h
  split at h <;> try (cases h; done)
  rename_i arr el fr hb
  refine ⟨arr, el, fr, hb, fun E => ?_⟩
  have : arr.toList.take 1 = [.int .i64 m] := by
    have h0 : arr.toList[0]? = some (.int .i64 m) := by simpa using h
    cases hl : arr.toList with
    | nil => rw [hl] at h0; cases h0
    | cons v l => rw [hl] at h0; simp at h0; simp [h0]
  show RvL E [.ii .i64] (arr.toList.take 1)
  rw [this]
  exact .cons (by rw [Rv]; exact ⟨m, rfl⟩) .nil
theorem someInt_holds {E : Env} {h : Heap} {nxt : Nat} {w : World} {g : Nat} {b : Bool} (he : someInt h g b = true) (hr : HR E h nxt w) : b = true ∧ HoldsG w [(g, [.ii .i64])] := by
  obtain ⟨h1, m, h2⟩ := someInt_ok he hr
  exact ⟨h1, holds_of_cell h2⟩

/-! ### A call of which it is known what it answers -/
noncomputable def sameA (a b : AV) : Bool := match a, b with
  | .s l x, .s m y => bc (Nat.beq l m) (Nat.beq x y) false
  | .i k m, .i k' n => bc (Nat.beq (ikc k) (ikc k')) (intEq m n) false
  | .f .f64 x, .f .f64 y => Nat.beq x y
  | .b x, .b y => bc x y (bc y false true)
  | _, _ => false
theorem sameA_ok {a b : AV} (h : sameA a b = true) : a = b := by
  unfold sameA at h
  split at h
  · obtain ⟨h1, h2⟩ := bc_and h
    rw [Nat.eq_of_beq_eq_true h1, Nat.eq_of_beq_eq_true h2]
  · obtain ⟨h1, h2⟩ := bc_and h
    rw [ikc_inj h1]
    rename_i m k' n
    have : m = n := by
      cases m <;> cases n <;> first | (rw [Nat.eq_of_beq_eq_true h2]) | cases h2
    rw [this]
  · rw [Nat.eq_of_beq_eq_true h]
  · rename_i x y
    cases x <;> cases y <;> first | rfl | cases h
  · cases h
noncomputable def sameL (a : List AV) : List AV → Bool := List.rec (motive := fun _ => List AV → Bool) (fun b => List.rec (motive := fun _ => Bool) true (fun _ _ _ => false) b) (fun v _ ih b => List.rec (motive := fun _ => Bool) false (fun u us _ => bc (sameA v u) (ih us) false) b) a
theorem sameL_ok : ∀ {a b : List AV}, sameL a b = true → a = b
  | [], [], _ => rfl
  | [], _ :: _, h => by cases h
  | _ :: _, [], h => by cases h
  | v :: a, u :: b, h => by
    have h : bc (sameA v u) (sameL a b) false = true := h
    obtain ⟨h1, h2⟩ := bc_and h
    rw [sameA_ok h1, sameL_ok h2]

/-- a value that speaks of no memory -/
noncomputable def flat1 (a : AV) : Bool := match a with
  | .s _ _ => true
  | .i _ _ => true
  | .f _ _ => true
  | .b _ => true
  | _ => false
noncomputable def flatL (l : List AV) : Bool := List.rec (motive := fun _ => Bool) true (fun v _ ih => bc (flat1 v) ih false) l
noncomputable def flat (a : AV) : Bool := match a with
  | .ag l => flatL l
  | .tu l => flatL l
  | a => flat1 a
noncomputable def sameV (a b : AV) : Bool := match a, b with
  | .ag l, .ag m => sameL l m
  | .tu l, .tu m => sameL l m
  | a, b => sameA a b
theorem sameV_ok {a b : AV} (h : sameV a b = true) : a = b := by
  unfold sameV at h
  split at h
  · rw [sameL_ok h]
  · rw [sameL_ok h]
  · exact sameA_ok h
theorem flat1_any {a : AV} (h : flat1 a = true) {E : Env} {V : Value} (r : Rv E a V) (E' : Env) : Rv E' a V := by
  unfold flat1 at h
  split at h <;> first | (rw [Rv] at *; exact r) | cases h
theorem flatL_any : ∀ {l : List AV}, flatL l = true → ∀ {E : Env} {vs : List Value}, RvL E l vs → ∀ E' : Env, RvL E' l vs
  | [], _, _, _, r, _ => by rw [RvL] at *; exact r
  | a :: l, h, _, _, r, E' => by
    obtain ⟨h1, h2⟩ := bc_and (b := flat1 a) (x := flatL l) h
    rw [RvL] at *
    obtain ⟨v, vs, e, r1, r2⟩ := r
    exact ⟨v, vs, e, flat1_any h1 r1 E', flatL_any h2 r2 E'⟩
theorem flat_any {a : AV} (h : flat a = true) {E : Env} {V : Value} (r : Rv E a V) (E' : Env) : Rv E' a V := by
  unfold flat at h
  split at h
  · rw [Rv] at *
    obtain ⟨vs, e, r⟩ := r
    exact ⟨vs, e, flatL_any h r E'⟩
  · rw [Rv] at *
    obtain ⟨vs, e, r⟩ := r
    exact ⟨vs, e, flatL_any h r E'⟩
  · exact flat1_any h r E'

/-- a closed run that hands back a value that speaks of no memory -/
theorem closedV {P : Program} {call : CallF} (hc : CallOK P call) {gl : List (Nat × List AV)} {n0 : Nat} {g : FuncId} {args : List AV} {ARGS : Array Value} {x : AV} (hn : gl.all (fun p => Nat.ble (p.1 + 2) n0) = true) (h1 : Nat.ble 1 n0 = true)
    (ra : ∀ E, RvL E args ARGS.toList) (hx : flat x = true) (he : call g args (startH gl n0) n0 (fun v _ _ => sameV v x) = true) (w : World) (hw : HoldsG w gl) :
    Calls P g ARGS w fun e w' => ∃ V, e = .returned V ∧ (∀ E, Rv E x V) ∧ RowKit.Below w.heap.size w w' := by
  have hr := startH_ok hn h1 hw
  refine (hc g args ARGS _ _ n0 w _ he (ra _) hr trivial).mono ?_
  rintro e w' (⟨V, rfl, v, h', nxt', E', rv, _, gs, hk⟩ | ⟨V, rfl, v, h', nxt', E', rv, _, gs, hk⟩)
  case inr => have := sameV_ok hk; rw [← this] at hx; cases hx
  have := sameV_ok hk
  subst this
  exact ⟨V, rfl, fun E => flat_any hx rv E, below_of gs (startH_fp hr)⟩

abbrev Ct := List AV → Heap → Nat → K → Bool
/-- what is to be shown of a contract -/
def CtOK [JC] (P : Program) (g : FuncId) (C : Ct) : Prop := ∀ (args : List AV) (ARGS : Array Value) (E : Env) (h : Heap) (nxt : Nat) (w : World) (k : K),
  C args h nxt k = true → RvL E args ARGS.toList → HR E h nxt w → JC.J E h w → Calls P g ARGS w (Ends E h w k)
/-- where the predicate plays no part, and nothing panics -/
theorem CtOK.of [JC] {P : Program} {g : FuncId} {C : Ct} (H : ∀ (args : List AV) (ARGS : Array Value) (E : Env) (h : Heap) (nxt : Nat) (w : World) (k : K),
    C args h nxt k = true → RvL E args ARGS.toList → HR E h nxt w → Calls P g ARGS w fun e w' => ∃ V, e = .returned V ∧ Gives E h w k V w') : CtOK P g C :=
  fun args ARGS E h nxt w k he ra hr _ => (H args ARGS E h nxt w k he ra hr).mono fun _ _ hh => .inl hh

noncomputable def orC (C D : Ct) : Ct := fun args h nxt k => bc (C args h nxt k) true (D args h nxt k)
theorem orC_ok [JC] {P : Program} {g : FuncId} {C D : Ct} (hC : CtOK P g C) (hD : CtOK P g D) : CtOK P g (orC C D) := by
  intro args ARGS E h nxt w k he ra hr hj
  rcases bc_or he with ⟨he, _⟩ | ⟨_, he⟩
  · exact hC args ARGS E h nxt w k he ra hr hj
  · exact hD args ARGS E h nxt w k he ra hr hj

/-- what is given, and what is answered -/
noncomputable def valC (ok : Heap → Bool → Bool) (args0 : List AV) (x : AV) : Ct := fun args h nxt k => bc (sameL args args0) (ok h (k x h nxt)) false
theorem valC_ok [JC] {P : Program} {g : FuncId} {ok : Heap → Bool → Bool} {args0 : List AV} {ARGS0 : Array Value} {x : AV} {G : World → Prop}
    (hok : ∀ {E : Env} {h : Heap} {nxt : Nat} {w : World} {b : Bool}, ok h b = true → HR E h nxt w → b = true ∧ G w) (hex : exL args0 = true) (ra0 : ∀ E, RvL E args0 ARGS0.toList)
    (hc : ∀ w, G w → Calls P g ARGS0 w fun e w' => ∃ V, e = .returned V ∧ (∀ E, Rv E x V) ∧ RowKit.Below w.heap.size w w') : CtOK P g (valC ok args0 x) := by
  refine CtOK.of ?_
  intro args ARGS E h nxt w k he ra hr
  have he0 : bc (sameL args args0) (ok h (k x h nxt)) false = true := he
  obtain ⟨h1, he1⟩ := bc_and he0
  obtain rfl := sameL_ok h1
  obtain ⟨he2, hG⟩ := hok he1 hr
  have : ARGS = ARGS0 := by apply Array.ext'; exact RvL.exact (Env.le_refl E) args _ _ hex (ra0 E) ra
  subst this
  refine (hc w hG).mono ?_
  rintro e w' ⟨V, rfl, hV, hb⟩
  exact ⟨_, rfl, _, _, _, _, hV E, hr.below hb, Goes.below hb, he2⟩
end Go.Proofs.YtbmekbpgoakkbaaGreatDoor.Vx
set_option linter.unusedVariables false
set_option linter.unusedSimpArgs false
set_option linter.constructorNameAsVariable false
set_option linter.unusedSectionVars false
namespace Go.Proofs.YtbmekbpgoakkbaaGreatDoor.Vx
open Go

section
variable {E E' : Env} {h : Heap} {nxt : Nat} {w w' : World}

/-! ### Ids put otherwise -/
noncomputable def sh0 (f : Nat → Nat) (v : AV) : AV := match v with
  | .p j off => .p (f j) off
  | .sl j a b c => .sl (f j) a b c
  | .so j a b c => .so (f j) a b c
  | v => v
noncomputable def sh1 (f : Nat → Nat) (v : AV) : AV := match v with
  | .ifc t v => .ifc t (sh0 f v)
  | .ag l => .ag (l.map (sh0 f))
  | v => sh0 f v
noncomputable def sh2 (f : Nat → Nat) (v : AV) : AV := match v with
  | .tu l => .tu (l.map (sh1 f))
  | v => sh1 f v

noncomputable def ok0 (m : Nat) (v : AV) : Bool := match v with
  | .p j _ => Nat.ble (Nat.succ j) m
  | .sl j _ _ _ => Nat.ble (Nat.succ j) m
  | .so j _ _ _ => Nat.ble (Nat.succ j) m
  | .un | .b _ | .i .. | .f .. | .nan | .s .. | .pn | .pg .. | .sn | .fnil | .inil | .mpn | .ii _ | .no => true
  | _ => false
noncomputable def ok1 (m : Nat) (v : AV) : Bool := match v with
  | .ifc _ v => ok0 m v
  | .ag l => l.all (ok0 m)
  | v => ok0 m v
noncomputable def ok2 (m : Nat) (v : AV) : Bool := match v with
  | .tu l => l.all (ok1 m)
  | v => ok1 m v

/-- two ways to name the same blocks -/
def Mt (m : Nat) (E : Env) (f : Nat → Nat) (E' : Env) (g : Nat → Nat) : Prop := ∀ j L, j < m → E (f j) = some L → E' (g j) = some L

theorem sh0_ok {m : Nat} {f g : Nat → Nat} (hM : Mt m E f E' g) {v : AV} {V : Value} (hv : ok0 m v = true) (r : Rv E (sh0 f v) V) : Rv E' (sh0 g v) V := by
  cases v <;> simp only [ok0, Bool.false_eq_true] at hv <;> simp only [sh0, Rv] at r ⊢ <;> try exact r
  case p j off => obtain ⟨L, e, r⟩ := r; exact ⟨L, hM j L (Nat.le_of_ble_eq_true hv) e, r⟩
  case sl j a b c => obtain ⟨L, e, r⟩ := r; exact ⟨L, hM j L (Nat.le_of_ble_eq_true hv) e, r⟩
  case so j a b c => obtain ⟨L, e, r⟩ := r; exact ⟨L, hM j L (Nat.le_of_ble_eq_true hv) e, r⟩

theorem sh0L_ok {m : Nat} {f g : Nat → Nat} (hM : Mt m E f E' g) : ∀ {l : List AV} {vs : List Value}, l.all (ok0 m) = true → RvL E (l.map (sh0 f)) vs → RvL E' (l.map (sh0 g)) vs
  | [], _, _, r => by simpa [RvL] using r
  | v :: l, _, hv, r => by
    rw [List.all_cons, Bool.and_eq_true] at hv
    rw [List.map_cons, RvL] at r ⊢
    obtain ⟨V, vs, e, r1, r2⟩ := r
    exact ⟨V, vs, e, sh0_ok hM hv.1 r1, sh0L_ok hM hv.2 r2⟩

theorem sh1_ok {m : Nat} {f g : Nat → Nat} (hM : Mt m E f E' g) {v : AV} {V : Value} (hv : ok1 m v = true) (r : Rv E (sh1 f v) V) : Rv E' (sh1 g v) V := by
  cases v
  case ifc t v =>
    simp only [sh1, Rv] at r ⊢
    obtain ⟨W, e, r⟩ := r
    exact ⟨W, e, sh0_ok hM hv r⟩
  case ag l =>
    simp only [sh1, Rv] at r ⊢
    obtain ⟨vs, e, r⟩ := r
    exact ⟨vs, e, sh0L_ok hM hv r⟩
  all_goals (simp only [ok1] at hv; simp only [sh1] at r ⊢; exact sh0_ok hM hv r)

theorem sh1L_ok {m : Nat} {f g : Nat → Nat} (hM : Mt m E f E' g) : ∀ {l : List AV} {vs : List Value}, l.all (ok1 m) = true → RvL E (l.map (sh1 f)) vs → RvL E' (l.map (sh1 g)) vs
  | [], _, _, r => by simpa [RvL] using r
  | v :: l, _, hv, r => by
    rw [List.all_cons, Bool.and_eq_true] at hv
    rw [List.map_cons, RvL] at r ⊢
    obtain ⟨V, vs, e, r1, r2⟩ := r
    exact ⟨V, vs, e, sh1_ok hM hv.1 r1, sh1L_ok hM hv.2 r2⟩

theorem sh2_ok {m : Nat} {f g : Nat → Nat} (hM : Mt m E f E' g) {v : AV} {V : Value} (hv : ok2 m v = true) (r : Rv E (sh2 f v) V) : Rv E' (sh2 g v) V := by
  cases v
  case tu l =>
    simp only [sh2, Rv] at r ⊢
    obtain ⟨vs, e, r⟩ := r
    exact ⟨vs, e, sh1L_ok hM hv r⟩
  all_goals (simp only [ok2] at hv; simp only [sh2] at r ⊢; exact sh1_ok hM hv r)

/-! ### What is told of the new memory -/
structure ObjL where
  n : Nat
  esz : Esz
  w : Nat
  l : List AV

noncomputable def sameW (a b : AV) : Bool := match a, b with
  | .ag l, .ag l' => sameSL l l'
  | a, b => sameX a b
theorem sameW_ok {a b : AV} (h : sameW a b = true) : a = b := by
  unfold sameW at h
  split at h
  · rw [sameSL_ok h]
  · exact sameX_ok h
noncomputable def sameWL (a : List AV) : List AV → Bool := List.rec (motive := fun _ => List AV → Bool) (fun b => List.rec (motive := fun _ => Bool) true (fun _ _ _ => false) b) (fun v _ ih b => List.rec (motive := fun _ => Bool) false (fun u us _ => bc (sameW v u) (ih us) false) b) a
theorem sameWL_ok : ∀ {a b : List AV}, sameWL a b = true → a = b
  | [], [], _ => rfl
  | [], _ :: _, h => by cases h
  | _ :: _, [], h => by cases h
  | v :: a, u :: b, h => by
    have h : bc (sameW v u) (sameWL a b) false = true := h
    obtain ⟨h1, h2⟩ := bc_and h
    rw [sameW_ok h1, sameWL_ok h2]
noncomputable def sameT (a b : AV) : Bool := match a, b with
  | .tu l, .tu l' => sameWL l l'
  | a, b => sameW a b
theorem sameT_ok {a b : AV} (h : sameT a b = true) : a = b := by
  unfold sameT at h
  split at h
  · rw [sameWL_ok h]
  · exact sameW_ok h

noncomputable def sameO (f : Nat → Nat) (h : Heap) (id : Nat) (o : ObjL) : Bool := match T.get .gone h id with
  | .cells n e c => bc (Nat.beq n o.n) (bc (eszEq e o.esz) (bc (Nat.beq o.l.length n) (rdC c n 0 fun l => sameWL l (o.l.map (sh1 f))) false) false) false
  | _ => false
theorem sameO_ok {f : Nat → Nat} {id : Nat} {o : ObjL} (he : sameO f h id o = true) : ∃ c, T.get .gone h id = .cells o.n o.esz c ∧ o.l.length = o.n ∧ ∀ j, j < o.n → c.get j = nthR (o.l.map (sh1 f)) j := by
  unfold sameO at he
  split at he <;> try (cases he; done)
  rename_i n e c hc
  obtain ⟨h1, he1⟩ := bc_and he
  obtain ⟨h2, he2⟩ := bc_and he1
  obtain ⟨h3, he3⟩ := bc_and he2
  rw [rdC_ok] at he3
  have hl := sameWL_ok he3
  have h1 := Nat.eq_of_beq_eq_true h1
  have h3 := Nat.eq_of_beq_eq_true h3
  have h2 := eszEq_ok h2
  clear he he1 he2 he3
  subst h1 h2
  refine ⟨c, hc, h3, fun j hj => ?_⟩
  rw [← hl, nthR_eq]
  simp [List.getD_eq_getElem?_getD, hj]

/-- the places, one after the other: each its own -/
noncomputable def sameOs (m : Nat) (f : Nat → Nat) (h : Heap) (n0 : Nat) : List Nat → List ObjL → Bool
  | [], [] => true
  | id :: ids, o :: os => bc (Nat.ble n0 id) (bc (ids.all fun j => bc (Nat.beq id j) false true) (bc (o.l.all (ok1 m)) (bc (sameO f h id o) (sameOs m f h n0 ids os) false) false) false) false
  | _, _ => false

theorem sameOs_ok {m : Nat} {f : Nat → Nat} {n0 : Nat} : ∀ {ids : List Nat} {os : List ObjL}, sameOs m f h n0 ids os = true → ids.length = os.length ∧ ids.Nodup ∧
    ∀ (j id : Nat) (o : ObjL), ids[j]? = some id → os[j]? = some o → n0 ≤ id ∧ o.l.all (ok1 m) = true ∧ sameO f h id o = true
  | [], [], _ => ⟨rfl, .nil, fun j id o h => by simp at h⟩
  | [], _ :: _, he => by cases he
  | _ :: _, [], he => by cases he
  | id :: ids, o :: os, he => by
    obtain ⟨h1, he⟩ := bc_and (b := Nat.ble n0 id) he
    obtain ⟨h2, he⟩ := bc_and he
    obtain ⟨h3, he⟩ := bc_and he
    obtain ⟨h4, he⟩ := bc_and he
    obtain ⟨k1, k2, k3⟩ := sameOs_ok he
    refine ⟨by simp [k1], List.nodup_cons.2 ⟨fun hm => ?_, k2⟩, fun j jd p hj hp => ?_⟩
    · rw [List.all_eq_true] at h2
      have := h2 id hm
      rw [Nat.beq_refl] at this; cases this
    · cases j with
      | zero =>
        simp at hj hp
        subst hj hp
        exact ⟨Nat.le_of_ble_eq_true h1, h3, h4⟩
      | succ j => exact k3 j jd p (by simpa using hj) (by simpa using hp)

/-- new memory, and a value that speaks of it -/
def NewM (w w' : World) (lit : AV) (objs : List ObjL) (V : Value) : Prop := ∃ (E' : Env) (f : Nat → Nat), Rv E' (sh2 f lit) V ∧
  (∀ (j : Nat) (o : ObjL), objs[j]? = some o → ∃ L arr el, E' (f j) = some L ∧ w.heap.size ≤ L.blk ∧ w'.heap[L.blk]? = some (.cells arr el (0, 0)) ∧ L.base + o.n ≤ arr.size ∧ o.esz.ok L el arr.size o.n ∧ o.l.length = o.n ∧
    o.l.all (ok1 objs.length) = true ∧ ∀ i, i < o.n → Rv E' (nthR (o.l.map (sh1 f)) i) (arr.getD (L.base + i) undef)) ∧
  ∀ j j' L L', j < objs.length → j' < objs.length → E' (f j) = some L → E' (f j') = some L' → L.blk = L'.blk → j = j'

theorem closedM {P : Program} {call : CallF} (hc : CallOK P call) {gl : List (Nat × List AV)} {n0 : Nat} {g : FuncId} {args : List AV} {ARGS : Array Value} {lit : AV} {ids : List Nat} {objs : List ObjL} (hn : gl.all (fun p => Nat.ble (p.1 + 2) n0) = true) (h1 : Nat.ble 1 n0 = true) (hlit : ok2 objs.length lit = true)
    (ra : ∀ E, RvL E args ARGS.toList) (he : call g args (startH gl n0) n0 (fun v h _ => bc (sameT v (sh2 (fun j => ids.getD j 0) lit)) (sameOs objs.length (fun j => ids.getD j 0) h n0 ids objs) false) = true) (w : World) (hw : HoldsG w gl) :
    Calls P g ARGS w fun e w' => ∃ V, e = .returned V ∧ NewM w w' lit objs V ∧ RowKit.Below w.heap.size w w' := by
  have hr := startH_ok hn h1 hw
  refine (hc g args ARGS _ _ n0 w _ he (ra _) hr trivial).mono ?_
  rintro e w' (⟨V, rfl, v, h', nxt', E', rv, hr', gs, hk⟩ | ⟨V, rfl, v, h', nxt', E', rv, hr', gs, hk⟩)
  case inr =>
    obtain ⟨hk, _⟩ := bc_and hk
    have e := sameT_ok hk
    cases lit <;> simp [ok2, ok1, ok0] at hlit <;> simp [sh2, sh1, sh0] at e
  obtain ⟨hk1, hk2⟩ := bc_and hk
  have ev := sameT_ok hk1
  subst ev
  obtain ⟨k1, k2, k3⟩ := sameOs_ok hk2
  have fl : flr h' = n0 := by
    rw [gs.flr]; unfold flr; rw [startH_zero]
  have at_ : ∀ j : Nat, j < objs.length → ∃ (id : Nat) (o : ObjL), ids[j]? = some id ∧ objs[j]? = some o ∧ ids.getD j 0 = id := fun j hj => by
    have hj' : j < ids.length := by omega
    exact ⟨ids[j], objs[j], by simp [hj'], by simp [hj], by simp [List.getD_eq_getElem?_getD, hj']⟩
  refine ⟨V, rfl, ⟨E', fun j => ids.getD j 0, rv, fun j o hj => ?_, fun j j' L L' hj hj' hL hL' e => ?_⟩, below_of gs (startH_fp hr)⟩
  · have hlt : j < objs.length := (List.getElem?_eq_some_iff.1 hj).1
    obtain ⟨id, o', e1, e2, e3⟩ := at_ j hlt
    rw [hj] at e2; cases e2
    obtain ⟨m1, m2, m3⟩ := k3 j id o e1 hj
    obtain ⟨c, c1, c2, c3⟩ := sameO_ok m3
    have ho := hr'.obj id
    rw [c1] at ho
    obtain ⟨L, arr, el, a1, a2, a3, a4, a5⟩ := ho
    refine ⟨L, arr, el, by show E' (ids.getD j 0) = some L; rw [e3]; exact a1, ?_, a2, a3, a4, c2, m2, fun i hi => by rw [← c3 i hi]; exact a5 i hi⟩
    rcases Nat.lt_or_ge L.blk w.heap.size with hl | hl
    · exact absurd (gs.fpm L.blk hl ⟨id, L, by omega, by rw [c1]; rfl, a1, rfl⟩) (startH_fp hr _)
    · exact hl
  · obtain ⟨id, o, e1, e2, e3⟩ := at_ j hj
    obtain ⟨id', o', e1', e2', e3'⟩ := at_ j' hj'
    obtain ⟨_, _, m3⟩ := k3 j id o e1 e2
    obtain ⟨_, _, m3'⟩ := k3 j' id' o' e1' e2'
    obtain ⟨c, c1, _⟩ := sameO_ok m3
    obtain ⟨c', c1', _⟩ := sameO_ok m3'
    dsimp only at hL hL'
    rw [e3] at hL
    rw [e3'] at hL'
    have ei := hr'.inj id id' L L' (by rw [c1]; rfl) (by rw [c1']; rfl) hL hL' e
    subst ei
    have l1 : j < ids.length := (List.getElem?_eq_some_iff.1 e1).1
    exact (List.getElem?_inj l1 k2).1 (e1.trans e1'.symm)

/-! ### Taken up by a caller -/
noncomputable def adoptH (g : Nat → Nat) : List ObjL → Nat → Heap → Heap
  | [], _, h => h
  | o :: os, i, h => adoptH g os (i + 1) (T.set (.cells o.n o.esz (wrCs (o.l.map (sh1 g)) ⟨o.w, bigR⟩ 0)) h i)
noncomputable def adoptK (g : Nat → Nat) (os : List ObjL) : Nat → Heap → (Heap → Bool) → Bool :=
  List.rec (motive := fun _ => Nat → Heap → (Heap → Bool) → Bool) (fun _ h k => k h)
    (fun o _ ih i h k => wrC (o.l.map (sh1 g)) ⟨o.w, bigR⟩ 0 fun c => T.setK (.cells o.n o.esz c) h i fun h' => forceN (Nat.succ i) fun i' => ih i' h' k) os
theorem adoptK_eq (g : Nat → Nat) : ∀ (os : List ObjL) (i : Nat) (h : Heap) (k : Heap → Bool), adoptK g os i h k = k (adoptH g os i h)
  | [], _, _, _ => rfl
  | o :: os, i, h, k => by
    show wrC _ _ _ _ = _
    rw [wrC_eq, T.setK_eq, forceN_eq]
    exact adoptK_eq g os (i + 1) _ k

theorem adopt_get (g : Nat → Nat) : ∀ (os : List ObjL) (i : Nat) (h : Heap), (∀ x, x < i ∨ i + os.length ≤ x → T.get .gone (adoptH g os i h) x = T.get .gone h x) ∧
    ∀ (j : Nat) (o : ObjL), os[j]? = some o → T.get .gone (adoptH g os i h) (i + j) = .cells o.n o.esz (wrCs (o.l.map (sh1 g)) ⟨o.w, bigR⟩ 0) ∨ T.get .gone (adoptH g os i h) (i + j) = .gone
  | [], i, h => ⟨fun _ _ => rfl, fun j o hj => by simp at hj⟩
  | o :: os, i, h => by
    obtain ⟨r1, r2⟩ := adopt_get g os (i + 1) (T.set (.cells o.n o.esz (wrCs (o.l.map (sh1 g)) ⟨o.w, bigR⟩ 0)) h i)
    refine ⟨fun x hx => ?_, fun j p hj => ?_⟩
    · rw [List.length_cons] at hx
      show T.get .gone (adoptH g os (i + 1) _) x = _
      rw [r1 x (by omega), T.get_set_ne _ _ _ _ _ (by omega)]
    · cases j with
      | zero =>
        simp at hj; subst hj
        show T.get .gone (adoptH g os (i + 1) _) i = _ ∨ T.get .gone (adoptH g os (i + 1) _) i = _
        rw [r1 i (by omega)]
        exact T.get_set_eq _ _ _ _
      | succ j =>
        have := r2 j p (by simpa using hj)
        rw [show i + (j + 1) = i + 1 + j by omega]
        exact this

theorem RO.wide {E E' : Env} (hle : E.le E') {w : World} {i : Nat} {a : AO} (r : RO E w i a) : RO E' w i a := by
  cases a with
  | gone => trivial
  | floor => trivial
  | facts fs => exact fun p hp => den_mono hle _ _ (r p hp)
  | ali p off q cap => obtain ⟨L, M, c, h1, h2, h3, h4⟩ := r; exact ⟨L, M, c, hle _ _ h1, hle _ _ h2, den_mono hle _ _ h3, h4⟩
  | cells n e c => obtain ⟨M, ar, e', h1, h2, h3, h4, h5⟩ := r; exact ⟨M, ar, e', hle _ _ h1, h2, h3, h4, fun j hj => (h5 j hj).mono hle⟩
  | map es ck => obtain ⟨M, ms, h1, h2, h3⟩ := r; exact ⟨M, ms, hle _ _ h1, h2, Env.mono_map hle _ _ h3⟩
  | siter l n p => obtain ⟨M, h1, h2, h3⟩ := r; exact ⟨M, hle _ _ h1, h2, h3⟩
  | glob g n c => obtain ⟨M, ar, e', fr, h1, h2, h3, h4, h5, h6⟩ := r; exact ⟨M, ar, e', fr, hle _ _ h1, h2, h3, h4, fun j hj => (h5 j hj).mono hle, h6.wide hle⟩
  | rows el len => obtain ⟨M, ar, n, h1, h0, h2, h3, h4⟩ := r; exact ⟨M, ar, n, hle _ _ h1, h0, h2, den_mono hle _ _ h3, h4⟩
  | blob el sz S l len => obtain ⟨M, ar, n, h1, h0, h2, h3, h4, h5, c0, h6, h7, h8, h9⟩ := r; exact ⟨M, ar, n, hle _ _ h1, h0, h2, den_mono hle _ _ h3, h4, h5, c0, den_mono hle _ _ h6, h7, h8, fun j a hj => (h9 j a hj).mono hle⟩

/-- what is given, and what is answered: new memory -/
noncomputable def memC (ok : Heap → Bool → Bool) (args0 : List AV) (lit : AV) (objs : List ObjL) : Ct := fun args h nxt k => bc (sameL args args0) (ok h (adoptK (fun j => Nat.add nxt j) objs nxt h fun h' => forceN (Nat.add nxt objs.length) fun n' => k (sh2 (fun j => Nat.add nxt j) lit) h' n')) false

theorem memC_ok {P : Program} {g : FuncId} {ok : Heap → Bool → Bool} {args0 : List AV} {ARGS0 : Array Value} {lit : AV} {objs : List ObjL} {G : World → Prop} (hlit : ok2 objs.length lit = true)
    (hok : ∀ {E : Env} {h : Heap} {nxt : Nat} {w : World} {b : Bool}, ok h b = true → HR E h nxt w → b = true ∧ G w) (hex : exL args0 = true) (ra0 : ∀ E, RvL E args0 ARGS0.toList)
    (hc : ∀ w, G w → Calls P g ARGS0 w fun e w' => ∃ V, e = .returned V ∧ NewM w w' lit objs V ∧ RowKit.Below w.heap.size w w') : CtOK P g (memC ok args0 lit objs) := by
  refine CtOK.of ?_
  intro args ARGS E h nxt w k he ra hr
  have he0 : bc (sameL args args0) (ok h (adoptK (fun j => Nat.add nxt j) objs nxt h fun h' => forceN (Nat.add nxt objs.length) fun n' => k (sh2 (fun j => Nat.add nxt j) lit) h' n')) false = true := he
  obtain ⟨h1, he1⟩ := bc_and he0
  obtain rfl := sameL_ok h1
  obtain ⟨he2, hG⟩ := hok he1 hr
  rw [adoptK_eq, forceN_eq] at he2
  have : ARGS = ARGS0 := by apply Array.ext'; exact RvL.exact (Env.le_refl E) args _ _ hex (ra0 E) ra
  subst this
  refine (hc w hG).mono ?_
  rintro e w' ⟨V, rfl, ⟨E', f, rv, hobj, hinj⟩, hb⟩
  have hp := hr.pos
  have hfl := hr.flle
  generalize hm : objs.length = m at *
  generalize hH : adoptH (fun j => Nat.add nxt j) objs nxt h = H at *
  let E2 : Env := fun i => if nxt ≤ i ∧ i < nxt + m then E' (f (i - nxt)) else E i
  have out : ∀ i, ¬ (nxt ≤ i ∧ i < nxt + m) → E2 i = E i := fun i hi => if_neg hi
  have inn : ∀ i, nxt ≤ i ∧ i < nxt + m → E2 i = E' (f (i - nxt)) := fun i hi => if_pos hi
  have hle : E.le E2 := fun i L hi => by
    rw [out i (fun hh => by rw [hr.fresh i hh.1] at hi; cases hi)]; exact hi
  have hM : Mt m E' f E2 (fun j => Nat.add nxt j) := fun j L hj hL => by
    show E2 (nxt + j) = some L
    rw [inn (nxt + j) ⟨by omega, by omega⟩, Nat.add_sub_cancel_left]; exact hL
  obtain ⟨g1, g2⟩ := adopt_get (fun j => Nat.add nxt j) objs nxt h
  rw [hH, hm] at g1
  rw [hH] at g2
  have gout : ∀ i, ¬ (nxt ≤ i ∧ i < nxt + m) → T.get .gone H i = T.get .gone h i := fun i hi => g1 i (by omega)
  have obj : ∀ i : Nat, nxt ≤ i ∧ i < nxt + m → ∃ o : ObjL, objs[i - nxt]? = some o ∧ (T.get .gone H i = .cells o.n o.esz (wrCs (o.l.map (sh1 fun j => Nat.add nxt j)) ⟨o.w, bigR⟩ 0) ∨ T.get .gone H i = .gone) := fun i hi => by
    have hlt : i - nxt < objs.length := by omega
    have := g2 (i - nxt) objs[i - nxt] (by simp [hlt])
    rw [show nxt + (i - nxt) = i by omega] at this
    exact ⟨objs[i - nxt], by simp [hlt], this⟩
  have hflr : flr H = flr h := by
    unfold flr
    rw [gout 0 (by omega)]
  have hr' := hr.below hb
  have hr2 : HR E2 H (nxt + m) w' := by
    refine ⟨fun i => ?_, fun i j L M hi hj hL hLM hbk => ?_, fun i hi => ?_, fun i hi => ?_, fun i L hL => ?_, by omega, by rw [hflr]; omega, by rw [gout 0 (by omega)]; exact hr.zero⟩
    · by_cases hin : nxt ≤ i ∧ i < nxt + m
      · obtain ⟨o, ho, e | e⟩ := obj i hin
        · rw [e]
          obtain ⟨L, arr, el, a1, a2, a3, a4, a5, a6, a7, a8⟩ := hobj _ o ho
          refine ⟨L, arr, el, by rw [inn i hin]; exact a1, a3, a4, a5, fun j hj => ?_⟩
          have hjl : j < o.l.length := by omega
          rcases wrCs_in (l := o.l.map (sh1 fun j => Nat.add nxt j)) (c := ⟨o.w, bigR⟩) (off := 0) (i := j) (by simpa using hjl) with e2 | e2 <;> rw [Nat.zero_add] at e2 <;> rw [e2]
          · have h8 := a8 j hj
            have nth : ∀ F : AV → AV, nthR (o.l.map F) j = F o.l[j] := fun F => by
              rw [nthR_eq]; simp [List.getD_eq_getElem?_getD, hjl]
            rw [nth] at h8 ⊢
            exact sh1_ok hM (List.all_eq_true.1 a7 _ (List.getElem_mem hjl)) h8
          · simp [Rv]
        · rw [e]; trivial
      · rw [gout i hin]
        exact (hr'.obj i).wide hle
    · by_cases hin : nxt ≤ i ∧ i < nxt + m <;> by_cases hjn : nxt ≤ j ∧ j < nxt + m
      · rw [inn i hin] at hL
        rw [inn j hjn] at hLM
        have := hinj (i - nxt) (j - nxt) L M (by omega) (by omega) hL hLM hbk
        omega
      · obtain ⟨o, ho, _⟩ := obj i hin
        obtain ⟨L', arr, el, a1, a2, _⟩ := hobj _ o ho
        rw [inn i hin, a1] at hL; cases hL
        rw [out j hjn] at hLM
        have := hr.inw j M hLM
        omega
      · obtain ⟨o, ho, _⟩ := obj j hjn
        obtain ⟨L', arr, el, a1, a2, _⟩ := hobj _ o ho
        rw [inn j hjn, a1] at hLM; cases hLM
        rw [out i hin] at hL
        have := hr.inw i L hL
        omega
      · rw [gout i hin] at hi
        rw [gout j hjn] at hj
        rw [out i hin] at hL
        rw [out j hjn] at hLM
        exact hr.inj i j L M hi hj hL hLM hbk
    · rw [gout i (by omega)]; exact hr.lt i (by omega)
    · rw [out i (by omega)]; exact hr.fresh i (by omega)
    · by_cases hin : nxt ≤ i ∧ i < nxt + m
      · obtain ⟨o, ho, _⟩ := obj i hin
        obtain ⟨L', arr, el, a1, a2, a3, _⟩ := hobj _ o ho
        rw [inn i hin, a1] at hL; cases hL
        exact (Array.getElem?_eq_some_iff.1 a3).1
      · rw [out i hin] at hL
        exact hr'.inw i L hL
  refine ⟨_, rfl, _, _, _, E2, sh2_ok hM hlit rv, hr2, ⟨hle, hb.size, fun k hk _ => hb.block k hk, fun k hk ⟨i, L, q1, q2, q3, q4⟩ => ?_, hflr, fun i hi => gout i (by omega), hb.os, hb.output, hb.tape⟩, he2⟩
  by_cases hin : nxt ≤ i ∧ i < nxt + m
  · obtain ⟨o, ho, _⟩ := obj i hin
    obtain ⟨L', arr, el, a1, a2, _⟩ := hobj _ o ho
    rw [inn i hin, a1] at q3; cases q3
    omega
  · rw [gout i hin] at q2
    rw [out i hin] at q3
    exact ⟨i, L, by rw [← hflr]; exact q1, q2, q3, q4⟩
end
end Go.Proofs.YtbmekbpgoakkbaaGreatDoor.Vx
set_option linter.unusedVariables false
set_option linter.unusedSimpArgs false
set_option linter.constructorNameAsVariable false
set_option linter.unusedSectionVars false
namespace Go.Proofs.YtbmekbpgoakkbaaGreatDoor.Vx
open Go

/-- symbols: numbered from n0 on -/
noncomputable def symE0 (gl : List (Nat × List AV)) (n0 : Nat) (Ls : List Spot) : Env := fun i => if n0 ≤ i then Ls[i - n0]? else startE gl i

theorem symE0_ok {gl : List (Nat × List AV)} {n0 m : Nat} {Ls : List Spot} {w : World} (hn : gl.all (fun p => Nat.ble (p.1 + 2) n0) = true) (h1 : Nat.ble 1 n0 = true) (hw : HoldsG w gl) (hm : Ls.length = m) (hL : ∀ L ∈ Ls, L.blk = 0) (hs : 0 < w.heap.size) :
    HR (symE0 gl n0 Ls) (startH gl n0) (n0 + m) w := by
  have hr := startH_ok hn h1 hw
  have z := startH_zero gl n0
  have fl : flr (startH gl n0) = n0 := by unfold flr; rw [z]
  have hlt : ∀ i, (T.get .gone (startH gl n0) i).live = true → i < n0 := fun i hi => by
    rcases Nat.lt_or_ge i n0 with h | h
    · exact h
    · rw [hr.lt i h] at hi; cases hi
  have old : ∀ i, i < n0 → symE0 gl n0 Ls i = startE gl i := fun i hi => by unfold symE0; rw [if_neg (by omega)]
  have hle : (startE gl).le (symE0 gl n0 Ls) := fun i L hi => by
    rcases Nat.lt_or_ge i n0 with h | h
    · rw [old i h]; exact hi
    · rw [hr.fresh i h] at hi; cases hi
  refine ⟨fun i => (hr.obj i).wide hle, fun i j L M hi hj hLi hMj e => ?_, fun i hi => hr.lt i (by omega), fun i hi => ?_, fun i L hi => ?_, by have := hr.pos; omega, by rw [fl]; omega, hr.zero⟩
  · rw [old i (hlt i hi)] at hLi
    rw [old j (hlt j hj)] at hMj
    exact hr.inj i j L M hi hj hLi hMj e
  · unfold symE0
    rw [if_pos (by omega)]
    exact List.getElem?_eq_none (by omega)
  · rcases Nat.lt_or_ge i n0 with h | h
    · rw [old i h] at hi; exact hr.inw i L hi
    · unfold symE0 at hi
      rw [if_pos h] at hi
      rw [hL L (List.mem_of_getElem? hi)]; exact hs

/-- a run of what is given: what the evaluator sees at the end -/
theorem closedX {P : Program} {call : CallF} (hc : CallOK P call) {gl : List (Nat × List AV)} {n0 m nn : Nat} {Ls : List Spot} {fs : Facts} {g : FuncId} {args : List AV} {ARGS : Array Value} {fin : AV → Heap → Bool}
    (hn : gl.all (fun p => Nat.ble (p.1 + 2) n0) = true) (h1 : Nat.ble 1 n0 = true) (hm : Ls.length = m) (hnn : n0 + m = nn) (hL : ∀ L ∈ Ls, L.blk = 0) (hf : Holds (symE0 gl n0 Ls) fs) (ra : RvL (symE0 gl n0 Ls) args ARGS.toList)
    (hp : ∀ v h, fin (.pk v) h = false)
    (he : setF fs (startH gl n0) (fun h => call g args h nn (fun v h _ => fin v h)) = true) (w : World) (hs : 0 < w.heap.size) (hw : HoldsG w gl) :
    Calls P g ARGS w fun e w' => ∃ V v h' E' n', e = .returned V ∧ Rv E' v V ∧ HR E' h' n' w' ∧ (symE0 gl n0 Ls).le E' ∧ fin v h' = true ∧ RowKit.Below w.heap.size w w' := by
  subst hnn
  have hr0 := startH_ok hn h1 hw
  have hr := symE0_ok hn h1 hw hm hL hs
  obtain ⟨h1', he, hr1, fk⟩ := setF_ok he hr hf
  have z := startH_zero gl n0
  have fl : flr (startH gl n0) = n0 := by unfold flr; rw [z]
  have nofp : ∀ k, ¬ fp (symE0 gl n0 Ls) h1' k := by
    rintro k ⟨i, L, a1, a2, _, _⟩
    rw [fk.flr, fl] at a1
    rw [fk.live, hr0.lt i a1] at a2
    cases a2
  refine (hc g args ARGS _ _ _ w _ he ra hr1 trivial).mono ?_
  rintro e w' (⟨V, rfl, v, h', nxt', E', rv, hr', gs, hk⟩ | ⟨V, rfl, v, h', nxt', E', rv, _, gs, hk⟩)
  · exact ⟨V, v, h', E', nxt', rfl, rv, hr', gs.ext, hk, below_of gs nofp⟩
  · have hk : fin (.pk v) h' = true := hk
    rw [hp] at hk; cases hk

/-- the end of a law: true, on every way -/
noncomputable def finT (v : AV) (h : Heap) : Bool := condK v h (fun _ => true) (fun _ => false)
theorem closedXT {P : Program} {call : CallF} (hc : CallOK P call) {gl : List (Nat × List AV)} {n0 m nn : Nat} {Ls : List Spot} {fs : Facts} {g : FuncId} {args : List AV} {ARGS : Array Value}
    (hn : gl.all (fun p => Nat.ble (p.1 + 2) n0) = true) (h1 : Nat.ble 1 n0 = true) (hm : Ls.length = m) (hnn : n0 + m = nn) (hL : ∀ L ∈ Ls, L.blk = 0) (hf : Holds (symE0 gl n0 Ls) fs) (ra : RvL (symE0 gl n0 Ls) args ARGS.toList)
    (he : setF fs (startH gl n0) (fun h => call g args h nn (fun v h _ => finT v h)) = true) (w : World) (hs : 0 < w.heap.size) (hw : HoldsG w gl) :
    Calls P g ARGS w fun e w' => e = .returned (.bool true) ∧ RowKit.Below w.heap.size w w' := by
  refine (closedX hc hn h1 hm hnn hL hf ra (fun v h => rfl) he w hs hw).mono ?_
  rintro e w' ⟨V, v, h', E', n', rfl, rv, hr', hle, hk, hb⟩
  obtain ⟨x, _, rfl, _, _, hx⟩ := condK_ok hk rv hr'
  rcases hx with ⟨rfl, _⟩ | ⟨_, hx⟩
  · exact ⟨rfl, hb⟩
  · cases hx

/-! ### Symbols for values -/
theorem sym_float (x : Nat) : symV ⟨0, 0, x⟩ = .float .f64 x := rfl
theorem sym_str (s : ByteArray) : symV ⟨0, 3 * s.size + 2, pack s.data.toList⟩ = .string s := by
  have e1 : (3 * s.size + 2) % 3 = 2 := by omega
  have e2 : (3 * s.size + 2) / 3 = s.size := by omega
  unfold symV
  simp only [e1, e2]
  congr 1
  have : s.size = s.data.toList.length := Array.length_toList.symm
  rw [this]
  unfold str
  rw [unpack_pack]
theorem sym_int (k : IntKind) (n : Int) : symV ⟨0, 3 * kc k + 1, if 0 ≤ n then 2 * n.toNat else 2 * (-n - 1).toNat + 1⟩ = .int k n := by
  have e1 : (3 * kc k + 1) % 3 = 1 := by omega
  have e2 : (3 * kc k + 1) / 3 = kc k := by omega
  unfold symV
  simp only [e1, e2]
  have e3 : symK (kc k) = k := by cases k <;> rfl
  rw [e3]
  congr 1
  by_cases h : 0 ≤ n
  · simp only [h, if_true]
    have a1 : 2 * n.toNat % 2 = 0 := by omega
    have a2 : 2 * n.toNat / 2 = n.toNat := by omega
    rw [if_pos a1, a2]; omega
  · simp only [h, if_false]
    have a1 : ¬ (2 * (-n - 1).toNat + 1) % 2 = 0 := by omega
    have a2 : (2 * (-n - 1).toNat + 1) / 2 = (-n - 1).toNat := by omega
    rw [if_neg a1, a2]; omega
/-! ### Values that are given -/
noncomputable def spotOf (V : Value) : Spot := match V with
  | .float _ x => ⟨0, 0, x⟩
  | .string s => ⟨0, 3 * s.size + 2, pack s.data.toList⟩
  | .int k n => ⟨0, 3 * kc k + 1, if 0 ≤ n then 2 * n.toNat else 2 * (-n - 1).toNat + 1⟩
  | _ => ⟨0, 0, 0⟩
def symOK (V : Value) : Prop := (∃ x, V = .float .f64 x) ∨ (∃ s, V = .string s) ∨ ∃ k n, V = .int k n
theorem symV_spot {V : Value} (h : symOK V) : symV (spotOf V) = V := by
  rcases h with ⟨x, rfl⟩ | ⟨s, rfl⟩ | ⟨k, n, rfl⟩
  · exact sym_float x
  · exact sym_str s
  · exact sym_int k n
theorem spot_blk (V : Value) : (spotOf V).blk = 0 := by cases V <;> rfl
/-- the values' places -/
noncomputable abbrev symEV (gl : List (Nat × List AV)) (n0 : Nat) (Vs : List Value) : Env := symE0 gl n0 (Vs.map spotOf)
theorem den_sym {gl : List (Nat × List AV)} {n0 : Nat} {Vs : List Value} (j : Nat) {V : Value} (h : Vs[j]? = some V) (ok : symOK V) : den (symEV gl n0 Vs) (.sy (n0 + j)) = some V := by
  show (symE0 gl n0 (Vs.map spotOf) (n0 + j)).map symV = some V
  unfold symE0
  rw [if_pos (by omega), Nat.add_sub_cancel_left, List.getElem?_map, h]
  show some (symV (spotOf V)) = some V
  rw [symV_spot ok]
theorem rv_sym {gl : List (Nat × List AV)} {n0 : Nat} {Vs : List Value} {s : Srt} (j : Nat) {V : Value} (h : Vs[j]? = some V) (ok : symOK V) (hs : hasS s V) : Rv (symEV gl n0 Vs) (.x s (.sy (n0 + j))) V := by
  rw [Rv]; exact ⟨den_sym j h ok, hs⟩
theorem sok_f (x : Nat) : symOK (.float .f64 x) := .inl ⟨x, rfl⟩
theorem sok_s (s : ByteArray) : symOK (.string s) := .inr (.inl ⟨s, rfl⟩)
theorem sok_i (k : IntKind) (n : Int) : symOK (.int k n) := .inr (.inr ⟨k, n, rfl⟩)

/-- a law of what is given, on one way of it -/
theorem closedVal {P : Program} {call : CallF} (hc : CallOK P call) {Vs : List Value} {fs : Facts} {g : FuncId} {args : List AV} {ARGS : Array Value} {nn : Nat}
    (hnn : 1 + Vs.length = nn) (hf : Holds (symEV [] 1 Vs) fs) (ra : RvL (symEV [] 1 Vs) args ARGS.toList)
    (he : setF fs (startH [] 1) (fun h => call g args h nn (fun v h _ => finT v h)) = true) (w : World) (hs : 0 < w.heap.size) :
    Calls P g ARGS w fun e w' => e = .returned (.bool true) ∧ RowKit.Below w.heap.size w w' :=
  closedXT hc rfl rfl (List.length_map _) hnn (fun L hL => by obtain ⟨V, _, rfl⟩ := List.mem_map.1 hL; exact spot_blk V) hf ra he w hs (fun p hp => by cases hp)

/-- whole numbers in facts -/
theorem fact_eq {E : Env} {e : SE} {k : IntKind} {n c : Int} (h : den E e = some (.int k n)) : den E (.cmp .eql e (.li k c)) = some (.bool (decide (n = c))) := by
  simp only [den, h, cmpV, if_true, Option.map]
  show some (Value.bool (n == c)) = _
  congr 2
theorem fact_le {E : Env} {e : SE} {k : IntKind} {n c : Int} (h : den E e = some (.int k n)) : den E (.cmp .leq e (.li k c)) = some (.bool (decide (n ≤ c))) := by
  simp only [den, h, cmpV, if_true, Option.map]
  rfl
end Go.Proofs.YtbmekbpgoakkbaaGreatDoor.Vx
set_option linter.unusedVariables false
set_option linter.unusedSimpArgs false
set_option linter.constructorNameAsVariable false
set_option linter.unusedSectionVars false
namespace Go.Proofs.YtbmekbpgoakkbaaGreatDoor.Vx
open Go

theorem datum_self (d : Ieee.Datum) : d.order d = some .eq ∨ ∃ s m, d = .nan s m := by
  cases d with
  | nan s m => exact .inr ⟨s, m, rfl⟩
  | infinity s => left; cases s <;> rfl
  | number s m i =>
    left
    show some (compare (Ieee.signed s m (i - min i i).toNat) (Ieee.signed s m (i - min i i).toNat)) = some .eq
    congr 1
    show compareOfLessAndEq _ _ = .eq
    unfold compareOfLessAndEq
    rw [if_neg (Int.lt_irrefl _), if_pos rfl]
theorem order_self (x : Nat) : FloatKind.f64.format.order x x = some .eq ∨ isNaN0 x := by
  rcases datum_self (FloatKind.f64.format.read x) with h | ⟨s, m, h⟩
  · exact .inl h
  · exact .inr ⟨s, m, h⟩
theorem fact_feq {E : Env} {e : SE} {x c : Nat} (h : den E e = some (.float .f64 x)) : den E (.cmp .eql e (.lf c)) = some (.bool (FloatKind.f64.format.order x c == some .eq)) := by
  simp only [den, h, cmpV, Option.map, cmpF]
theorem fact_self {E : Env} {e : SE} {x : Nat} (h : den E e = some (.float .f64 x)) : den E (.cmp .eql e e) = some (.bool (FloatKind.f64.format.order x x == some .eq)) := by
  simp only [den, h, cmpV, Option.map, cmpF]
/-- is a float not a number, it is like none; else it is like itself -/
theorem float_two (x : Nat) : (FloatKind.f64.format.order x x == some .eq) = true ∨ ∀ c, (FloatKind.f64.format.order x x == some .eq) = false ∧ (FloatKind.f64.format.order x c == some .eq) = false := by
  rcases order_self x with h | h
  · left; rw [h]; rfl
  · right; intro c
    rw [order_nan0 (.inl h), order_nan0 (.inl h)]; exact ⟨rfl, rfl⟩

theorem heap_pos {P : Program} {w : World} (h : w.ShapedOpen P) {z : Array Value} {t : TypeId} (hg : 0 < P.globals.size) (hz : ((begin P (fun _ _ => 0) default).world.heap[0]?).bind Obj.row? = some (z, t)) : 0 < w.heap.size := by
  obtain ⟨cs, hc, _⟩ := h.1 0 z t hg hz
  exact (Array.getElem?_eq_some_iff.1 hc).1
theorem wf_u8 {n : Int} (h : (Lit.int .u8 n).wf = true) : IntKind.min .u8 ≤ n ∧ n ≤ IntKind.max .u8 := bounds_u8 h
theorem wf_i64 {n : Int} (h : (Lit.int .i64 n).wf = true) : IntKind.min .i64 ≤ n ∧ n ≤ IntKind.max .i64 := bounds_i64 h
theorem wf_f64 {x : Nat} (h : (Lit.float .f64 x).wf = true) : x < 18446744073709551616 := by simpa [Lit.wf] using h
theorem holds_nil {E : Env} : Holds E [] := fun _ h => by cases h
theorem holds_cons {E : Env} {p : SE × Bool} {fs : Facts} (h : den E p.1 = some (.bool p.2)) (k : Holds E fs) : Holds E (p :: fs) := fun q hq => by
  rcases List.mem_cons.1 hq with rfl | hq
  · exact h
  · exact k q hq
theorem rvl_nil {E : Env} : RvL E [] [] := by simp [RvL]
theorem rvl_cons {E : Env} {a : AV} {v : Value} {as : List AV} {vs : List Value} (h : Rv E a v) (k : RvL E as vs) : RvL E (a :: as) (v :: vs) := by
  rw [RvL]; exact ⟨v, vs, rfl, h, k⟩
theorem rv_ag {E : Env} {cs : List AV} {vs : List Value} (h : RvL E cs vs) : Rv E (.ag cs) (.agg vs.toArray) := by
  rw [Rv]; exact ⟨vs, rfl, h⟩
theorem rv_b {E : Env} (x : Bool) : Rv E (.b x) (.bool x) := by rw [Rv]
end Go.Proofs.YtbmekbpgoakkbaaGreatDoor.Vx
set_option linter.unusedVariables false
set_option linter.unusedSimpArgs false
set_option linter.constructorNameAsVariable false
set_option linter.unusedSectionVars false
namespace Go.Proofs.YtbmekbpgoakkbaaGreatDoor.Vx
open Go

abbrev Rows := List (Nat × ObjL)

noncomputable def sameP (h : Heap) (id : Nat) (o : ObjL) : Bool := match T.get .gone h id with
  | .cells n e c => bc (Nat.beq n o.n) (bc (eszEq e o.esz) (bc (Nat.beq o.l.length n) (rdC c n 0 fun l => sameWL l o.l) false) false) false
  | _ => false
theorem sameP_ok {h : Heap} {id : Nat} {o : ObjL} (he : sameP h id o = true) : ∃ c, T.get .gone h id = .cells o.n o.esz c ∧ o.l.length = o.n ∧ ∀ j, j < o.n → c.get j = nthR o.l j := by
  unfold sameP at he
  split at he <;> try (cases he; done)
  rename_i n e c hc
  obtain ⟨h1, he1⟩ := bc_and he
  obtain ⟨h2, he2⟩ := bc_and he1
  obtain ⟨h3, he3⟩ := bc_and he2
  rw [rdC_ok] at he3
  have hl := sameWL_ok he3
  have h1 := Nat.eq_of_beq_eq_true h1
  have h3 := Nat.eq_of_beq_eq_true h3
  have h2 := eszEq_ok h2
  clear he he1 he2 he3
  subst h1 h2
  refine ⟨c, hc, h3, fun j hj => ?_⟩
  rw [← hl, nthR_eq]
  simp [List.getD_eq_getElem?_getD, hj]

noncomputable def samePs (h : Heap) (R : Rows) : Bool := List.rec (motive := fun _ => Bool) true (fun p _ ih => bc (Nat.ble 1 p.1) (bc (sameP h p.1 p.2) ih false) false) R
theorem samePs_ok {h : Heap} : ∀ {R : Rows}, samePs h R = true → ∀ p ∈ R, 1 ≤ p.1 ∧ sameP h p.1 p.2 = true
  | [], _, p, hp => by cases hp
  | q :: R, he, p, hp => by
    have he : bc (Nat.ble 1 q.1) (bc (sameP h q.1 q.2) (samePs h R) false) false = true := he
    obtain ⟨h1, he⟩ := bc_and he
    obtain ⟨h2, he⟩ := bc_and he
    rcases List.mem_cons.1 hp with rfl | hp
    · exact ⟨Nat.le_of_ble_eq_true h1, h2⟩
    · exact samePs_ok he p hp

/-- memory by its rows -/
noncomputable def rowsH (R : Rows) (h : Heap) : Heap := List.rec (motive := fun _ => Heap → Heap) (fun h => h) (fun p _ ih h => ih (T.set (.cells p.2.n p.2.esz (wrCs p.2.l ⟨p.2.w, bigR⟩ 0)) h p.1)) R h
noncomputable def rowsK (R : Rows) : Heap → (Heap → Bool) → Bool := List.rec (motive := fun _ => Heap → (Heap → Bool) → Bool) (fun h k => k h)
  (fun p _ ih h k => wrC p.2.l ⟨p.2.w, bigR⟩ 0 fun c => T.setK (.cells p.2.n p.2.esz c) h p.1 fun h' => ih h' k) R
theorem rowsK_eq : ∀ (R : Rows) (h : Heap) (k : Heap → Bool), rowsK R h k = k (rowsH R h)
  | [], _, _ => rfl
  | p :: R, h, k => by
    show wrC _ _ _ _ = _
    rw [wrC_eq, T.setK_eq]
    exact rowsK_eq R _ k
theorem rowsH_get : ∀ (R : Rows) (h : Heap) (i : Nat), T.get .gone (rowsH R h) i = T.get .gone h i ∨ T.get .gone (rowsH R h) i = .gone ∨ ∃ o, (i, o) ∈ R ∧ T.get .gone (rowsH R h) i = .cells o.n o.esz (wrCs o.l ⟨o.w, bigR⟩ 0)
  | [], _, _ => .inl rfl
  | p :: R, h, i => by
    rcases rowsH_get R (T.set (.cells p.2.n p.2.esz (wrCs p.2.l ⟨p.2.w, bigR⟩ 0)) h p.1) i with e | e | ⟨o, ho, e⟩
    · by_cases hi : i = p.1
      · subst hi
        rcases T.get_set_eq .gone (.cells p.2.n p.2.esz (wrCs p.2.l ⟨p.2.w, bigR⟩ 0)) h p.1 with e2 | e2
        · exact .inr (.inr ⟨p.2, List.mem_cons_self, e.trans e2⟩)
        · exact .inr (.inl (e.trans e2))
      · rw [T.get_set_ne _ _ _ _ _ hi] at e
        exact .inl e
    · exact .inr (.inl e)
    · exact .inr (.inr ⟨o, List.mem_cons_of_mem _ ho, e⟩)

theorem ro_row {E : Env} {w : World} {i : Nat} {o : ObjL} {c : Cs} (hl : o.l.length = o.n) (hc : ∀ j, j < o.n → c.get j = nthR o.l j) (r : RO E w i (.cells o.n o.esz c)) : RO E w i (.cells o.n o.esz (wrCs o.l ⟨o.w, bigR⟩ 0)) := by
  obtain ⟨L, arr, el, a1, a2, a3, a4, a5⟩ := r
  refine ⟨L, arr, el, a1, a2, a3, a4, fun j hj => ?_⟩
  rcases wrCs_in (l := o.l) (c := ⟨o.w, bigR⟩) (off := 0) (i := j) (by omega) with e2 | e2 <;> rw [Nat.zero_add] at e2 <;> rw [e2]
  · have h8 := a5 j hj
    rw [hc j hj] at h8
    exact h8
  · simp [Rv]

/-- what is known is less -/
theorem HR.cut {E : Env} {h h' : Heap} {nxt n' : Nat} {w : World} (hr : HR E h nxt w) (hn : nxt ≤ n') (hf : flr h' ≤ n')
    (hs : ∀ i, RO E w i (T.get .gone h' i) ∧ ((T.get .gone h' i).live = true → (T.get .gone h i).live = true)) : HR E h' n' w := by
  refine ⟨fun i => (hs i).1, fun i j L M hi hj => hr.inj i j L M ((hs i).2 hi) ((hs j).2 hj), fun i hi => ?_, fun i hi => hr.fresh i (by omega), hr.inw, by have := hr.pos; omega, hf, ?_⟩
  · cases hl : (T.get .gone h' i).live with
    | false => rfl
    | true => have := (hs i).2 hl; rw [hr.lt i (by omega)] at this; cases this
  · cases hl : (T.get .gone h' 0).live with
    | false => rfl
    | true => have := (hs 0).2 hl; rw [hr.zero] at this; cases this

/-- nothing but the floor, and what is known of symbols -/
noncomputable def baseH (a : AO) : Heap := T.set (.floor 1) (T.set a (T.full .gone 20) fplace) 0
theorem base_get (a : AO) (i : Nat) : T.get .gone (baseH a) i = .gone ∨ (i = 0 ∧ T.get .gone (baseH a) i = .floor 1) ∨ (i = fplace ∧ T.get .gone (baseH a) i = a) := by
  unfold baseH
  by_cases h0 : i = 0
  · subst h0
    rcases T.get_set_eq AO.gone (.floor 1) (T.set a (T.full .gone 20) fplace) 0 with e | e
    · exact .inr (.inl ⟨rfl, e⟩)
    · exact .inl e
  · rw [T.get_set_ne _ _ _ _ _ h0]
    by_cases hi : i = fplace
    · subst hi
      rcases T.get_set_eq AO.gone a (T.full .gone 20) fplace with e | e
      · exact .inr (.inr ⟨rfl, e⟩)
      · exact .inl e
    · left
      rw [T.get_set_ne _ _ _ _ _ hi, T.get_full]

/-- memory cut down to rows: each place tells nothing, or what it told -/
theorem cut_at {E : Env} {h : Heap} {w : World} {nxt : Nat} {R : Rows} {a : AO} (hr : HR E h nxt w) (hR : samePs h R = true) (ha : RO E w fplace a ∧ a.live = false) (i : Nat) :
    RO E w i (T.get .gone (rowsH R (baseH a)) i) ∧ ((T.get .gone (rowsH R (baseH a)) i).live = true → (T.get .gone h i).live = true) := by
  rcases rowsH_get R (baseH a) i with e | e | ⟨o, ho, e⟩
  · rcases base_get a i with g | ⟨_, g⟩ | ⟨rfl, g⟩
    · rw [e, g]; exact ⟨trivial, fun h => by cases h⟩
    · rw [e, g]; exact ⟨trivial, fun h => by cases h⟩
    · rw [e, g]; exact ⟨ha.1, fun h => by rw [ha.2] at h; cases h⟩
  · rw [e]; exact ⟨trivial, fun h => by cases h⟩
  · obtain ⟨_, hp⟩ := samePs_ok hR _ ho
    obtain ⟨c, c1, c2, c3⟩ := sameP_ok hp
    have := hr.obj i
    rw [e]
    dsimp only at c1
    rw [c1] at this
    exact ⟨ro_row c2 c3 this, fun _ => by rw [c1]; rfl⟩

theorem flr_one {h : Heap} (e : flr h = 1) : T.get .gone h 0 = .floor 1 := by
  unfold flr at e
  split at e
  · rename_i n hn; rw [hn, e]
  · cases e

theorem rows_flr (R : Rows) (a : AO) : flr (rowsH R (baseH a)) ≤ 1 := by
  unfold flr
  rcases rowsH_get R (baseH a) 0 with e | e | ⟨o, ho, e⟩
  · rcases base_get a 0 with g | ⟨_, g⟩ | ⟨k, g⟩
    · rw [e, g]; exact Nat.zero_le _
    · rw [e, g]; exact Nat.le_refl _
    · exact absurd k (by unfold fplace; omega)
  · rw [e]; exact Nat.zero_le _
  · rw [e]; exact Nat.zero_le _

noncomputable def factsAt (h : Heap) : AO := match T.get .gone h fplace with
  | .facts fs => .facts fs
  | _ => .gone
theorem factsAt_ok {E : Env} {h : Heap} {nxt : Nat} {w : World} (hr : HR E h nxt w) {E' : Env} (hle : E.le E') (w' : World) : RO E' w' fplace (factsAt h) ∧ (factsAt h).live = false := by
  have := hr.obj fplace
  unfold factsAt
  split
  · rename_i fs hf
    rw [hf] at this
    exact ⟨fun p hp => den_mono hle _ _ (this p hp), rfl⟩
  · exact ⟨trivial, rfl⟩

noncomputable def cutC (args0 : List AV) (N : Nat) (R : Rows) (v' : AV) (R' : Rows) (N' : Nat) : Ct := fun args h nxt k =>
  bc (sameWL args args0) (bc (Nat.beq nxt N) (bc (Nat.beq (flr h) 1) (bc (samePs h R)
    (rowsK R' (baseH (factsAt h)) fun h3 => bc (Nat.beq (flr h3) 1) (k v' h3 N') false) false) false) false) false

/-- the run that shows it -/
noncomputable def cutRun (call : CallF) (g : FuncId) (args0 : List AV) (N : Nat) (R : Rows) (v' : AV) (R' : Rows) (N' : Nat) : Bool :=
  rowsK R (baseH .gone) fun h0 => bc (Nat.beq (flr h0) 1) (call g args0 h0 N fun v h n => bc (sameT v v') (bc (Nat.ble n N') (samePs h R') false) false) false

theorem cutC_ok {P : Program} {call : CallF} (hc : CallOK P call) {g : FuncId} {args0 : List AV} {N N' : Nat} {R R' : Rows} {v' : AV} (hv : ∀ u, v' ≠ .pk u)
    (he : cutRun call g args0 N R v' R' N' = true) : CtOK P g (cutC args0 N R v' R' N') := by
  refine CtOK.of ?_
  intro args ARGS E h nxt w k hk ra hr
  unfold cutRun at he
  rw [rowsK_eq] at he
  obtain ⟨f0, he⟩ := bc_and he
  have f0 := Nat.eq_of_beq_eq_true f0
  have hk : bc (sameWL args args0) (bc (Nat.beq nxt N) (bc (Nat.beq (flr h) 1) (bc (samePs h R)
    (rowsK R' (baseH (factsAt h)) fun h3 => bc (Nat.beq (flr h3) 1) (k v' h3 N') false) false) false) false) false = true := hk
  obtain ⟨k1, hk⟩ := bc_and hk
  obtain ⟨k2, hk⟩ := bc_and hk
  obtain ⟨k3, hk⟩ := bc_and hk
  obtain ⟨k4, hk⟩ := bc_and hk
  rw [rowsK_eq] at hk
  obtain ⟨f3, hfin⟩ := bc_and hk
  have f3 := Nat.eq_of_beq_eq_true f3
  have k3 := Nat.eq_of_beq_eq_true k3
  obtain rfl := sameWL_ok k1
  obtain rfl := Nat.eq_of_beq_eq_true k2
  have g0 := cut_at (R := R) (a := .gone) hr k4 ⟨trivial, rfl⟩
  have hr0 : HR E (rowsH R (baseH .gone)) nxt w := hr.cut (Nat.le_refl _) (by rw [f0]; exact hr.pos) g0
  have sub : ∀ j, fp E (rowsH R (baseH .gone)) j → fp E h j := fun j ⟨i, L, a1, a2, a3, a4⟩ => ⟨i, L, by rw [k3]; rw [f0] at a1; exact a1, (g0 i).2 a2, a3, a4⟩
  refine (hc g args ARGS E _ nxt w _ he ra hr0 trivial).mono ?_
  rintro e w' (⟨V, rfl, v, h', n', E', rv, hr', gs, hh⟩ | ⟨V, rfl, v, h', n', E', rv, hr', gs, hh⟩)
  case inr =>
    obtain ⟨hh, _⟩ := bc_and hh
    exact absurd (sameT_ok hh).symm (hv v)
  obtain ⟨h1, hh⟩ := bc_and hh
  obtain ⟨h2, h3⟩ := bc_and hh
  obtain rfl := sameT_ok h1
  have h2 := Nat.le_of_ble_eq_true h2
  have ge := cut_at (R := R') (a := factsAt h) hr' h3 (factsAt_ok hr gs.ext w')
  have hr2 : HR E' (rowsH R' (baseH (factsAt h))) N' w' := hr'.cut h2 (by rw [f3]; have := hr'.pos; omega) ge
  refine ⟨V, rfl, _, _, _, E', rv, hr2, ⟨gs.ext, gs.size, fun j hj hn => gs.fr j hj fun hf => hn (sub j hf), fun j hj ⟨i, L, a1, a2, a3, a4⟩ => sub j (gs.fpm j hj ⟨i, L, ?_, (ge i).2 a2, a3, a4⟩), by rw [f3, k3], fun i hi => ?_, gs.os, gs.output, gs.tape⟩, hfin⟩
  · rw [gs.flr, f0]; rw [f3] at a1; exact a1
  · rw [k3] at hi
    obtain rfl : i = 0 := by omega
    rw [flr_one f3, flr_one k3]

/-- the function's own code, where it doesn't panic -/
noncomputable def noPk (v : AV) (b : Bool) : Bool := match v with
  | .pk _ => false
  | _ => b
noncomputable def runC (call : CallF) (g : FuncId) : Ct := fun args h nxt k => call g args h nxt fun v h n => noPk v (k v h n)
theorem runC_ok [JC] {P : Program} {call : CallF} (hc : CallOK P call) (g : FuncId) : CtOK P g (runC call g) := by
  intro args ARGS E h nxt w k he ra hr hj
  refine (hc g args ARGS E h nxt w _ he ra hr hj).mono ?_
  rintro e w' (⟨V, rfl, v, h', n', E', rv, hr', gs, hh⟩ | ⟨V, rfl, v, h', n', E', rv, hr', gs, hh⟩)
  · refine .inl ⟨V, rfl, v, h', n', E', rv, hr', gs, ?_⟩
    have hh : noPk v (k v h' n') = true := hh
    cases v <;> first | exact hh | (cases hh; done)
  · cases hh
end Go.Proofs.YtbmekbpgoakkbaaGreatDoor.Vx
set_option linter.unusedVariables false
set_option linter.unusedSimpArgs false
set_option linter.constructorNameAsVariable false
set_option linter.unusedSectionVars false
namespace Go.Proofs.YtbmekbpgoakkbaaGreatDoor.Vx
open Go

/-- is there a symbol in it? -/
noncomputable def hasSy (e : SE) : Bool := SE.rec (motive := fun _ => Bool) (fun _ => true) (fun _ => false) (fun _ _ => false) (fun _ => false) (fun _ _ => false)
  (fun _ ih => ih) (fun _ ih => ih) (fun _ _ ih => ih) (fun _ _ ih => ih) (fun _ _ ih => ih) (fun _ _ _ a b => bc a true b) (fun _ _ _ a b => bc a true b) (fun _ _ a b => bc a true b) e
theorem hasSy_ok {E : Env} : ∀ {e : SE} {V : Value}, hasSy e = true → den E e = some V → ∃ n L, E n = some L := by
  have two : ∀ {a b : SE} {U W : Value}, (∀ {V : Value}, hasSy a = true → den E a = some V → ∃ n L, E n = some L) → (∀ {V : Value}, hasSy b = true → den E b = some V → ∃ n L, E n = some L) →
      den E a = some U → den E b = some W → bc (hasSy a) true (hasSy b) = true → ∃ n L, E n = some L := by
    intro a b U W iha ihb ha hb h
    rcases bc_or h with ⟨h, _⟩ | ⟨_, h⟩
    · exact iha h ha
    · exact ihb h hb
  intro e
  induction e with
  | sy n =>
    intro V _ hV
    simp only [den] at hV
    cases hn : E n with
    | none => rw [hn] at hV; cases hV
    | some L => exact ⟨n, L, hn⟩
  | lb | li | lf | ls => intro V h; cases h
  | len e ih | not e ih | conv k e ih | rem m e ih | fn c e ih =>
    intro V h hV
    simp only [den] at hV
    cases he : den E e with
    | none => rw [he] at hV; cases hV
    | some W => exact ih h he
  | cmp op a b iha ihb | and a b iha ihb | fn2 c a b iha ihb =>
    intro V h hV
    simp only [den] at hV
    cases ha : den E a with
    | none => rw [ha] at hV; cases hV
    | some U =>
      cases hb : den E b with
      | none => rw [ha, hb] at hV; cases U <;> cases hV
      | some W => exact two iha ihb ha hb h
theorem HR.size_pos {E : Env} {h : Heap} {nxt : Nat} {w : World} (hr : HR E h nxt w) {e : SE} {V : Value} (hs : hasSy e = true) (hd : den E e = some V) : 0 < w.heap.size := by
  obtain ⟨n, L, hn⟩ := hasSy_ok hs hd
  have := hr.inw n L hn
  omega

/-- a contract: the answer is an expression over what is given, and nothing that was there turns -/
theorem ctExpr [JC] {P : Program} {g : FuncId} {C : Ct} (H : ∀ (args : List AV) (ARGS : Array Value) (E : Env) (h : Heap) (nxt : Nat) (w : World) (k : K), C args h nxt k = true → RvL E args ARGS.toList → HR E h nxt w →
    ∃ v h1 U, k v h1 nxt = true ∧ Rv E v U ∧ HR E h1 nxt w ∧ Fk h h1 ∧ Calls P g ARGS w fun e w' => e = .returned U ∧ RowKit.Below w.heap.size w w') : CtOK P g C := by
  refine CtOK.of ?_
  intro args ARGS E h nxt w k he ra hr
  obtain ⟨v, h1, U, hk, rv, hr1, fk, hc⟩ := H args ARGS E h nxt w k he ra hr
  refine hc.mono ?_
  rintro e w' ⟨rfl, hb⟩
  exact ⟨U, rfl, v, h1, nxt, E, rv, hr1.below hb, fk.goes.trans (Goes.below hb), hk⟩

/-- of one: a function by its number -/
noncomputable def srtE (a b : Srt) : Bool := match a, b with
  | .b, .b => true
  | .i k, .i k' => Nat.beq (kc k) (kc k')
  | .f, .f => true
  | .s, .s => true
  | _, _ => false
theorem srtE_ok {a b : Srt} (h : srtE a b = true) : a = b := by
  cases a <;> cases b <;> first | rfl | (cases h; done) | (rw [kc_inj h])
noncomputable def symC1 (s0 s1 : Srt) (c : Nat) : Ct := fun args h nxt k => match args with
  | [.x s e] => bc (srtE s s0) (bc (hasSy e) (k (.x s1 (.fn c e)) h nxt) false) false
  | _ => false
theorem symC1_ok [JC] {P : Program} {g : FuncId} {s0 s1 : Srt} {c : Nat} (H : ∀ (V : Value) (w : World), hasS s0 V → 0 < w.heap.size → ∃ U, apf c V = some U ∧ hasS s1 U ∧ Calls P g #[V] w fun e w' => e = .returned U ∧ RowKit.Below w.heap.size w w') : CtOK P g (symC1 s0 s1 c) := by
  apply ctExpr
  intro args ARGS E h nxt w k he ra hr
  unfold symC1 at he
  split at he <;> try (cases he; done)
  rename_i s e
  obtain ⟨h1, he1⟩ := bc_and he
  obtain ⟨h2, he2⟩ := bc_and he1
  clear he he1
  obtain rfl := srtE_ok h1
  obtain ⟨V, hA, rx⟩ := ra.one
  have hA : ARGS = #[V] := by apply Array.ext'; simpa using hA
  subst hA
  rw [Rv] at rx
  obtain ⟨U, hU, hs, hc⟩ := H V w rx.2 (hr.size_pos h2 rx.1)
  refine ⟨_, h, U, he2, ?_, hr, Fk.refl h, hc⟩
  rw [Rv]
  exact ⟨by simp only [den, rx.1, hU], hs⟩

/-! ### A run's answer -/
noncomputable def finS (spec : SE) (v : AV) (h : Heap) : Bool := condK v h (fun h => d3 (decX (factsOf h) spec) false true false) (fun h => d3 (decX (factsOf h) spec) false false true)
theorem exprRun {P : Program} {call : CallF} (hc : CallOK P call) {Vs : List Value} {fs : Facts} {g : FuncId} {args : List AV} {ARGS : Array Value} {nn : Nat} {spec : SE} {b : Bool}
    (hnn : 1 + Vs.length = nn) (hf : Holds (symEV [] 1 Vs) fs) (ra : RvL (symEV [] 1 Vs) args ARGS.toList) (hd : den (symEV [] 1 Vs) spec = some (.bool b))
    (he : setF fs (startH [] 1) (fun h => call g args h nn (fun v h _ => finS spec v h)) = true) (w : World) (hs : 0 < w.heap.size) :
    Calls P g ARGS w fun e w' => e = .returned (.bool b) ∧ RowKit.Below w.heap.size w w' := by
  refine (closedX hc rfl rfl (List.length_map _) hnn (fun L hL => by obtain ⟨V, _, rfl⟩ := List.mem_map.1 hL; exact spot_blk V) hf ra (fun v h => rfl) he w hs (fun p hp => by cases hp)).mono ?_
  rintro e w' ⟨V, v, h', E', n', rfl, rv, hr', hle, hk, hb⟩
  obtain ⟨x, h1, rfl, hr1, _, hx⟩ := condK_ok hk rv hr'
  have hd' := den_mono hle _ _ hd
  have hdx := decX_ok (factsOf_ok hr1) hd'
  refine ⟨?_, hb⟩
  congr 2
  rcases hx with ⟨rfl, hx⟩ | ⟨rfl, hx⟩
  · match hdd : decX (factsOf h1) spec with
    | 0 => rw [hdd] at hx; cases hx
    | 1 => exact (hdx.1 hdd).symm
    | n + 2 => rw [hdd] at hx; cases hx
  · match hdd : decX (factsOf h1) spec with
    | 0 => rw [hdd] at hx; cases hx
    | 1 => rw [hdd] at hx; cases hx
    | n + 2 => exact (hdx.2 (by omega)).symm

/-- a whole number's answers (of a kind), as a literal -/
theorem closedLit {P : Program} {call : CallF} (hc : CallOK P call) {g : FuncId} {args : List AV} {ARGS : Array Value} {b : Bool} (ra : RvL (symEV [] 1 []) args ARGS.toList)
    (he : setF [] (startH [] 1) (fun h => call g args h 1 (fun v h _ => finS (.lb b) v h)) = true) (w : World) (hs : 0 < w.heap.size) :
    Calls P g ARGS w fun e w' => e = .returned (.bool b) ∧ RowKit.Below w.heap.size w w' :=
  exprRun hc (Vs := []) (nn := 1) (b := b) rfl (fun p hp => by cases hp) ra rfl he w hs

noncomputable def seOr (a b : SE) : SE := .not (.and (.not a) (.not b))
theorem den_or {E : Env} {a b : SE} {x y : Bool} (ha : den E a = some (.bool x)) (hb : den E b = some (.bool y)) : den E (seOr a b) = some (.bool (x || y)) := by
  unfold seOr; simp only [den, ha, hb]; cases x <;> cases y <;> rfl
theorem den_and {E : Env} {a b : SE} {x y : Bool} (ha : den E a = some (.bool x)) (hb : den E b = some (.bool y)) : den E (.and a b) = some (.bool (x && y)) := by simp only [den, ha, hb]

/-! ### The two noughts -/
theorem zero_word {x : Nat} (hx : x < 18446744073709551616) (h : feq x 0 = true) : x = 0 ∨ x = 9223372036854775808 := by
  unfold feq Ieee.Format.order at h
  have e2 : FloatKind.f64.format.read 0 = .number false 0 (-1074) := by kernel_rfl
  rw [e2] at h
  have hb : FloatKind.f64.format.binade = 2 ^ 52 := rfl
  have key : x % 2 ^ 63 = 0 := by
    cases hd : FloatKind.f64.format.read x with
    | nan s t => rw [hd] at h; cases h
    | infinity s => rw [hd] at h; cases s <;> cases h
    | number s m i =>
      rw [hd] at h
      have h : (some (compare (Ieee.signed s m (i - min i (-1074)).toNat) (Ieee.signed false 0 (-1074 - min i (-1074)).toNat)) == some Ordering.eq) = true := h
      have h : compare (Ieee.signed s m (i - min i (-1074)).toNat) (Ieee.signed false 0 (-1074 - min i (-1074)).toNat) = .eq := by simpa using h
      rw [icmp_eq] at h
      generalize (i - min i (-1074)).toNat = u at h
      generalize (-1074 - min i (-1074)).toNat = v at h
      have e0 : Ieee.signed false 0 v = 0 := by unfold Ieee.signed; simp
      rw [e0] at h
      have hm : m = 0 := by
        unfold Ieee.signed at h
        have h3 : m <<< u = 0 := by
          cases s
          · rw [if_neg (by simp)] at h; exact Int.natCast_eq_zero.1 h
          · rw [if_pos rfl] at h
            exact Int.natCast_eq_zero.1 (by omega)
        rw [Nat.shiftLeft_eq] at h3
        rcases Nat.mul_eq_zero.1 h3 with h3 | h3
        · exact h3
        · exact absurd h3 (Nat.ne_of_gt (Nat.two_pow_pos _))
      subst hm
      unfold Ieee.Format.read at hd
      rw [fsw, hb] at hd
      dsimp only at hd
      split at hd
      · injection hd
      · split at hd
        · injection hd with _ h4 _
          have : 0 < 2 ^ 52 := by decide
          omega
        · split at hd <;> cases hd
  omega
end Go.Proofs.YtbmekbpgoakkbaaGreatDoor.Vx
set_option linter.unusedVariables false
set_option linter.unusedSimpArgs false
set_option linter.constructorNameAsVariable false
set_option linter.unusedSectionVars false
namespace Go.Proofs.YtbmekbpgoakkbaaGreatDoor.Vx
open Go Go.RowKit Go.ChangeShapes Go.WideShapes Go.ChangeAt Go.Joins

/-- a cell of its kind -/
def leafOk (d : TypeDesc) (v : Value) : Prop := match d with
  | .bool => ∃ b, v = .bool b
  | .int k => ∃ n, v = .int k n ∧ (Lit.int k n).wf = true
  | .float .f64 => ∃ x, v = .float .f64 x ∧ (Lit.float .f64 x).wf = true
  | .string => ∃ s : ByteArray, v = .string s ∧ s.size ≤ maxLen
  | _ => False
def isLeaf (d : TypeDesc) : Bool := match d with
  | .bool => true
  | .int _ => true
  | .float .f64 => true
  | .string => true
  | _ => false
def All2 {α β : Type} (R : α → β → Prop) : List α → List β → Prop
  | [], [] => True
  | a :: as, b :: bs => R a b ∧ All2 R as bs
  | _, _ => False
theorem All2.length {α β : Type} {R : α → β → Prop} : ∀ {as : List α} {bs : List β}, All2 R as bs → as.length = bs.length
  | [], [], _ => rfl
  | _ :: _, _ :: _, h => by simp [h.2.length]
  | [], _ :: _, h => h.elim
  | _ :: _, [], h => h.elim
theorem All2.append {α β : Type} {R : α → β → Prop} : ∀ {as : List α} {bs : List β} {cs : List α} {ds : List β}, All2 R as bs → All2 R cs ds → All2 R (as ++ cs) (bs ++ ds)
  | [], [], _, _, _, k => k
  | _ :: _, _ :: _, _, _, h, k => ⟨h.1, h.2.append k⟩
  | [], _ :: _, _, _, h, _ => h.elim
  | _ :: _, [], _, _, h, _ => h.elim

/-- a type's cells, where each is of a plain kind -/
def flatF (P : Program) (go : TypeId → Option (List TypeDesc)) : List Field → Nat → Nat → Option (List TypeDesc)
  | [], off, n => if off = n then some [] else none
  | f :: fs, off, n => if f.offset = off then (match go f.type with
    | some l => if l.length = P.cellsOf f.type then (match flatF P go fs (off + P.cellsOf f.type) n with
      | some r => some (l ++ r)
      | none => none) else none
    | none => none) else none
def flatT (P : Program) : Nat → TypeId → Option (List TypeDesc)
  | 0, _ => none
  | d + 1, t => match P.underlying t with
    | some (.struct fs) => flatF P (flatT P d) fs.toList 0 (P.cellsOf t)
    | some d => if isLeaf d then some [d] else none
    | none => none

section
variable {H : Type} {enc : TypeId × Value → H} {P : Program} {w : World} {base : Nat} {spare : Nat → Bool} {held : Bool}
theorem trod_float64 {t : TypeId} {k : FloatKind} {fuel : Nat} {cs : List Value} {x : DataW H × List MemPlace} (ht : P.underlying t = some (.float k)) (h : DataW.trod enc P w base spare held fuel t cs = some x) : ∃ n, cs = [.float k n] ∧ x = (.lit (.float k n), []) ∧ (Lit.float k n).wf = true := by
  cases fuel with
  | zero => simp [DataW.trod] at h
  | succ n =>
    unfold DataW.trod at h
    rw [ht] at h
    split at h <;> simp_all
theorem flatF_ok {go : TypeId → Option (List TypeDesc)} {cs : List Value} {n : Nat} (hn : cs.length = n)
    (hgo : ∀ t l cs' fuel x, go t = some l → DataW.trod enc P w base spare held fuel t cs' = some x → All2 leafOk l cs' ∧ x.2 = []) :
    ∀ (fs : List Field) (off : Nat) (l : List TypeDesc) (xs : List (DataW H × List MemPlace)) (fuel : Nat), flatF P go fs off n = some l → xs.length = fs.length →
      (∀ (i : Nat) (f : Field), fs[i]? = some f → DataW.trod enc P w base spare held fuel f.type ((cs.drop f.offset).take (P.cellsOf f.type)) = xs[i]?) → All2 leafOk l (cs.drop off) ∧ xs.flatMap (·.2) = []
  | [], off, l, xs, fuel, h, hl, hf => by
    simp only [flatF] at h
    split at h <;> cases h
    rename_i ho
    have : xs = [] := List.length_eq_zero_iff.1 hl
    subst this
    have : cs.drop off = [] := List.drop_eq_nil_of_le (by omega)
    rw [this]; exact ⟨trivial, rfl⟩
  | f :: fs, off, l, xs, fuel, h, hl, hf => by
    simp only [flatF] at h
    split at h <;> try (cases h; done)
    rename_i ho
    split at h <;> try (cases h; done)
    rename_i l1 hg
    split at h <;> try (cases h; done)
    rename_i hlen
    split at h <;> try (cases h; done)
    rename_i r hr
    cases h
    obtain ⟨x0, xs, rfl⟩ : ∃ x0 xs', xs = x0 :: xs' := by
      cases xs with
      | nil => simp at hl
      | cons a b => exact ⟨a, b, rfl⟩
    have h0 := hf 0 f rfl
    simp only [List.getElem?_cons_zero] at h0
    obtain ⟨a1, a2⟩ := hgo _ _ _ _ _ hg h0
    obtain ⟨b1, b2⟩ := flatF_ok hn hgo fs (off + P.cellsOf f.type) r xs fuel hr (by simpa using hl) fun i f' hi => by
      have := hf (i + 1) f' (by simpa using hi)
      simpa using this
    rw [ho] at a1
    refine ⟨?_, by simp [a2, b2]⟩
    have e : cs.drop off = (cs.drop off).take (P.cellsOf f.type) ++ cs.drop (off + P.cellsOf f.type) := by
      rw [← List.drop_drop, List.take_append_drop]
    rw [e]
    exact a1.append b1
theorem flatT_ok : ∀ (d : Nat) (t : TypeId) (l : List TypeDesc) (cs : List Value) (fuel : Nat) (x : DataW H × List MemPlace), flatT P d t = some l → DataW.trod enc P w base spare held fuel t cs = some x → All2 leafOk l cs ∧ x.2 = []
  | 0, _, _, _, _, _, h, _ => by cases h
  | d + 1, t, l, cs, fuel, x, h, ht => by
    unfold flatT at h
    split at h
    · rename_i fs hu
      obtain ⟨xs, n, rfl, rfl, hl, hlen, hf⟩ := DataW.trod_struct hu ht
      have := flatF_ok (cs := cs) hl (fun t l cs' fuel x => flatT_ok d t l cs' fuel x) fs.toList 0 l xs n h (by simpa using hlen) fun i f hi => hf i f (by simpa using hi)
      simpa using this
    · rename_i dd _ hu
      split at h <;> cases h
      rename_i hd
      cases dd <;> simp only [isLeaf, Bool.false_eq_true] at hd
      · obtain ⟨b, rfl, rfl⟩ := DataW.trod_bool hu ht
        exact ⟨⟨⟨b, rfl⟩, trivial⟩, rfl⟩
      · obtain ⟨n, rfl, rfl, hw⟩ := DataW.trod_int hu ht
        exact ⟨⟨⟨n, rfl, hw⟩, trivial⟩, rfl⟩
      · rename_i k _
        cases k
        · cases hd
        obtain ⟨n, rfl, rfl, hw⟩ := trod_float64 hu ht
        exact ⟨⟨⟨n, rfl, hw⟩, trivial⟩, rfl⟩
      · obtain ⟨s, rfl, rfl, hw⟩ := DataW.trod_string hu ht
        exact ⟨⟨⟨s, rfl, hw⟩, trivial⟩, rfl⟩
    · cases h
/-- a struct by value, opened -/
theorem open_flat {d : Nat} {t : TypeId} {fs : Array Field} {l : List TypeDesc} {r : _root_.Go.Reach} {b0 : Nat} {v : Value} {y : DataW H} {p : List MemPlace} (hu : P.underlying t = some (.struct fs)) (hl : flatT P d t = some l) (hv : Value.okWide P w r b0 t v)
    (h : DataW.Trod enc P w base spare held t v y p) : ∃ cs : List Value, v = .agg cs.toArray ∧ All2 leafOk l cs ∧ p = [] := by
  obtain ⟨cs, rfl, hsz⟩ := okWide_struct hu hv
  obtain ⟨fuel, hf⟩ := h
  obtain ⟨h1, h2⟩ := flatT_ok d t l _ fuel _ hl hf
  refine ⟨cs.toList, rfl, ?_, h2⟩
  simpa [Value.cells] using h1
end

/-! ### Symbols for them -/
def symOf (v : Value) : Value := match v with
  | .bool b => .int .u8 (if b then 1 else 0)
  | v => v
noncomputable def leafAV (d : TypeDesc) (n : Nat) : AV := match d with
  | .bool => .x .b (.cmp .eql (.sy n) (.li .u8 1))
  | .int k => .x (.i k) (.sy n)
  | .float _ => .x .f (.sy n)
  | _ => .x .s (.sy n)
noncomputable def leafAVs : List TypeDesc → Nat → List AV
  | [], _ => []
  | d :: ds, n => leafAV d n :: leafAVs ds (n + 1)

theorem wf_int {k : IntKind} {n : Int} (h : (Lit.int k n).wf = true) : k.min ≤ n ∧ n ≤ k.max := by
  simpa [Lit.wf] using h
theorem leaf_rv {Vs : List Value} {d : TypeDesc} {v : Value} (j : Nat) (hj : Vs[j]? = some (symOf v)) (h : leafOk d v) : Rv (symEV [] 1 Vs) (leafAV d (1 + j)) v := by
  cases d <;> simp only [leafOk] at h
  case bool =>
    obtain ⟨b, rfl⟩ := h
    have hd := den_sym (gl := []) (n0 := 1) j hj (sok_i _ _)
    show Rv _ (.x .b (.cmp .eql (.sy (1 + j)) (.li .u8 1))) _
    rw [Rv]
    refine ⟨?_, _, rfl⟩
    rw [fact_eq hd]
    cases b <;> rfl
  case int k =>
    obtain ⟨n, rfl, hw⟩ := h
    exact rv_sym (s := .i k) j hj (sok_i _ _) ⟨_, rfl, wf_int hw⟩
  case float k =>
    cases k
    · exact h.elim
    obtain ⟨x, rfl, hw⟩ := h
    exact rv_sym (s := .f) j hj (sok_f _) ⟨_, rfl, wf_f64 hw⟩
  case string =>
    obtain ⟨s, rfl, hw⟩ := h
    exact rv_sym (s := .s) j hj (sok_s _) ⟨s, rfl, by have : s.size ≤ 9223372036854775807 := hw; omega⟩
theorem leaves_rv {Vs : List Value} : ∀ {ds : List TypeDesc} {vs : List Value} (j : Nat), (∀ i v, vs[i]? = some v → Vs[j + i]? = some (symOf v)) → All2 leafOk ds vs → RvL (symEV [] 1 Vs) (leafAVs ds (1 + j)) vs
  | [], [], _, _, _ => rvl_nil
  | d :: ds, v :: vs, j, h, k => by
    refine rvl_cons (leaf_rv j (h 0 v rfl) k.1) ?_
    have := leaves_rv (ds := ds) (vs := vs) (j + 1) (fun i v hi => by have := h (i + 1) v (by simpa using hi); rw [← this]; congr 1; omega) k.2
    rw [show 1 + j + 1 = 1 + (j + 1) from by omega]
    exact this
  | [], _ :: _, _, _, k => k.elim
  | _ :: _, [], _, _, k => k.elim
end Go.Proofs.YtbmekbpgoakkbaaGreatDoor.Vx
set_option linter.unusedVariables false
set_option linter.unusedSimpArgs false
set_option linter.constructorNameAsVariable false
set_option linter.unusedSectionVars false
namespace Go.Proofs.YtbmekbpgoakkbaaGreatDoor.Vx
open Go

noncomputable def mayS (a : SE) : SE := .and (.cmp .eql (.fn 2 a) a) (.and (.cmp .leq (.fn 1 (.fn 4 (.fn 0 a))) (.lf 0x433fffffffffffff)) (seOr (.not (.cmp .eql a (.lf 0))) (.not (.cmp .leq (.fn 3 (.fn 0 a)) (.li .i64 (-1))))))
section
variable {E : Env}
theorem den_feq {a b : SE} {x y : Nat} (ha : den E a = some (.float .f64 x)) (hb : den E b = some (.float .f64 y)) : den E (.cmp .eql a b) = some (.bool (feq x y)) := by simp only [den, ha, hb, cmpV, cmpF, Option.map_some, feq]
theorem den_fle {a b : SE} {x y : Nat} (ha : den E a = some (.float .f64 x)) (hb : den E b = some (.float .f64 y)) : den E (.cmp .leq a b) = some (.bool (fle x y)) := by simp only [den, ha, hb, cmpV, cmpF, Option.map_some, fle]
theorem den_trunc {a : SE} {x : Nat} (ha : den E a = some (.float .f64 x)) (hs : feq x x = true) : den E (.fn 2 a) = some (.float .f64 (truncF x)) := by
  simp only [den, ha, apf]
  unfold truncF
  cases hd : FloatKind.f64.decode x with
  | nan s t =>
    unfold feq at hs
    rw [order_nan0 (.inl ⟨s, t, hd⟩)] at hs; cases hs
  | _ => rfl
theorem den_mayS {a : SE} {x : Nat} (ha : den E a = some (.float .f64 x)) (hs : feq x x = true) : den E (mayS a) = some (.bool (mayF x)) := by
  have e : mayF x = (feq (truncF x) x && (fle (absF x) 0x433fffffffffffff && (!feq x 0 || !sgnF x))) := by
    unfold mayF; rw [hs]; simp only [Bool.not_true, Bool.false_or, Bool.and_assoc]
  rw [e]
  have h0 : den E (.fn 0 a) = some (.int .u64 x) := by simp only [den, ha, apf]
  have h4 : den E (.fn 1 (.fn 4 (.fn 0 a))) = some (.float .f64 (absF x)) := by
    simp only [den, ha, apf]; rfl
  have h3 : den E (.fn 3 (.fn 0 a)) = some (.int .i64 (IntKind.i64.wrap (x : Int))) := by simp only [den, ha, apf]
  unfold mayS
  refine den_and (den_feq (den_trunc ha hs) ha) (den_and (den_fle h4 rfl) (den_or (den_not (den_feq ha rfl)) (den_not ?_)))
  exact fact_le h3
end

/-! ### Operands of a kind -/
noncomputable def asI (kk : IntKind) (v : AV) (k : SE → Bool) : Bool := match v with
  | .i k' n => bc (Nat.beq (kc kk) (kc k')) (bc (bc (decide (kk.min ≤ n)) (decide (n ≤ kk.max)) false) (k (.li kk n)) false) false
  | .x (.i k') e => bc (Nat.beq (kc kk) (kc k')) (k e) false
  | _ => false
noncomputable def asF (v : AV) (k : SE → Bool) : Bool := match v with
  | .f .f64 x => bc (Nat.ble (x + 1) 18446744073709551616) (k (.lf x)) false
  | .x .f e => k e
  | _ => false
noncomputable def asS (v : AV) (k : SE → Bool) : Bool := match v with
  | .s l x => bc (Nat.ble l 4611686018427387903) (k (.ls l x)) false
  | .x .s e => k e
  | _ => false
section
variable {E : Env}
theorem asI_ok {kk : IntKind} {v : AV} {V : Value} {k : SE → Bool} (he : asI kk v k = true) (r : Rv E v V) : ∃ e n, V = .int kk n ∧ kk.min ≤ n ∧ n ≤ kk.max ∧ den E e = some (.int kk n) ∧ k e = true := by
  unfold asI at he
  split at he
  · obtain ⟨h1, he1⟩ := bc_and he
    obtain ⟨h2, he2⟩ := bc_and he1
    obtain ⟨h2, h3⟩ := bc_and h2
    clear he he1
    have h1 := kc_inj h1
    subst h1
    rw [Rv] at r; subst r
    exact ⟨_, _, rfl, of_decide_eq_true h2, of_decide_eq_true h3, rfl, he2⟩
  · obtain ⟨h1, he1⟩ := bc_and he
    clear he
    have h1 := kc_inj h1
    subst h1
    simp only [Rv, hasS] at r
    obtain ⟨hd, n, rfl, l1, l2⟩ := r
    exact ⟨_, _, rfl, l1, l2, hd, he1⟩
  · cases he
theorem asF_ok {v : AV} {V : Value} {k : SE → Bool} (he : asF v k = true) (r : Rv E v V) : ∃ e x, V = .float .f64 x ∧ x < 18446744073709551616 ∧ den E e = some (.float .f64 x) ∧ k e = true := by
  unfold asF at he
  split at he
  · obtain ⟨h1, he⟩ := bc_and he
    rw [Rv] at r; subst r
    exact ⟨_, _, rfl, Nat.lt_of_succ_le (Nat.le_of_ble_eq_true h1), rfl, he⟩
  · simp only [Rv, hasS] at r
    obtain ⟨hd, n, rfl, l1⟩ := r
    exact ⟨_, _, rfl, l1, hd, he⟩
  · cases he
theorem asS_ok {v : AV} {V : Value} {k : SE → Bool} (he : asS v k = true) (r : Rv E v V) : ∃ (e : SE) (s : ByteArray), V = .string s ∧ (s.size : Int) ≤ 9223372036854775807 ∧ den E e = some (.string s) ∧ k e = true := by
  unfold asS at he
  split at he
  · obtain ⟨h1, he⟩ := bc_and he
    have h1 := Nat.le_of_ble_eq_true h1
    rw [Rv] at r; subst r
    exact ⟨_, _, rfl, by rw [str_size]; omega, rfl, he⟩
  · simp only [Rv, hasS] at r
    obtain ⟨hd, n, rfl, l1⟩ := r
    exact ⟨_, _, rfl, l1, hd, he⟩
  · cases he
theorem rv_four {a b c d : AV} {V : Value} (r : Rv E (.ag [a, b, c, d]) V) : ∃ A B C D, V = .agg #[A, B, C, D] ∧ Rv E a A ∧ Rv E b B ∧ Rv E c C ∧ Rv E d D := by
  rw [Rv] at r
  obtain ⟨vs, rfl, r⟩ := r
  simp only [RvL] at r
  obtain ⟨A, _, rfl, ra, B, _, rfl, rb, C, _, rfl, rc, D, _, rfl, rd, rfl⟩ := r
  exact ⟨A, B, C, D, rfl, ra, rb, rc, rd⟩
end

/-! ### May a value be -/
noncomputable def packV (a b c d : SE) : SE := .fn2 0 a (.fn2 0 b (.fn2 0 c d))
theorem den_may {E : Env} {a b c d : SE} {n r : Int} {x : Nat} {s : ByteArray} (ha : den E a = some (.int .u8 n)) (hb : den E b = some (.float .f64 x)) (hc : den E c = some (.string s)) (hd : den E d = some (.int .i64 r)) :
    den E (.fn 10 (packV a b c d)) = some (.bool (mayV n x s r)) := by
  simp only [packV, den, ha, hb, hc, hd, apf2, apf, mayA, mayA2, mayA3]
noncomputable def valK (v : AV) (k : SE → SE → SE → SE → Bool) : Bool := match v with
  | .ag [a, b, c, d] => asI .u8 a fun a => asF b fun b => asS c fun c => asI .i64 d fun d => bc (hasSy (packV a b c d)) (k a b c d) false
  | _ => false
theorem valK_ok {E : Env} {h : Heap} {nxt : Nat} {w : World} {v : AV} {V : Value} {k : SE → SE → SE → SE → Bool} (he : valK v k = true) (r : Rv E v V) (hr : HR E h nxt w) :
    ∃ a b c d n x s m, V = .agg #[.int .u8 n, .float .f64 x, .string s, .int .i64 m] ∧ (0 ≤ n ∧ n ≤ 255) ∧ x < 18446744073709551616 ∧ (s.size : Int) ≤ 9223372036854775807 ∧ (-9223372036854775808 ≤ m ∧ m ≤ 9223372036854775807) ∧
      den E a = some (.int .u8 n) ∧ den E b = some (.float .f64 x) ∧ den E c = some (.string s) ∧ den E d = some (.int .i64 m) ∧ 0 < w.heap.size ∧ k a b c d = true := by
  unfold valK at he
  split at he <;> try (cases he; done)
  obtain ⟨A, B, C, D, rfl, ra, rb, rc, rd⟩ := rv_four r
  obtain ⟨a, n, rfl, n1, n2, da, he⟩ := asI_ok he ra
  obtain ⟨b, x, rfl, x1, db, he⟩ := asF_ok he rb
  obtain ⟨c, s, rfl, s1, dc, he⟩ := asS_ok he rc
  obtain ⟨d, m, rfl, m1, m2, dd, he⟩ := asI_ok he rd
  obtain ⟨h1, he⟩ := bc_and he
  exact ⟨a, b, c, d, n, x, s, m, rfl, ⟨n1, n2⟩, x1, s1, ⟨m1, m2⟩, da, db, dc, dd, hr.size_pos h1 (by simp only [packV, den, da, db, dc, dd, apf2]; rfl), he⟩
/-- what is to be shown of a function that tells something of a value -/
def OfVal (P : Program) (g : FuncId) (f : Int → Nat → ByteArray → Int → Bool) : Prop := ∀ (n : Int) (x : Nat) (s : ByteArray) (m : Int) (w : World), 0 ≤ n ∧ n ≤ 255 → x < 18446744073709551616 → (s.size : Int) ≤ 9223372036854775807 → -9223372036854775808 ≤ m ∧ m ≤ 9223372036854775807 → 0 < w.heap.size →
  Calls P g #[.agg #[.int .u8 n, .float .f64 x, .string s, .int .i64 m]] w fun e w' => e = .returned (.bool (f n x s m)) ∧ RowKit.Below w.heap.size w w'
noncomputable def valF (mk : SE → SE → SE → SE → SE) : Ct := fun args h nxt k => match args with
  | [v] => valK v fun a b c d => k (.x .b (mk a b c d)) h nxt
  | _ => false
theorem valF_ok [JC] {P : Program} {g : FuncId} {f : Int → Nat → ByteArray → Int → Bool} {mk : SE → SE → SE → SE → SE} (H : OfVal P g f)
    (hm : ∀ {E : Env} {a b c d : SE} {n r : Int} {x : Nat} {s : ByteArray}, den E a = some (.int .u8 n) → den E b = some (.float .f64 x) → den E c = some (.string s) → den E d = some (.int .i64 r) → den E (mk a b c d) = some (.bool (f n x s r))) : CtOK P g (valF mk) := by
  apply ctExpr
  intro args ARGS E h nxt w k he ra hr
  unfold valF at he
  split at he <;> try (cases he; done)
  obtain ⟨V, hA, rx⟩ := ra.one
  have hA : ARGS = #[V] := by apply Array.ext'; simpa using hA
  subst hA
  obtain ⟨a, b, c, d, n, x, s, m, rfl, q1, q2, q3, q4, da, db, dc, dd, hs, he⟩ := valK_ok he rx hr
  refine ⟨_, h, .bool (f n x s m), he, ?_, hr, Fk.refl h, H n x s m w q1 q2 q3 q4 hs⟩
  rw [Rv]
  exact ⟨hm da db dc dd, _, rfl⟩
noncomputable def mayC : Ct := valF fun a b c d => .fn 10 (packV a b c d)
theorem mayC_ok [JC] {P : Program} {g : FuncId} (H : OfVal P g mayV) : CtOK P g mayC := valF_ok H den_may

theorem bareV_eq (n : Int) (x : Nat) (s : ByteArray) (r : Int) : bareV n x s r = (decide (n = 0) && (decide (s.size = 0) && (decide (r = 0) && (feq x 0 && mayF x)))) := by
  unfold bareV mayV
  by_cases h1 : n = 0
  · subst h1
    by_cases h2 : s.size = 0
    · by_cases h3 : r = 0
      · subst h3
        rw [h2]
        cases h4 : feq x 0 <;> cases h5 : mayF x <;> simp [h4, h5]
      · simp [h3]
    · simp [h2]
  · simp [h1]
theorem den_empty {E : Env} {c : SE} {s : ByteArray} (hc : den E c = some (.string s)) : den E (.cmp .eql c (.ls 0 0)) = some (.bool (decide (s.size = 0))) := by
  simp only [den, hc, cmpV, cmpS, Option.map_some, Option.some.injEq, Value.bool.injEq]
  rw [ByteArray.toList_eq, ByteArray.toList_eq, str_toList]
  have : unpack 0 0 = [] := rfl
  rw [this, Bool.eq_iff_iff, beq_iff_eq, decide_eq_true_iff]
  constructor
  · intro h
    have := congrArg List.length h
    simpa using this
  · intro h
    apply List.eq_nil_of_length_eq_zero
    simpa using h
noncomputable def bareS (a b c d : SE) : SE := .and (.fn 10 (packV a b c d)) (.and (.cmp .eql a (.li .u8 0)) (.and (.cmp .eql b (.lf 0)) (.and (.cmp .eql c (.ls 0 0)) (.cmp .eql d (.li .i64 0)))))
noncomputable def bareC : Ct := valF bareS
theorem bareC_ok [JC] {P : Program} {g : FuncId} (H : OfVal P g bareV) : CtOK P g bareC := valF_ok H fun da db dc dd =>
  den_and (den_may da db dc dd) (den_and (fact_eq da) (den_and (den_feq db rfl) (den_and (den_empty dc) (fact_eq dd))))

/-- two floats of the document's: the same expression; nought without a sign -/
noncomputable def sameC : Ct := fun args h nxt k => match args with
  | [.x .f a, .x .f b] => bc (hasSy a) (bc (seEq a b) (k (.b true) h nxt) false) false
  | [.x .f a, .f .f64 0] => bc (hasSy a) (k (.x .b (.and (.cmp .eql a (.lf 0)) (.fn 7 a))) h nxt) false
  | _ => false
def OfSame (P : Program) (g : FuncId) : Prop := ∀ (x : Nat) (w : World), x < 18446744073709551616 → 0 < w.heap.size → (Calls P g #[.float .f64 x, .float .f64 x] w fun e w' => e = .returned (.bool true) ∧ RowKit.Below w.heap.size w w') ∧
  (Calls P g #[.float .f64 x, .float .f64 0] w fun e w' => e = .returned (.bool (feq x 0 && mayF x)) ∧ RowKit.Below w.heap.size w w')
theorem sameC_ok [JC] {P : Program} {g : FuncId} (H : OfSame P g) : CtOK P g sameC := by
  apply ctExpr
  intro args ARGS E h nxt w k he ra hr
  unfold sameC at he
  split at he <;> try (cases he; done)
  · obtain ⟨h1, he1⟩ := bc_and he
    obtain ⟨h2, he2⟩ := bc_and he1
    obtain rfl := seEq_ok h2
    obtain ⟨X, Y, hA, rx, ry⟩ := ra.two
    have hA : ARGS = #[X, Y] := by apply Array.ext'; simpa using hA
    subst hA
    simp only [Rv, hasS] at rx ry
    obtain ⟨da, x, rfl, hx⟩ := rx
    obtain ⟨db, y, rfl, _⟩ := ry
    rw [da] at db; cases db
    exact ⟨_, h, _, he2, by rw [Rv], hr, Fk.refl h, (H x w hx (hr.size_pos h1 da)).1⟩
  · obtain ⟨h1, he1⟩ := bc_and he
    obtain ⟨X, Y, hA, rx, ry⟩ := ra.two
    have hA : ARGS = #[X, Y] := by apply Array.ext'; simpa using hA
    subst hA
    simp only [Rv, hasS] at rx ry
    obtain ⟨da, x, rfl, hx⟩ := rx
    subst ry
    refine ⟨_, h, _, he1, ?_, hr, Fk.refl h, (H x w hx (hr.size_pos h1 da)).2⟩
    rw [Rv]
    exact ⟨den_and (den_feq da rfl) (by simp only [den, da, apf]), _, rfl⟩
/-- nought, without a sign -/
noncomputable def noughtC : Ct := fun args h nxt k => match args with
  | [.x .f a] => bc (hasSy a) (k (.x .b (.and (.cmp .eql a (.lf 0)) (.fn 7 a))) h nxt) false
  | _ => false
theorem noughtC_ok [JC] {P : Program} {g : FuncId} (H : ∀ (x : Nat) (w : World), x < 18446744073709551616 → 0 < w.heap.size → Calls P g #[.float .f64 x] w fun e w' => e = .returned (.bool (feq x 0 && mayF x)) ∧ RowKit.Below w.heap.size w w') : CtOK P g noughtC := by
  apply ctExpr
  intro args ARGS E h nxt w k he ra hr
  unfold noughtC at he
  split at he <;> try (cases he; done)
  obtain ⟨h1, he1⟩ := bc_and he
  obtain ⟨X, hA, rx⟩ := ra.one
  have hA : ARGS = #[X] := by apply Array.ext'; simpa using hA
  subst hA
  simp only [Rv, hasS] at rx
  obtain ⟨da, x, rfl, hx⟩ := rx
  refine ⟨_, h, _, he1, ?_, hr, Fk.refl h, H x w hx (hr.size_pos h1 da)⟩
  rw [Rv]
  exact ⟨den_and (den_feq da rfl) (by simp only [den, da, apf]), _, rfl⟩

/-- a value's cells, of a kind: may it be -/
noncomputable def mayB (b c d : SE) (m : SE) : SE := .and (.and (.not (.cmp .leq d (.li .i64 (-1)))) (.cmp .leq (.len c) (.li .i64 4096))) m
noncomputable def mayVS (n : Nat) (b c d : SE) : SE := match n with
  | 2 => mayB b c d (.and (seOr (.cmp .eql b (.lf 0x3ff0000000000000)) (.and (.cmp .eql b (.lf 0)) (.fn 7 b))) (.and (.cmp .eql c (.ls 0 0)) (.cmp .eql d (.li .i64 0))))
  | 3 => mayB b c d (.and (.fn 7 b) (.and (.cmp .eql c (.ls 0 0)) (.cmp .eql d (.li .i64 0))))
  | 4 => mayB b c d (.and (.and (.cmp .eql b (.lf 0)) (.fn 7 b)) (.cmp .eql d (.li .i64 0)))
  | 0 => mayB b c d (.and (.and (.cmp .eql b (.lf 0)) (.fn 7 b)) (.and (.cmp .eql c (.ls 0 0)) (.cmp .eql d (.li .i64 0))))
  | 1 => mayB b c d (.and (.and (.cmp .eql b (.lf 0)) (.fn 7 b)) (.and (.cmp .eql c (.ls 0 0)) (.cmp .eql d (.li .i64 0))))
  | _ => mayB b c d (.and (.and (.cmp .eql b (.lf 0)) (.fn 7 b)) (.cmp .eql c (.ls 0 0)))
theorem den_mayVS {E : Env} {b c d : SE} {r : Int} {x : Nat} {s : ByteArray} (hb : den E b = some (.float .f64 x)) (hc : den E c = some (.string s)) (hd : den E d = some (.int .i64 r)) :
    ∀ n : Nat, n ≤ 8 → den E (mayVS n b c d) = some (.bool (mayV n x s r)) := by
  have h7 : den E (.fn 7 b) = some (.bool (mayF x)) := by simp only [den, hb, apf]
  have hl : den E (.len c) = some (.int .i64 s.size) := by simp only [den, hc]
  have base : ∀ {m : SE} {z : Bool}, den E m = some (.bool z) → den E (mayB b c d m) = some (.bool ((!decide (r ≤ -1) && decide ((s.size : Int) ≤ 4096)) && z)) := fun hm =>
    den_and (den_and (den_not (fact_le hd)) (fact_le hl)) hm
  have e0 : (!decide (r ≤ -1)) = decide (0 ≤ r) := by rw [← decide_not, decide_eq_decide]; omega
  have z0 : den E (.and (.cmp .eql b (.lf 0)) (.fn 7 b)) = some (.bool (feq x 0 && mayF x)) := den_and (den_feq hb rfl) h7
  intro n hn
  match n, hn with
  | 0, _ => refine (base (den_and z0 (den_and (den_empty hc) (fact_eq hd)))).trans ?_; rw [e0]; unfold mayV; simp [Bool.and_assoc]
  | 1, _ => refine (base (den_and z0 (den_and (den_empty hc) (fact_eq hd)))).trans ?_; rw [e0]; unfold mayV; simp [Bool.and_assoc]
  | 2, _ => refine (base (den_and (den_or (den_feq hb rfl) z0) (den_and (den_empty hc) (fact_eq hd)))).trans ?_; rw [e0]; unfold mayV; simp [Bool.and_assoc]
  | 3, _ => refine (base (den_and h7 (den_and (den_empty hc) (fact_eq hd)))).trans ?_; rw [e0]; unfold mayV; simp [Bool.and_assoc]
  | 4, _ => refine (base (den_and z0 (fact_eq hd))).trans ?_; rw [e0]; unfold mayV; simp [Bool.and_assoc]
  | 5, _ => refine (base (den_and z0 (den_empty hc))).trans ?_; rw [e0]; unfold mayV; simp [Bool.and_assoc]
  | 6, _ => refine (base (den_and z0 (den_empty hc))).trans ?_; rw [e0]; unfold mayV; simp [Bool.and_assoc]
  | 7, _ => refine (base (den_and z0 (den_empty hc))).trans ?_; rw [e0]; unfold mayV; simp [Bool.and_assoc]
  | 8, _ => refine (base (den_and z0 (den_empty hc))).trans ?_; rw [e0]; unfold mayV; simp [Bool.and_assoc]
/-- the same in the document's order -/
noncomputable def mayRS (n : Nat) (b c d : SE) : SE := match n with
  | 2 => .and (seOr (.and (.cmp .eql b (.lf 0)) (.fn 7 b)) (.cmp .eql b (.lf 0x3ff0000000000000))) (.and (.cmp .eql c (.ls 0 0)) (.cmp .eql d (.li .i64 0)))
  | 3 => .and (.fn 7 b) (.and (.cmp .eql c (.ls 0 0)) (.cmp .eql d (.li .i64 0)))
  | 4 => .and (.and (.cmp .eql b (.lf 0)) (.fn 7 b)) (.and (seOr (.cmp .eql c (.ls 0 0)) (.cmp .leq (.len c) (.li .i64 4096))) (.cmp .eql d (.li .i64 0)))
  | 0 => .and (.and (.cmp .eql b (.lf 0)) (.fn 7 b)) (.and (.cmp .eql c (.ls 0 0)) (.cmp .eql d (.li .i64 0)))
  | 1 => .and (.and (.cmp .eql b (.lf 0)) (.fn 7 b)) (.and (.cmp .eql c (.ls 0 0)) (.cmp .eql d (.li .i64 0)))
  | _ => .and (.and (.cmp .eql b (.lf 0)) (.fn 7 b)) (.and (.cmp .eql c (.ls 0 0)) (seOr (.cmp .eql d (.li .i64 0)) (.not (.cmp .leq d (.li .i64 0)))))
theorem den_mayRS {E : Env} {b c d : SE} {r : Int} {x : Nat} {s : ByteArray} (hb : den E b = some (.float .f64 x)) (hc : den E c = some (.string s)) (hd : den E d = some (.int .i64 r)) :
    ∀ n : Nat, n ≤ 8 → den E (mayRS n b c d) = some (.bool (mayV n x s r)) := by
  have h7 : den E (.fn 7 b) = some (.bool (mayF x)) := by simp only [den, hb, apf]
  have hl : den E (.len c) = some (.int .i64 s.size) := by simp only [den, hc]
  have z0 : den E (.and (.cmp .eql b (.lf 0)) (.fn 7 b)) = some (.bool (feq x 0 && mayF x)) := den_and (den_feq hb rfl) h7
  have q1 : ∀ p : Bool, (decide (0 ≤ r) && (decide ((s.size : Int) ≤ 4096) && (p && (decide (s.size = 0) && decide (r = 0))))) = (p && (decide (s.size = 0) && decide (r = 0))) := by
    intro p
    by_cases h1 : r = 0
    · by_cases h2 : s.size = 0
      · rw [decide_eq_true (show 0 ≤ r by omega), decide_eq_true (show (s.size : Int) ≤ 4096 by omega)]; simp
      · simp [h2]
    · simp [h1]
  have q2 : ∀ p : Bool, (decide (0 ≤ r) && (decide ((s.size : Int) ≤ 4096) && (p && decide (s.size = 0)))) = (p && (decide (s.size = 0) && (decide (r = 0) || !decide (r ≤ 0)))) := by
    intro p
    by_cases h2 : s.size = 0
    · rw [decide_eq_true (show (s.size : Int) ≤ 4096 by omega), decide_eq_true h2]
      have : (decide (r = 0) || !decide (r ≤ 0)) = decide (0 ≤ r) := by
        rw [Bool.eq_iff_iff]; simp; omega
      rw [this]; simp [Bool.and_comm]
    · simp [h2]
  have q4 : ∀ p : Bool, (decide (0 ≤ r) && (decide ((s.size : Int) ≤ 4096) && (p && decide (r = 0)))) = (p && ((decide (s.size = 0) || decide ((s.size : Int) ≤ 4096)) && decide (r = 0))) := by
    intro p
    by_cases h1 : r = 0
    · have : (decide (s.size = 0) || decide ((s.size : Int) ≤ 4096)) = decide ((s.size : Int) ≤ 4096) := by
        by_cases h2 : s.size = 0
        · rw [decide_eq_true h2, decide_eq_true (show (s.size : Int) ≤ 4096 by omega)]; rfl
        · rw [decide_eq_false h2, Bool.false_or]
      rw [this, decide_eq_true (show 0 ≤ r by omega), decide_eq_true h1]; simp [Bool.and_comm]
    · simp [h1]
  intro n hn
  match n, hn with
  | 0, _ => refine (den_and z0 (den_and (den_empty hc) (fact_eq hd))).trans ?_; rw [← q1]; unfold mayV; simp [Bool.and_assoc]
  | 1, _ => refine (den_and z0 (den_and (den_empty hc) (fact_eq hd))).trans ?_; rw [← q1]; unfold mayV; simp [Bool.and_assoc]
  | 2, _ => refine (den_and (den_or z0 (den_feq hb rfl)) (den_and (den_empty hc) (fact_eq hd))).trans ?_; rw [← q1]; unfold mayV; simp [Bool.and_assoc, Bool.or_comm]
  | 3, _ => refine (den_and h7 (den_and (den_empty hc) (fact_eq hd))).trans ?_; rw [← q1]; unfold mayV; simp [Bool.and_assoc]
  | 4, _ => refine (den_and z0 (den_and (den_or (den_empty hc) (fact_le hl)) (fact_eq hd))).trans ?_; rw [← q4]; unfold mayV; simp [Bool.and_assoc]
  | 5, _ => refine (den_and z0 (den_and (den_empty hc) (den_or (fact_eq hd) (den_not (fact_le hd))))).trans ?_; rw [← q2]; unfold mayV; simp [Bool.and_assoc]
  | 6, _ => refine (den_and z0 (den_and (den_empty hc) (den_or (fact_eq hd) (den_not (fact_le hd))))).trans ?_; rw [← q2]; unfold mayV; simp [Bool.and_assoc]
  | 7, _ => refine (den_and z0 (den_and (den_empty hc) (den_or (fact_eq hd) (den_not (fact_le hd))))).trans ?_; rw [← q2]; unfold mayV; simp [Bool.and_assoc]
  | 8, _ => refine (den_and z0 (den_and (den_empty hc) (den_or (fact_eq hd) (den_not (fact_le hd))))).trans ?_; rw [← q2]; unfold mayV; simp [Bool.and_assoc]
theorem den_fn {E : Env} {c : Nat} {e : SE} {V U : Value} (h : den E e = some V) (k : apf c V = some U) : den E (.fn c e) = some U := by simp only [den, h, k]
theorem mayV_great {n : Int} {x : Nat} {s : ByteArray} {r : Int} (h : 8 < n) : mayV n x s r = false := by
  unfold mayV
  rw [decide_eq_false (by omega)]; rfl
end Go.Proofs.YtbmekbpgoakkbaaGreatDoor.Vx
