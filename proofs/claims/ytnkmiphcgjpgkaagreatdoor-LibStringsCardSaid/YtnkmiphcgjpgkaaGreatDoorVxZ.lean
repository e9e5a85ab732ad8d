/- What is known after a call whose contract says that nothing that was there has turned: an evaluator's contract for a function that hands back a new row. No condition. -/
import Derived.Test.YtnkmiphcgjpgkaaGreatDoorVxN
import Derived.Lib.IndexMore
set_option linter.unusedVariables false
set_option linter.unusedSimpArgs false
set_option linter.constructorNameAsVariable false
namespace Go.Proofs.YtnkmiphcgjpgkaaGreatDoor.Vx
open Go

section
variable {E : Env} {h : Heap} {nxt : Nat} {w w' : World}

theorem old_get {x : Obj} {k : Nat} (hb : RowKit.Below w.heap.size w w') (hx : w.heap[k]? = some x) : w'.heap[k]? = some x := by
  have : k < w.heap.size := by
    rcases Nat.lt_or_ge k w.heap.size with hh | hh
    · exact hh
    · rw [Array.getElem?_eq_none hh] at hx; cases hx
  rw [hb.block k this]; exact hx

theorem RO.below {i : Nat} {a : AO} (hb : RowKit.Below w.heap.size w w') (r : RO E w i a) : RO E w' i a := by
  cases a with
  | gone => trivial
  | floor n => trivial
  | facts fs => exact r
  | cells n e c => obtain ⟨L, arr, el, h1, h2, h3⟩ := r; exact ⟨L, arr, el, h1, old_get hb h2, h3⟩
  | map es c => obtain ⟨L, ms, h1, h2, h3⟩ := r; exact ⟨L, ms, h1, old_get hb h2, h3⟩
  | siter l n p => obtain ⟨L, h1, h2, h3⟩ := r; exact ⟨L, h1, h2, old_get hb h3⟩
  | glob g n c => obtain ⟨L, arr, el, fr, h1, h2, h3, h4⟩ := r; exact ⟨L, arr, el, fr, h1, h2, old_get hb h3, h4⟩

theorem HR.below (hr : HR E h nxt w) (hb : RowKit.Below w.heap.size w w') : HR E h nxt w' :=
  ⟨fun i => (hr.obj i).below hb, hr.inj, hr.lt, hr.fresh, fun i L hi => Nat.lt_of_lt_of_le (hr.inw i L hi) hb.size, hr.pos, hr.flle, hr.zero⟩

theorem Goes.below (hb : RowKit.Below w.heap.size w w') : Goes E h w E h w' :=
  ⟨Env.le_refl _, hb.size, fun k hk _ => hb.block k hk, fun _ _ h => h, rfl, fun _ _ => rfl, hb.os, hb.output, hb.tape⟩

/-- a contract: a new row of these values, and nothing else -/
noncomputable def rowC (t : TypeId) (l : List AV) (n : Nat) : List AV → Heap → Nat → K → Bool := fun args h nxt k => match args with
  | [] => newCells 1 l n ⟨0, some t, true⟩ h nxt (k (.so nxt 0 n 0))
  | _ => false

theorem rowC_ok {P : Program} {g : FuncId} {t : TypeId} {vs : List Value} {n : Nat} (hn : vs.length = n)
    (hc : ∀ w : World, Calls P g #[] w fun e w' => ∃ b cap, e = .returned (.slice (some ⟨b, 0, none⟩) n cap) ∧ w'.ownsRow w.heap.size t 1 (.slice (some ⟨b, 0, none⟩) n cap) n vs ∧ RowKit.Below w.heap.size w w')
    (args : List AV) (ARGS : Array Value) (E : Env) (h : Heap) (nxt : Nat) (w : World) (k : K) (he : rowC t (vs.map abs1) n args h nxt k = true) (ra : RvL E args ARGS.toList) (hr : HR E h nxt w) :
    Calls P g ARGS w fun e w' => ∃ V, e = .returned V ∧ Gives E h w k V w' := by
  unfold rowC at he
  split at he <;> try (cases he; done)
  have hA : ARGS = #[] := by
    rw [RvL] at ra
    apply Array.ext'; simpa using ra
  subst hA
  refine (hc w).mono ?_
  rintro e w' ⟨b, cap, rfl, hrow, hb⟩
  obtain ⟨hl, ⟨hnil, _⟩ | ⟨b', cap', cur, hv, hbase, hg, h1, h2, h3, h4⟩⟩ := hrow
  · cases hnil
  obtain ⟨rfl, rfl⟩ : b = b' ∧ cap = cap' := by simpa using hv
  unfold newCells at he
  rw [wrC_eq, T.setK_eq, forceN_eq] at he
  have hr' := hr.below hb
  have hlt : b < w'.heap.size := (Array.getElem?_eq_some_iff.1 hg).1
  have hcur : n ≤ cur.size := by rw [h3]; omega
  have e1 : ∀ j, j < n → vs.getD j undef = cur.getD j undef := fun j hj => by
    rw [← h4]
    simp [List.getElem?_take, hj]
  have no : ∀ i M, (T.get AO.gone h i).live = true → E i = some M → M.blk ≠ b := fun i M _ hM => by
    have := hr.inw i M hM
    omega
  have hle := Env.le_set (hr'.fresh nxt (Nat.le_refl _)) ⟨b, 0, cap⟩
  have ad := hr'.adopt ⟨b, 0, cap⟩ hlt no (.cells n ⟨0, some t, true⟩ (wrCs (vs.map abs1) ⟨1, bigR⟩ 0)) ⟨⟨b, 0, cap⟩, cur, t, by simp, by simpa using hg, by simpa using hcur, Esz.ok_new _ _ _ _ _, fun j hj => by
    have := wrCs_new (E := fun i => if i = nxt then some ⟨b, 0, cap⟩ else E i) 1 (vs.map abs1) vs (abs1L_ok _ vs) j (by simpa [hn] using hj)
    rw [e1 j hj] at this
    simpa using this⟩
  refine ⟨_, rfl, _, _, _, _, ?_, ad, (Goes.below hb).adopt hr' ⟨b, 0, cap⟩ hbase _, he⟩
  rw [Rv]
  exact ⟨⟨b, 0, cap⟩, by simp, by simp, by simpa using h1⟩
end

/-! ### strings.Index and strings.Contains -/
theorem occ_iff {a x b y j : Nat} (hj : j ≤ a) : Lib.occAt (unpack a x) (unpack b y) j = true ↔ j + b ≤ a ∧ (x / 256 ^ j) % 256 ^ b = y % 256 ^ b := by
  unfold Lib.occAt
  rw [unpack_drop, List.isPrefixOf_iff_prefix, List.prefix_iff_eq_take, unpack_length]
  by_cases hb : b ≤ a - j
  · rw [unpack_take b (a - j) _ hb, unpack_inj]
    constructor
    · intro h; exact ⟨by omega, h.symm⟩
    · intro h; exact h.2.symm
  · constructor
    · intro h
      have := congrArg List.length h
      simp at this
      omega
    · intro h; omega

noncomputable def scanK (n : Nat) : Nat → Nat → Nat → Nat → (Int → Bool) → Bool :=
  Nat.rec (motive := fun _ => Nat → Nat → Nat → Nat → (Int → Bool) → Bool) (fun _ _ _ _ k => k (.negSucc 0))
    (fun _ ih x i m y k => bc (Nat.beq (Nat.mod x m) y) (k (.ofNat i)) (forceN (Nat.div x 256) fun x' => forceN (Nat.succ i) fun i' => ih x' i' m y k)) n

theorem scanK_ok {a X b Y : Nat} {k : Int → Bool} : ∀ (n i : Nat), i + n = a + 1 - b → (∀ j, j < i → Lib.occAt (unpack a X) (unpack b Y) j = false) →
    scanK n (X / 256 ^ i) i (256 ^ b) (Y % 256 ^ b) k = k (Lib.index (unpack a X) (unpack b Y))
  | 0, i, hi, hn => by
    have e : Lib.index (unpack a X) (unpack b Y) = -1 := Lib.index_none fun j hj => by
      rw [unpack_length] at hj
      by_cases h : j < i
      · exact hn j h
      · cases ho : Lib.occAt (unpack a X) (unpack b Y) j
        · rfl
        · have := ((occ_iff hj).1 ho).1
          omega
    rw [e]; rfl
  | n + 1, i, hi, hn => by
    have hia : i + b ≤ a := by omega
    show bc (Nat.beq (Nat.mod (X / 256 ^ i) (256 ^ b)) (Y % 256 ^ b)) (k (.ofNat i)) (forceN (Nat.div (X / 256 ^ i) 256) fun x' => forceN (Nat.succ i) fun i' => scanK n x' i' (256 ^ b) (Y % 256 ^ b) k) = _
    cases hb : Nat.beq (Nat.mod (X / 256 ^ i) (256 ^ b)) (Y % 256 ^ b)
    · rw [bc_false, forceN_eq, forceN_eq]
      have e : Nat.div (X / 256 ^ i) 256 = X / 256 ^ (i + 1) := by
        show X / 256 ^ i / 256 = _
        rw [Nat.div_div_eq_div_mul, Nat.pow_succ]
      rw [e]
      refine scanK_ok n (i + 1) (by omega) fun j hj => ?_
      by_cases h : j < i
      · exact hn j h
      · have : j = i := by omega
        subst this
        cases ho : Lib.occAt (unpack a X) (unpack b Y) j
        · rfl
        · have h2 := ((occ_iff (by omega)).1 ho).2
          have : Nat.beq (Nat.mod (X / 256 ^ j) (256 ^ b)) (Y % 256 ^ b) = true := by
            show Nat.beq ((X / 256 ^ j) % (256 ^ b)) _ = true
            rw [h2]; exact Nat.beq_refl _
          rw [this] at hb; cases hb
    · rw [bc_true]
      have h2 : (X / 256 ^ i) % 256 ^ b = Y % 256 ^ b := Nat.eq_of_beq_eq_true hb
      rw [Lib.index_first (i := i) (by simp; omega) ((occ_iff (by omega)).2 ⟨hia, h2⟩) hn]
      rfl

/-- the package variable holds some whole number -/
noncomputable def someInt (h : Heap) (g : Nat) (b : Bool) : Bool := match T.get .gone h (Nat.succ g) with
  | .glob g' n c => bc (bc (Nat.beq g g') (Nat.ble (Nat.succ g) 1000000) false) (bc (Nat.ble 1 n) (match T.get .no c 0 with
    | .ii .i64 => b
    | _ => false) false) false
  | _ => false

theorem someInt_ok {E : Env} {h : Heap} {nxt : Nat} {w : World} {g : Nat} {b : Bool} (he : someInt h g b = true) (hr : HR E h nxt w) : b = true ∧ ∃ m, w.cell? ⟨g, 0, none⟩ = some (.int .i64 m) := by
  unfold someInt at he
  split at he <;> try (cases he; done)
  rename_i g' n c hc
  obtain ⟨h1, he1⟩ := bc_and he
  clear he
  obtain ⟨h1, hbig⟩ := bc_and h1
  have hbig := Nat.le_of_ble_eq_true hbig
  obtain ⟨h2, he2⟩ := bc_and he1
  clear he1
  obtain rfl := Nat.eq_of_beq_eq_true h1
  have h2 := Nat.le_of_ble_eq_true h2
  split at he2 <;> try (cases he2; done)
  rename_i hg
  have he := he2
  have ho := hr.obj (Nat.succ g)
  rw [hc] at ho
  obtain ⟨L, arr, el, fr, _, hLB, hb, hsz, hcs⟩ := ho
  obtain ⟨hL, hB⟩ := hLB (by omega)
  rw [hB] at hcs hsz
  have := hcs 0 (by omega)
  rw [hg, Rv] at this
  obtain ⟨m, hm⟩ := this
  refine ⟨he, m, ?_⟩
  have := cell_of (off := 0) hb (by omega)
  rw [hm, hL] at this
  exact this

noncomputable def indexC (g : Nat) (res : Int → AV) : List AV → Heap → Nat → K → Bool := fun args h nxt k => match args with
  | [.s a x, .s b y] => someInt h g (bc (Nat.ble a 4294967280) (forceN (Nat.pow 256 b) fun m => forceN (Nat.mod y m) fun y' => scanK (Nat.sub (Nat.succ a) b) x 0 m y' fun r => k (res r) h nxt) false)
  | _ => false

theorem indexC_ok {P : Program} {f : FuncId} {g : Nat} {res : Int → AV} {RES : Int → Value} (hres : ∀ E r, Rv E (res r) (RES r))
    (hc : ∀ (s sub : ByteArray) (m : Int) (w : World), s.size < 4294967281 → w.cell? ⟨g, 0, none⟩ = some (.int .i64 m) → Calls P f #[.string s, .string sub] w fun e w' => e = .returned (RES (Lib.index s.data.toList sub.data.toList)) ∧ w' = w)
    (args : List AV) (ARGS : Array Value) (E : Env) (h : Heap) (nxt : Nat) (w : World) (k : K) (he : indexC g res args h nxt k = true) (ra : RvL E args ARGS.toList) (hr : HR E h nxt w) :
    Calls P f ARGS w fun e w' => ∃ V, e = .returned V ∧ Gives E h w k V w' := by
  unfold indexC at he
  split at he <;> try (cases he; done)
  rename_i a x b y
  obtain ⟨he, m, hm⟩ := someInt_ok he hr
  obtain ⟨hle, he⟩ := bc_and he
  have hle := Nat.le_of_ble_eq_true hle
  rw [forceN_eq, forceN_eq] at he
  obtain ⟨X, Y, hX, rx, ry⟩ := ra.two
  rw [Rv] at rx ry
  subst rx; subst ry
  have hA : ARGS = #[.string (str a x), .string (str b y)] := by apply Array.ext'; simpa using hX
  subst hA
  have key := scanK_ok (a := a) (X := x) (b := b) (Y := y) (k := fun r => k (res r) h nxt) (a + 1 - b) 0 (by omega) (fun j hj => by omega)
  have he : scanK (a + 1 - b) (x / 256 ^ 0) 0 (256 ^ b) (y % 256 ^ b) (fun r => k (res r) h nxt) = true := by rw [Nat.pow_zero, Nat.div_one]; exact he
  rw [key] at he
  refine (hc (str a x) (str b y) m w (by simp; omega) hm).mono ?_
  rintro e w' ⟨rfl, rfl⟩
  rw [str_toList, str_toList]
  exact ⟨_, rfl, _, _, _, _, hres E _, hr, Goes.refl _ _ _, he⟩

theorem holds_of_cell {w : World} {g : Nat} {m : Int} (h : w.cell? ⟨g, 0, none⟩ = some (.int .i64 m)) : HoldsG w [(g, [.ii .i64])] := by
  intro p hp
  obtain rfl := List.mem_singleton.1 hp
  unfold World.cell? at h
  simp only at h
  split at h <;> try (cases h; done)
  rename_i arr el fr hb
  refine ⟨arr, el, fr, hb, fun E => ?_⟩
  have : arr.toList.take 1 = [.int .i64 m] := by
    have h0 : arr.toList[0]? = some (.int .i64 m) := by simpa using h
    cases hl : arr.toList with
    | nil => rw [hl] at h0; cases h0
    | cons v l => rw [hl] at h0; simp at h0; simp [h0]
  show RvL E [.ii .i64] (arr.toList.take 1)
  rw [this]
  exact .cons (by rw [Rv]; exact ⟨m, rfl⟩) .nil
theorem someInt_holds {E : Env} {h : Heap} {nxt : Nat} {w : World} {g : Nat} {b : Bool} (he : someInt h g b = true) (hr : HR E h nxt w) : b = true ∧ HoldsG w [(g, [.ii .i64])] := by
  obtain ⟨h1, m, h2⟩ := someInt_ok he hr
  exact ⟨h1, holds_of_cell h2⟩

/-! ### A call of which it is known what it answers -/
noncomputable def sameA (a b : AV) : Bool := match a, b with
  | .s l x, .s m y => bc (Nat.beq l m) (Nat.beq x y) false
  | .i k m, .i k' n => bc (Nat.beq (ikc k) (ikc k')) (intEq m n) false
  | .f .f64 x, .f .f64 y => Nat.beq x y
  | .b x, .b y => bc x y (bc y false true)
  | _, _ => false
theorem sameA_ok {a b : AV} (h : sameA a b = true) : a = b := by
  unfold sameA at h
  split at h
  · obtain ⟨h1, h2⟩ := bc_and h
    rw [Nat.eq_of_beq_eq_true h1, Nat.eq_of_beq_eq_true h2]
  · obtain ⟨h1, h2⟩ := bc_and h
    rw [ikc_inj h1]
    rename_i m k' n
    have : m = n := by
      cases m <;> cases n <;> first | (rw [Nat.eq_of_beq_eq_true h2]) | cases h2
    rw [this]
  · rw [Nat.eq_of_beq_eq_true h]
  · rename_i x y
    cases x <;> cases y <;> first | rfl | cases h
  · cases h
noncomputable def sameL (a : List AV) : List AV → Bool := List.rec (motive := fun _ => List AV → Bool) (fun b => List.rec (motive := fun _ => Bool) true (fun _ _ _ => false) b) (fun v _ ih b => List.rec (motive := fun _ => Bool) false (fun u us _ => bc (sameA v u) (ih us) false) b) a
theorem sameL_ok : ∀ {a b : List AV}, sameL a b = true → a = b
  | [], [], _ => rfl
  | [], _ :: _, h => by cases h
  | _ :: _, [], h => by cases h
  | v :: a, u :: b, h => by
    have h : bc (sameA v u) (sameL a b) false = true := h
    obtain ⟨h1, h2⟩ := bc_and h
    rw [sameA_ok h1, sameL_ok h2]

/-- a value that speaks of no memory -/
noncomputable def flat1 (a : AV) : Bool := match a with
  | .s _ _ => true
  | .i _ _ => true
  | .f _ _ => true
  | .b _ => true
  | _ => false
noncomputable def flatL (l : List AV) : Bool := List.rec (motive := fun _ => Bool) true (fun v _ ih => bc (flat1 v) ih false) l
noncomputable def flat (a : AV) : Bool := match a with
  | .ag l => flatL l
  | .tu l => flatL l
  | a => flat1 a
noncomputable def sameV (a b : AV) : Bool := match a, b with
  | .ag l, .ag m => sameL l m
  | .tu l, .tu m => sameL l m
  | a, b => sameA a b
theorem sameV_ok {a b : AV} (h : sameV a b = true) : a = b := by
  unfold sameV at h
  split at h
  · rw [sameL_ok h]
  · rw [sameL_ok h]
  · exact sameA_ok h
theorem flat1_any {a : AV} (h : flat1 a = true) {E : Env} {V : Value} (r : Rv E a V) (E' : Env) : Rv E' a V := by
  unfold flat1 at h
  split at h <;> first | (rw [Rv] at *; exact r) | cases h
theorem flatL_any : ∀ {l : List AV}, flatL l = true → ∀ {E : Env} {vs : List Value}, RvL E l vs → ∀ E' : Env, RvL E' l vs
  | [], _, _, _, r, _ => by rw [RvL] at *; exact r
  | a :: l, h, _, _, r, E' => by
    obtain ⟨h1, h2⟩ := bc_and (b := flat1 a) (x := flatL l) h
    rw [RvL] at *
    obtain ⟨v, vs, e, r1, r2⟩ := r
    exact ⟨v, vs, e, flat1_any h1 r1 E', flatL_any h2 r2 E'⟩
theorem flat_any {a : AV} (h : flat a = true) {E : Env} {V : Value} (r : Rv E a V) (E' : Env) : Rv E' a V := by
  unfold flat at h
  split at h
  · rw [Rv] at *
    obtain ⟨vs, e, r⟩ := r
    exact ⟨vs, e, flatL_any h r E'⟩
  · rw [Rv] at *
    obtain ⟨vs, e, r⟩ := r
    exact ⟨vs, e, flatL_any h r E'⟩
  · exact flat1_any h r E'

/-- a closed run that hands back a value that speaks of no memory -/
theorem closedV {P : Program} {call : CallF} (hc : CallOK P call) {gl : List (Nat × List AV)} {n0 : Nat} {g : FuncId} {args : List AV} {ARGS : Array Value} {x : AV} (hn : gl.all (fun p => Nat.ble (p.1 + 2) n0) = true) (h1 : Nat.ble 1 n0 = true)
    (ra : ∀ E, RvL E args ARGS.toList) (hx : flat x = true) (he : call g args (startH gl n0) n0 (fun v _ _ => sameV v x) = true) (w : World) (hw : HoldsG w gl) :
    Calls P g ARGS w fun e w' => ∃ V, e = .returned V ∧ (∀ E, Rv E x V) ∧ RowKit.Below w.heap.size w w' := by
  have hr := startH_ok hn h1 hw
  refine (hc g args ARGS _ _ n0 w _ he (ra _) hr).mono ?_
  rintro e w' (⟨V, rfl, v, h', nxt', E', rv, _, gs, hk⟩ | ⟨V, rfl, v, h', nxt', E', rv, _, gs, hk⟩)
  case inr => have := sameV_ok hk; rw [← this] at hx; cases hx
  have := sameV_ok hk
  subst this
  exact ⟨V, rfl, fun E => flat_any hx rv E, below_of gs (startH_fp hr)⟩

abbrev Ct := List AV → Heap → Nat → K → Bool
/-- what is to be shown of a contract -/
def CtOK (P : Program) (g : FuncId) (C : Ct) : Prop := ∀ (args : List AV) (ARGS : Array Value) (E : Env) (h : Heap) (nxt : Nat) (w : World) (k : K),
  C args h nxt k = true → RvL E args ARGS.toList → HR E h nxt w → Calls P g ARGS w fun e w' => ∃ V, e = .returned V ∧ Gives E h w k V w'

noncomputable def orC (C D : Ct) : Ct := fun args h nxt k => bc (C args h nxt k) true (D args h nxt k)
theorem orC_ok {P : Program} {g : FuncId} {C D : Ct} (hC : CtOK P g C) (hD : CtOK P g D) : CtOK P g (orC C D) := by
  intro args ARGS E h nxt w k he ra hr
  rcases bc_or he with ⟨he, _⟩ | ⟨_, he⟩
  · exact hC args ARGS E h nxt w k he ra hr
  · exact hD args ARGS E h nxt w k he ra hr

/-- what is given, and what is answered -/
noncomputable def valC (ok : Heap → Bool → Bool) (args0 : List AV) (x : AV) : Ct := fun args h nxt k => bc (sameL args args0) (ok h (k x h nxt)) false
theorem valC_ok {P : Program} {g : FuncId} {ok : Heap → Bool → Bool} {args0 : List AV} {ARGS0 : Array Value} {x : AV} {G : World → Prop}
    (hok : ∀ {E : Env} {h : Heap} {nxt : Nat} {w : World} {b : Bool}, ok h b = true → HR E h nxt w → b = true ∧ G w) (hex : exL args0 = true) (ra0 : ∀ E, RvL E args0 ARGS0.toList)
    (hc : ∀ w, G w → Calls P g ARGS0 w fun e w' => ∃ V, e = .returned V ∧ (∀ E, Rv E x V) ∧ RowKit.Below w.heap.size w w') : CtOK P g (valC ok args0 x) := by
  intro args ARGS E h nxt w k he ra hr
  have he0 : bc (sameL args args0) (ok h (k x h nxt)) false = true := he
  obtain ⟨h1, he1⟩ := bc_and he0
  obtain rfl := sameL_ok h1
  obtain ⟨he2, hG⟩ := hok he1 hr
  have : ARGS = ARGS0 := by apply Array.ext'; exact RvL.exact (Env.le_refl E) args _ _ hex (ra0 E) ra
  subst this
  refine (hc w hG).mono ?_
  rintro e w' ⟨V, rfl, hV, hb⟩
  exact ⟨_, rfl, _, _, _, _, hV E, hr.below hb, Goes.below hb, he2⟩
end Go.Proofs.YtnkmiphcgjpgkaaGreatDoor.Vx
