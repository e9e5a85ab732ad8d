/- One operation of the evaluator, calls included. No condition. -/
import Derived.Test.YtbmekbpgoakkbaaGreatDoorVxW
import Derived.Test.YtbmekbpgoakkbaaGreatDoorVxM
set_option linter.unusedVariables false
set_option linter.unusedSimpArgs false
set_option linter.constructorNameAsVariable false
set_option linter.unusedSectionVars false
namespace Go.Proofs.YtbmekbpgoakkbaaGreatDoor.Vx
open Go

section
variable {E : Env} {h : Heap} {nxt : Nat} {w : World} {regs : Regs} {a : Act}

noncomputable def opdsP (regs : Regs) (ps : List (Nat × Operand)) : (List (Nat × AV) → Bool) → Bool :=
  List.rec (motive := fun _ => (List (Nat × AV) → Bool) → Bool) (fun k => k []) (fun p _ ih k => opd regs p.2 fun v => ih fun l => k ((p.1, v) :: l)) ps

theorem opdsP_ok (r : Rr E regs a.tmps) : ∀ (ps : List (Nat × Operand)) {k : List (Nat × AV) → Bool}, opdsP regs ps k = true → ∃ l, RvP E l (ps.map fun (i, x) => (i, a.eval x)) ∧ k l = true
  | [], _, h => ⟨[], rfl, h⟩
  | (i, x) :: ps, k, h => by
    obtain ⟨v, hv, h⟩ := opd_ok (x := x) (k := fun v => opdsP regs ps fun l => k ((i, v) :: l)) h r
    obtain ⟨l, hl, h⟩ := opdsP_ok r ps h
    exact ⟨(i, v) :: l, ⟨_, _, rfl, hv, hl⟩, h⟩

noncomputable def opdo (regs : Regs) (x : Option Operand) (k : Option AV → Bool) : Bool := match x with
  | none => k none
  | some x => opd regs x fun v => k (some v)

theorem opdo_ok (r : Rr E regs a.tmps) {x : Option Operand} {k : Option AV → Bool} (h : opdo regs x k = true) : ∃ v, Rvo E v (x.map a.eval) ∧ k v = true := by
  cases x with
  | none => exact ⟨none, rfl, h⟩
  | some x =>
    obtain ⟨v, hv, h⟩ := opd_ok (x := x) h r
    exact ⟨some v, ⟨_, rfl, hv⟩, h⟩

noncomputable def okNil (v : AV) (b : Bool) : Bool := match v with
  | .p _ _ => b
  | .pg _ _ => b
  | .ifc _ _ => b
  | .fn (.func _) _ _ => b
  | _ => false

noncomputable def evExtract (x : AV) (i : Nat) (k : AV → Bool) : Bool := match x with
  | .tu vs => (match List.drop i vs with
    | v :: _ => force v k
    | [] => false)
  | _ => false

theorem evExtract_ok {P : Program} {x : AV} {X : Value} {i : Nat} {k : AV → Bool} (he : evExtract x i k = true) (rx : Rv E x X) : ∃ v W, (Instr.extract X i).run P w = .ok W w ∧ Rv E v W ∧ k v = true := by
  unfold evExtract at he
  split at he <;> try (cases he; done)
  rename_i vs
  split at he <;> try (cases he; done)
  rename_i v rest hd
  rw [force_eq] at he
  rw [Rv] at rx
  obtain ⟨ws, rfl, r⟩ := rx
  have hg : vs[i]? = some v := by
    have := congrArg (fun l => l[0]?) hd
    simpa using this
  obtain ⟨V, hV, hr⟩ := r.get i v hg
  exact ⟨v, V, by simp [Instr.extract, hV], hr, he⟩

noncomputable def evRdBuiltin (P : Program) (b : Builtin) (ts : List TypeId) (args : List AV) (h : Heap) (k : AV → Bool) : Bool := match b with
  | .len => (match ts with
    | [t] => (match args with | [x] => evLen P t x h k | _ => false)
    | _ => false)
  | .cap => (match ts with
    | [t] => (match args with | [x] => evCap P t x k | _ => false)
    | _ => false)
  | .unsafeSliceData => (match args with | [x] => evSliceData x k | _ => false)
  | .min => (match args with | [x, y] => evMin P x y (factsOf h) k | _ => false)
  | .max => (match args with | [x, y] => pure2 P (fun X Y => Builtin.max_ #[] 0 #[X, Y]) x y k | _ => false)
  | _ => false

/-! ### An element whose place is an expression -/
noncomputable def isXv (v : AV) : Bool := match v with
  | .x _ _ => true
  | _ => false
/-- the symbol that an expression is, or is said to be -/
noncomputable def symI (e : SE) (fs : Facts) : Option Nat := match e with
  | .sy l => some l
  | e => List.rec (motive := fun _ => Option Nat) none (fun p _ ih => match p with
    | (.cmp .eql a (.sy l), true) => bif seEq e a then some l else ih
    | _ => ih) fs
theorem symI_ok {E : Env} {fs : Facts} (hf : Holds E fs) {e : SE} {l : Nat} {n : Int} (he : symI e fs = some l) (hn : den E e = some (.int .i64 n)) : den E (.sy l) = some (.int .i64 n) := by
  have key : ∀ gs : Facts, (∀ p ∈ gs, p ∈ fs) → List.rec (motive := fun _ => Option Nat) none (fun p _ ih => match p with
    | (.cmp .eql a (.sy l), true) => bif seEq e a then some l else ih
    | _ => ih) gs = some l → den E (.sy l) = some (.int .i64 n) := by
    intro gs
    induction gs with
    | nil => intro _ h; cases h
    | cons p gs ih =>
      intro hs h
      have ih := ih (fun q hq => hs q (List.mem_cons_of_mem _ hq))
      dsimp only at h
      split at h
      · rename_i a m
        cases hq : seEq e a with
        | false => rw [hq] at h; exact ih h
        | true =>
          rw [hq] at h
          cases h
          have e1 := seEq_ok hq
          subst e1
          have h2 := hf _ (hs _ List.mem_cons_self)
          simp only [den, hn] at h2 ⊢
          cases hl : E l with
          | none => rw [hl] at h2; cases h2
          | some L =>
            rw [hl] at h2
            simp only [Option.map_some] at h2 ⊢
            cases hv : symV L <;> rw [hv] at h2 <;> simp only [cmpV, Option.map_none] at h2 <;> try (cases h2; done)
            rename_i k m
            by_cases hk : IntKind.i64 = k
            · subst hk
              simp [cmpI] at h2
              rw [h2]
            · simp [hk] at h2
      · exact ih h
  cases e <;> first | exact key fs (fun _ h => h) he | (cases he; exact hn)
noncomputable def evIdxS (P : Program) (t : TypeId) (x i : AV) (h : Heap) (k : AV → Bool) : Bool := match i with
  | .x (.i .i64) e => match symI e (factsOf h) with
    | some l => match P.underlying t with
      | some (.slice el) => match P.info? el with
        | some inf => match x with
          | .sx S _ len _ => match T.get .gone h (Nat.succ l) with
            | .glob g _ _ => bc (bc (Nat.ble 4000000 g) (bc (Nat.beq (Nat.div (Nat.sub g 4000000) 100000) S) (bc (Nat.beq (Nat.mod (Nat.div (Nat.sub g 4000000) 100) 1000) l) (Nat.beq (Nat.mod g 100) inf.size) false) false) false)
                (bc (Nat.beq (decX (factsOf h) (.cmp .lss (.sy l) len)) 1) (k (.p (Nat.succ l) 0)) false) false
            | _ => false
          | .sz S len => match T.get .gone h (Nat.succ l) with
            | .glob g _ _ => bc (bc (Nat.ble 4000000 g) (bc (Nat.beq (Nat.div (Nat.sub g 4000000) 100000) S) (bc (Nat.beq (Nat.mod (Nat.div (Nat.sub g 4000000) 100) 1000) l) (Nat.beq (Nat.mod g 100) inf.size) false) false) false)
                (bc (Nat.beq (decX (factsOf h) (.cmp .lss (.sy l) len)) 1) (k (.p (Nat.succ l) 0)) false) false
            | _ => false
          | _ => false
        | none => false
      | _ => false
    | none => false
  | _ => false
theorem evIdxS_ok {P : Program} {t : TypeId} {x ix : AV} {X I : Value} {k : AV → Bool} (he : evIdxS P t x ix h k = true) (hx : Rv E x X) (hI : Rv E ix I) (hr : HR E h nxt w) :
    ∃ v W, (Instr.indexAt t X I).run P w = .ok W w ∧ Rv E v W ∧ k v = true := by
  unfold evIdxS at he
  split at he <;> try (cases he; done)
  rename_i e
  split at he <;> try (cases he; done)
  rename_i l hl
  split at he <;> try (cases he; done)
  rename_i el hu
  split at he <;> try (cases he; done)
  rename_i inf hi
  have main : ∀ (S : Nat) (len : SE) (L : Spot) (N C : Nat), E S = some L → den E len = some (.int .i64 N) → X = .slice (some ⟨L.blk, L.base, none⟩) N C →
      (match T.get .gone h (Nat.succ l) with
            | .glob g _ _ => bc (bc (Nat.ble 4000000 g) (bc (Nat.beq (Nat.div (Nat.sub g 4000000) 100000) S) (bc (Nat.beq (Nat.mod (Nat.div (Nat.sub g 4000000) 100) 1000) l) (Nat.beq (Nat.mod g 100) inf.size) false) false) false)
                (bc (Nat.beq (decX (factsOf h) (.cmp .lss (.sy l) len)) 1) (k (.p (Nat.succ l) 0)) false) false
            | _ => false) = true → ∃ v W, (Instr.indexAt t X I).run P w = .ok W w ∧ Rv E v W ∧ k v = true := by
   intro S len L N C eL dN hX he
   subst hX
   split at he <;> try (cases he; done)
   rename_i g m c hg
   obtain ⟨h1, he⟩ := bc_and he
   obtain ⟨h2, he⟩ := bc_and he
   obtain ⟨g1, h1⟩ := bc_and h1
   obtain ⟨g2, h1⟩ := bc_and h1
   obtain ⟨g3, g4⟩ := bc_and h1
   have g1 := Nat.le_of_ble_eq_true g1
   have g2 : (g - 4000000) / 100000 = S := Nat.eq_of_beq_eq_true g2
   have g3 : (g - 4000000) / 100 % 1000 = l := Nat.eq_of_beq_eq_true g3
   have g4 : g % 100 = inf.size := Nat.eq_of_beq_eq_true g4
   rw [Rv] at hI
   obtain ⟨dI, n, rfl, _, _⟩ := hI
   have dl := symI_ok (factsOf_ok hr) hl dI
   have ho := hr.obj (l + 1)
   rw [hg] at ho
   obtain ⟨L', arr, el', fr, eL', _, _, _, _, ht⟩ := ho
   obtain ⟨M, q, eM, dq, b1, b2⟩ := ht.2.2 ⟨g1, by omega⟩
   rw [g2] at eM
   rw [g3, dl] at dq
   cases dq
   rw [eL] at eM
   obtain rfl : L = M := Option.some.inj eM
   have hlt : q < N := by
     have d : den E (.cmp .lss (.sy l) len) = some (.bool (decide ((q : Int) < N))) := by
       simp only [den] at dl ⊢
       rw [dl, dN]; rfl
     have := (decX_ok (factsOf_ok hr) d).1 (Nat.eq_of_beq_eq_true h2)
     have := of_decide_eq_true this
     omega
   refine ⟨_, .pointer (some ⟨L.blk, L.base + q * inf.size, none⟩), ?_, ?_, he⟩
   · simp [Instr.indexAt, asIntOf, run_underlying' hu, hlt, run_sizeOf' hi, addr_add]
   · rw [Rv]
     refine ⟨L', eL', ?_⟩
     rw [b1, b2, g4]
     rfl
  split at he <;> try (cases he; done)
  · rename_i S low len cap
    rw [Rv] at hx
    obtain ⟨L, N, C, eL, dN, dC, _, hN, rfl⟩ := hx
    exact main S len L N C eL dN rfl he
  · rename_i S len
    rw [Rv] at hx
    obtain ⟨L, N, eL, dN, hN, hz, rfl⟩ := hx
    by_cases h0 : L.room = 0
    · exfalso
      have := hz h0
      subst this
      split at he <;> try (cases he; done)
      rename_i g m c hg
      obtain ⟨h1, he⟩ := bc_and he
      obtain ⟨h2, he⟩ := bc_and he
      obtain ⟨g1, h1⟩ := bc_and h1
      obtain ⟨g2, h1⟩ := bc_and h1
      obtain ⟨g3, g4⟩ := bc_and h1
      have g1 := Nat.le_of_ble_eq_true g1
      have g3 : (g - 4000000) / 100 % 1000 = l := Nat.eq_of_beq_eq_true g3
      rw [Rv] at hI
      obtain ⟨dI, n, rfl, _, _⟩ := hI
      have dl := symI_ok (factsOf_ok hr) hl dI
      have ho := hr.obj (l + 1)
      rw [hg] at ho
      obtain ⟨L', arr, el', fr, eL', _, _, _, _, ht⟩ := ho
      obtain ⟨M, q, eM, dq, b1, b2⟩ := ht.2.2 ⟨g1, by omega⟩
      rw [g3, dl] at dq
      cases dq
      have d : den E (.cmp .lss (.sy l) len) = some (.bool (decide ((q : Int) < (0 : Nat)))) := by
        simp only [den] at dl ⊢
        rw [dl, dN]; rfl
      have := (decX_ok (factsOf_ok hr) d).1 (Nat.eq_of_beq_eq_true h2)
      have := of_decide_eq_true this
      omega
    · exact main S len L N _ eL dN (if_neg h0) he
noncomputable def evIdx (P : Program) (t : TypeId) (x i : AV) (h : Heap) (k : AV → Bool) : Bool := bc (isXv i) (evIdxS P t x i h k) (evIndexAddr P t x i k)
theorem evIdx_ok {P : Program} {t : TypeId} {x ix : AV} {X I : Value} {k : AV → Bool} (he : evIdx P t x ix h k = true) (hx : Rv E x X) (hI : Rv E ix I) (hr : HR E h nxt w) :
    ∃ v W, (Instr.indexAt t X I).run P w = .ok W w ∧ Rv E v W ∧ k v = true := by
  rcases bc_or he with ⟨_, he⟩ | ⟨_, he⟩
  · exact evIdxS_ok he hx hI hr
  · exact evIndexAddr_ok he hx hI

/-- operations that leave memory as it is -/
noncomputable def evRd (P : Program) (op : Op) (regs : Regs) (h : Heap) (k : AV → Bool) : Bool := match op with
  | .move x => opd regs x k
  | .assign x => opd regs x k
  | .pick c x y => opd regs c fun c => pickK (factsOf h) c (opd regs x k) (opd regs y k)
  | .build t ps => opdsP regs ps.toList fun l => evBuild P t l k
  | .load t x => opd regs x fun x => evLoad P t x h k
  | .nilCheck x => opd regs x fun v => okNil v (k v)
  | .binOp op t x y _ => opd regs x fun a => opd regs y fun b => evBin P op t x y a b h k
  | .unOp op _ x => opd regs x fun a => evUn P op a k
  | .convert s d x => opd regs x fun a => evConvH P s d a h k
  | .makeInterface t x => opd regs x fun a => evMkIface P t a k
  | .makeFunc g first captured => opds regs first.toList fun l => opds regs captured.toList fun m => k (.fn g l m)
  | .slice t x lo hi mx => opd regs x fun x => opdo regs lo fun lo => opdo regs hi fun hi => opdo regs mx fun mx => evSliceH P t x lo hi mx h k
  | .fieldAddr s x f => opd regs x fun x => evFieldAddr P s x f k
  | .field t x f => opd regs x fun x => evField P t x f k
  | .indexAddr t x i => opd regs x fun x => opd regs i fun i => evIdx P t x i h k
  | .index t x i => opd regs x fun x => opd regs i fun i => evIndex P t x i k
  | .typeAssert x _ t ok => opd regs x fun x => evAssert P x t ok k
  | .extract x i => opd regs x fun x => evExtract x i k
  | .lookup t x i ok => opd regs x fun x => opd regs i fun i => evLookup P t x i ok h k
  | .call c => (match c.callee with
    | .builtin b => opds regs c.args.toList fun args => evRdBuiltin P b c.argTypes.toList args h k
    | _ => false)
  | _ => false

/-- operations that call no function -/
noncomputable def evPlain (P : Program) (op : Op) (regs : Regs) (h : Heap) (nxt : Nat) (k : K) : Bool := match op with
  | .alloc t => evAlloc P t h nxt k
  | .box t x => opd regs x fun v => evBox t v h nxt k
  | .buildSlice t n ps => opdsP regs ps.toList fun l => evBuildSlice P t n l h nxt k
  | .store t x y => opd regs x fun x => opd regs y fun y => evStore P t x y h fun h' => k .un h' nxt
  | .makeSlice t l c => opd regs l fun l => opd regs c fun c => evMakeSlice P t l c h nxt k
  | .makeMap _ none => evMakeMap h nxt k
  | .makeMap t (some x) => opd regs x fun v => evMakeMapN P t v h nxt k
  | .mapUpdate t m x y => opd regs m fun m => opd regs x fun x => opd regs y fun y => evMapPut P t m x y h fun h' => k .un h' nxt
  | .insert t m x y => opd regs m fun m => opd regs x fun x => opd regs y fun y => evMapPut P t m x y h fun h' => k .un h' nxt
  | op => evRd P op regs h fun v => k v h nxt

theorem Did.of_val {P : Program} {s : Sem Value} {k : K} (hr : HR E h nxt w) (hh : ∃ v W, s.run P w = .ok W w ∧ Rv E v W ∧ k v h nxt = true) : Did P (do pure (.value (← s))) E h w k := by
  obtain ⟨v, W, h1, h2, h3⟩ := hh
  exact Did.same hr (V := W) (by simp [h1]) h2 h3

theorem Did.of_made {P : Program} {s : Sem Value} {k : K} (hh : Made' P s E h w k) : Did P (do pure (.value (← s))) E h w k := by
  obtain ⟨v, h', nxt', E', w', V, h1, h2, h3, h4, h5⟩ := hh
  exact ⟨v, h', nxt', E', w', V, .inl (by simp [h1]), h2, h3, h4, h5⟩

theorem RvL.one {x : AV} {vs : List Value} (r : RvL E [x] vs) : ∃ X, vs = [X] ∧ Rv E x X := by
  rw [RvL] at r
  obtain ⟨X, vs', rfl, h1, h2⟩ := r
  rw [RvL] at h2; subst h2
  exact ⟨X, rfl, h1⟩
theorem RvL.two {x y : AV} {vs : List Value} (r : RvL E [x, y] vs) : ∃ X Y, vs = [X, Y] ∧ Rv E x X ∧ Rv E y Y := by
  rw [RvL] at r
  obtain ⟨X, vs', rfl, h1, h2⟩ := r
  obtain ⟨Y, rfl, h3⟩ := h2.one
  exact ⟨X, Y, rfl, h1, h3⟩

theorem evRdBuiltin_ok {P : Program} {b : Builtin} {ts : Array TypeId} {ty : TypeId} {consts : Array Bool} {args : List AV} {ARGS : Array Value} {k : AV → Bool} (he : evRdBuiltin P b ts.toList args h k = true)
    (ra : RvL E args ARGS.toList) (hr : HR E h nxt w) : ∃ v V, (builtin b ts ty consts ARGS).run P w = .ok (.value V) w ∧ Rv E v V ∧ k v = true := by
  have wrap : ∀ {s : Sem Value}, (∃ v V, s.run P w = .ok V w ∧ Rv E v V ∧ k v = true) → ∃ v V, (do pure (.value (← s)) : Sem Next).run P w = .ok (.value V) w ∧ Rv E v V ∧ k v = true := by
    rintro s ⟨v, V, h1, h2, h3⟩
    exact ⟨v, V, by simp [h1], h2, h3⟩
  unfold evRdBuiltin at he
  split at he
  · split at he <;> try (cases he; done)
    rename_i t hts
    split at he <;> try (cases he; done)
    obtain ⟨X, hX, rx⟩ := ra.one
    have e1 : ts = #[t] := by apply Array.ext'; simpa using hts
    have e2 : ARGS = #[X] := by apply Array.ext'; simpa using hX
    rw [e1, e2]
    exact wrap (evLen_ok he rx hr)
  · split at he <;> try (cases he; done)
    rename_i t hts
    split at he <;> try (cases he; done)
    obtain ⟨X, hX, rx⟩ := ra.one
    have e1 : ts = #[t] := by apply Array.ext'; simpa using hts
    have e2 : ARGS = #[X] := by apply Array.ext'; simpa using hX
    rw [e1, e2]
    exact wrap (s := Builtin.cap_ #[t] ty #[X]) (evCap_ok he rx)
  · split at he <;> try (cases he; done)
    obtain ⟨X, hX, rx⟩ := ra.one
    have e2 : ARGS = #[X] := by apply Array.ext'; simpa using hX
    rw [e2]
    exact wrap (s := Builtin.unsafeSliceData_ ts ty #[X]) (evSliceData_ok he rx)
  · split at he <;> try (cases he; done)
    obtain ⟨X, Y, hX, rx, ry⟩ := ra.two
    have e2 : ARGS = #[X, Y] := by apply Array.ext'; simpa using hX
    rw [e2]
    exact wrap (s := Builtin.min_ ts ty #[X, Y]) (evMin_ok he rx ry hr)
  · split at he <;> try (cases he; done)
    obtain ⟨X, Y, hX, rx, ry⟩ := ra.two
    have e2 : ARGS = #[X, Y] := by apply Array.ext'; simpa using hX
    rw [e2]
    exact wrap (s := Builtin.max_ ts ty #[X, Y]) (pure2_ok he rx ry)
  · cases he

/-- the operation yields a value, and leaves memory as it is -/
def Rd (P : Program) (s : Sem Next) (E : Env) (w : World) (k : AV → Bool) : Prop :=
  ∃ v V w', s.run P w = .ok (.value V) w' ∧ (w' = w ∨ (v = .nan ∧ w' = { w with drawn := w.drawn + 1 })) ∧ Rv E v V ∧ k v = true

theorem Rd.same {P : Program} {s : Sem Next} {k : AV → Bool} {v : AV} {V : Value} (e : s.run P w = .ok (.value V) w) (r : Rv E v V) (hk : k v = true) : Rd P s E w k := ⟨v, V, w, e, .inl rfl, r, hk⟩
theorem Rd.of_val {P : Program} {s : Sem Value} {k : AV → Bool} (hh : ∃ v W, s.run P w = .ok W w ∧ Rv E v W ∧ k v = true) : Rd P (do pure (.value (← s))) E w k := by
  obtain ⟨v, W, h1, h2, h3⟩ := hh
  exact Rd.same (V := W) (by simp [h1]) h2 h3

theorem Did.of_rd {P : Program} {s : Sem Next} {k : K} (hr : HR E h nxt w) (hh : Rd P s E w fun v => k v h nxt) : Did P s E h w k := by
  obtain ⟨v, V, w', h1, h2, h3, h4⟩ := hh
  rcases h2 with rfl | ⟨_, rfl⟩
  · exact ⟨v, h, nxt, E, w', V, .inl h1, h3, hr, Goes.refl _ _ _, h4⟩
  · exact ⟨v, h, nxt, E, _, V, .inl h1, h3, hr.drew, Goes.drew _ _ _, h4⟩

set_option maxHeartbeats 1000000 in
theorem evRd_ok {P : Program} {o : Oper} {k : AV → Bool} (he : evRd P o.op regs h k = true) (r : Rr E regs a.tmps) (hr : HR E h nxt w) : Rd P (execOp a.eval o) E w k := by
  unfold execOp
  unfold evRd at he
  split at he <;> rename_i hop <;> simp only [hop]
  · rename_i x
    obtain ⟨v, hv, he⟩ := opd_ok he r
    exact Rd.same (V := a.eval x) rfl hv he
  · rename_i x
    obtain ⟨v, hv, he⟩ := opd_ok he r
    exact Rd.same (V := a.eval x) rfl hv he
  · rename_i c x y
    obtain ⟨cv, hc, he1⟩ := opd_ok he r
    clear he
    rcases pickK_ok he1 hc (factsOf_ok hr) with ⟨hc, he⟩ | ⟨hc, he⟩
    · obtain ⟨v, hv, he⟩ := opd_ok he r
      exact Rd.same (V := a.eval x) (by simp [hc, asBool]) hv he
    · obtain ⟨v, hv, he⟩ := opd_ok he r
      exact Rd.same (V := a.eval y) (by simp [hc, asBool]) hv he
  · rename_i t ps
    obtain ⟨l, hl, he⟩ := opdsP_ok r _ he
    exact Rd.of_val (evBuild_ok he (by simpa using hl))
  · obtain ⟨v, hv, he⟩ := opd_ok he r
    exact Rd.of_val (evLoad_ok he hv hr)
  · rename_i x
    obtain ⟨v, hv, he⟩ := opd_ok he r
    have hv' := hv
    unfold okNil at he
    split at he <;> try (cases he; done)
    · rw [Rv] at hv'
      obtain ⟨L, _, e⟩ := hv'
      exact Rd.same (V := a.eval x) (by rw [e]; rfl) hv he
    · rw [Rv] at hv'
      exact Rd.same (V := a.eval x) (by rw [hv']; rfl) hv he
    · rw [Rv] at hv'
      obtain ⟨W, e, _⟩ := hv'
      exact Rd.same (V := a.eval x) (by rw [e]; rfl) hv he
    · rw [Rv] at hv'
      obtain ⟨_, _, e, _⟩ := hv'
      exact Rd.same (V := a.eval x) (by rw [e]; rfl) hv he
  · rename_i op t x y yt
    obtain ⟨v, hv, he⟩ := opd_ok he r
    obtain ⟨u, hu, he⟩ := opd_ok he r
    obtain ⟨z, W, w', h1, h2, h3, h4⟩ := evBin_ok he hv hu hr
    have hrun : (do pure (.value (← opRun P op t x y (a.eval x) (a.eval y))) : Sem Next).run P w = .ok (.value W) w' := by simp [h1]
    exact ⟨z, W, w', hrun, h2, h3, h4⟩
  · obtain ⟨v, hv, he⟩ := opd_ok he r
    exact Rd.of_val (evUn_ok he hv)
  · obtain ⟨v, hv, he⟩ := opd_ok he r
    exact Rd.of_val (evConvH_ok he hv hr)
  · obtain ⟨v, hv, he⟩ := opd_ok he r
    exact Rd.of_val (evMkIface_ok he hv)
  · rename_i g first captured
    obtain ⟨l, hl, he⟩ := opds_ok r _ he
    obtain ⟨m, hm, he⟩ := opds_ok r _ he
    refine Rd.same (V := .func g (first.map a.eval) (captured.map a.eval)) (by simp [Instr.makeFunc]) ?_ he
    rw [Rv]
    refine ⟨_, _, ?_, hl, hm⟩
    have e1 : first.map a.eval = (first.toList.map a.eval).toArray := by apply Array.ext'; simp
    have e2 : captured.map a.eval = (captured.toList.map a.eval).toArray := by apply Array.ext'; simp
    rw [e1, e2]
  · obtain ⟨v, hv, he⟩ := opd_ok he r
    obtain ⟨lo, hlo, he⟩ := opdo_ok r he
    obtain ⟨hi, hhi, he⟩ := opdo_ok r he
    obtain ⟨mx, hmx, he⟩ := opdo_ok r he
    exact Rd.of_val (evSliceH_ok he hv hlo hhi hmx hr)
  · obtain ⟨v, hv, he⟩ := opd_ok he r
    exact Rd.of_val (evFieldAddr_ok he hv)
  · obtain ⟨v, hv, he⟩ := opd_ok he r
    exact Rd.of_val (evField_ok he hv)
  · obtain ⟨v, hv, he⟩ := opd_ok he r
    obtain ⟨u, hu, he⟩ := opd_ok he r
    exact Rd.of_val (evIdx_ok he hv hu hr)
  · obtain ⟨v, hv, he⟩ := opd_ok he r
    obtain ⟨u, hu, he⟩ := opd_ok he r
    exact Rd.of_val (evIndex_ok he hv hu)
  · obtain ⟨v, hv, he⟩ := opd_ok he r
    exact Rd.of_val (evAssert_ok he hv)
  · obtain ⟨v, hv, he⟩ := opd_ok he r
    exact Rd.of_val (evExtract_ok he hv)
  · obtain ⟨v, hv, he⟩ := opd_ok he r
    obtain ⟨u, hu, he⟩ := opd_ok he r
    exact Rd.of_val (evLookup_ok he hv hu hr)
  · rename_i c
    split at he <;> try (cases he; done)
    rename_i b hc
    obtain ⟨args, ra, he⟩ := opds_ok r _ he
    have ra : RvL E args (c.args.map a.eval).toList := by simpa using ra
    obtain ⟨v, V, h1, h2, h3⟩ := evRdBuiltin_ok (ty := o.type) (consts := c.args.map fun | .const _ => true | _ => false) he ra hr
    refine Rd.same (V := V) ?_ h2 h3
    rw [← h1]
    simp only [resolve, hc]
    rfl
  · cases he

theorem evPlain_ok {P : Program} {o : Oper} {k : K} (he : evPlain P o.op regs h nxt k = true) (r : Rr E regs a.tmps) (hr : HR E h nxt w) : Did P (execOp a.eval o) E h w k := by
  unfold evPlain at he
  split at he
  · rename_i hop
    unfold execOp; simp only [hop]
    exact Did.of_made (evAlloc_ok he hr)
  · rename_i hop
    unfold execOp; simp only [hop]
    obtain ⟨v, hv, he⟩ := opd_ok he r
    exact Did.of_made (evBox_ok he hv hr)
  · rename_i t n ps hop
    unfold execOp; simp only [hop]
    obtain ⟨l, hl, he⟩ := opdsP_ok r _ he
    exact Did.of_made (evBuildSlice_ok he (by simpa using hl) hr)
  · rename_i hop
    unfold execOp; simp only [hop]
    obtain ⟨v, hv, he⟩ := opd_ok he r
    obtain ⟨u, hu, he⟩ := opd_ok he r
    obtain ⟨h', w', h1, h2, h3, h4⟩ := evStore_ok he hv hu hr
    exact ⟨.un, h', nxt, E, w', undef, .inr ⟨by simp [h1], rfl⟩, by rw [Rv], h2, h3, h4⟩
  · rename_i hop
    unfold execOp; simp only [hop]
    obtain ⟨v, hv, he⟩ := opd_ok he r
    obtain ⟨u, hu, he⟩ := opd_ok he r
    exact Did.of_made (evMakeSlice_ok he hv hu hr)
  · rename_i hop
    unfold execOp; simp only [hop]
    exact Did.of_made (evMakeMap_ok he hr)
  · rename_i hop
    unfold execOp; simp only [hop]
    obtain ⟨v, hv, he⟩ := opd_ok he r
    exact Did.of_made (evMakeMapN_ok he hv hr)
  · rename_i hop
    unfold execOp; simp only [hop]
    obtain ⟨m, hm, he⟩ := opd_ok he r
    obtain ⟨v, hv, he⟩ := opd_ok he r
    obtain ⟨u, hu, he⟩ := opd_ok he r
    obtain ⟨h', w', h1, h2, h3, h4⟩ := evMapPut_ok he hm hv hu hr
    exact ⟨.un, h', nxt, E, w', undef, .inr ⟨by simp [h1], rfl⟩, by rw [Rv], h2, h3, h4⟩
  · rename_i hop
    unfold execOp; simp only [hop]
    obtain ⟨m, hm, he⟩ := opd_ok he r
    obtain ⟨v, hv, he⟩ := opd_ok he r
    obtain ⟨u, hu, he⟩ := opd_ok he r
    obtain ⟨h', w', h1, h2, h3, h4⟩ := evMapPut_ok he hm hv hu hr
    exact ⟨.un, h', nxt, E, w', undef, .inr ⟨by simp [h1], rfl⟩, by rw [Rv], h2, h3, h4⟩
  · exact Did.of_rd hr (evRd_ok he r hr)

/-! ### Calls -/
abbrev CallF := FuncId → List AV → Heap → Nat → K → Bool
/-- functions without a body -/
abbrev Exts := FuncId → Option (List AV → Heap → Nat → K → Bool)

/-! ### A predicate of a law's own, kept where nothing of its own is turned -/
class JC where
  J : Env → Heap → World → Prop
  goes : ∀ {E E' : Env} {h h' : Heap} {n n' : Nat} {w w' : World}, HR E h n w → J E h w → Goes E h w E' h' w' → HR E' h' n' w' → J E' h' w'
  flo : ∀ {E : Env} {h : Heap} {n : Nat} {w : World} {a : AO}, HR E h n w → a.live = false → J E h w → J E (T.set a h 0) w
instance (priority := low) JC.triv : JC := ⟨fun _ _ _ => True, fun _ _ _ _ => trivial, fun _ _ _ => trivial⟩

/-- what a function hands back, and what it leaves -/
def Gives (E : Env) (h : Heap) (w : World) (k : K) (V : Value) (w' : World) : Prop :=
  ∃ v h' nxt' E', Rv E' v V ∧ HR E' h' nxt' w' ∧ Goes E h w E' h' w' ∧ k v h' nxt' = true

/-- how a call ends: with a value, or with a panic -/
def Ends (E : Env) (h : Heap) (w : World) (k : K) (e : Ending) (w' : World) : Prop :=
  (∃ V, e = .returned V ∧ Gives E h w k V w') ∨ ∃ V, e = .panicked [{ v := V, recovered := false }] ∧ Gives E h w (fun v => k (.pk v)) V w'

noncomputable def pkK (k kp : K) : K := fun v h nxt => match v with
  | .pk x => kp x h nxt
  | v => k v h nxt
theorem pkK_val {k kp : K} {v : AV} {h : Heap} {nxt : Nat} {E : Env} {V : Value} (hk : pkK k kp v h nxt = true) (r : Rv E v V) : k v h nxt = true := by
  cases v <;> first | exact hk | (simp [Rv] at r; done)
theorem Gives.of_pkK {E : Env} {h : Heap} {w : World} {k kp : K} {V : Value} {w' : World} (g : Gives E h w (pkK k kp) V w') : Gives E h w k V w' := by
  obtain ⟨v, h', nxt', E', r, h1, h2, h3⟩ := g
  exact ⟨v, h', nxt', E', r, h1, h2, pkK_val h3 r⟩

def CallOK [JC] (P : Program) (call : CallF) : Prop := ∀ (g : FuncId) (args : List AV) (ARGS : Array Value) (E : Env) (h : Heap) (nxt : Nat) (w : World) (k : K),
  call g args h nxt k = true → RvL E args ARGS.toList → HR E h nxt w → JC.J E h w → Calls P g ARGS w (Ends E h w k)

def ExtOK (P : Program) (ext : Exts) : Prop := ∀ (g : FuncId) (C : List AV → Heap → Nat → K → Bool), ext g = some C → ∀ (args : List AV) (ARGS : Array Value) (E : Env) (h : Heap) (nxt : Nat) (w : World) (k : K),
  C args h nxt k = true → RvL E args ARGS.toList → HR E h nxt w → ∃ V w', (callFunc g ARGS).run P w = .ok (.value V) w' ∧ Gives E h w k V w'

/-- what is to be shown of one operation -/
def OpOK (P : Program) (o : Oper) (a : Act) (E : Env) (h : Heap) (w : World) (k kp : K) : Prop :=
  ∀ (Q : Exit → Act → World → Prop), (∀ V w', Gives E h w kp V w' → Q (.panic [{ v := V, recovered := false }]) a w') → o.wp P a w (fun a' w' => ∃ V, a' = a.put o.dst V ∧ Gives E h w k V w') Q

theorem OpOK.of_did {P : Program} {o : Oper} {k kp : K} (hh : Did P (execOp a.eval o) E h w k) : OpOK P o a E h w k kp := by
  obtain ⟨v, h', nxt', E', w', V, h1, h2, h3, h4, h5⟩ := hh
  intro Q _
  unfold Oper.wp
  rcases h1 with h1 | ⟨h1, rfl⟩
  · rw [h1]; exact ⟨V, rfl, v, h', nxt', E', h2, h3, h4, h5⟩
  · rw [h1]; exact ⟨undef, rfl, v, h', nxt', E', h2, h3, h4, h5⟩

noncomputable def evFn (P : Program) (call : CallF) (ext : Exts) (kp : K) (g : FuncId) (args : List AV) (h : Heap) (nxt : Nat) (k : K) : Bool := match P.funcs[g]? with
  | some fn => (match fn.body with
    | some _ => bc (fn.name == "runtime.NumGoroutine") false (call g args h nxt (pkK k kp))
    | none => (match ext g with
      | some C => C args h nxt k
      | none => false))
  | none => false

theorem evFn_ok [JC] {P : Program} {call : CallF} {ext : Exts} (hcall : CallOK P call) (hext : ExtOK P ext) {o : Oper} {g : FuncId} {args : List AV} {ARGS : Array Value} {k kp : K} (he : evFn P call ext kp g args h nxt k = true)
    (ra : RvL E args ARGS.toList) (hr : HR E h nxt w) (hj : JC.J E h w) (hrun : (execOp a.eval o).run P w = (callFunc g ARGS).run P w) : OpOK P o a E h w k kp := by
  unfold evFn at he
  split at he <;> try (cases he; done)
  rename_i fn hfn
  split at he
  · rename_i c hb
    rcases bc_or he with ⟨_, hh⟩ | ⟨hn, he⟩
    · cases hh
    intro Q hp
    unfold Oper.wp
    have hn' : ¬ (fn.name = "runtime.NumGoroutine") := by
      intro e; rw [e] at hn; simp at hn
    have : (callFunc g ARGS).run P w = .ok (.enter g ARGS) w := by
      simp [callFunc, hfn, hb, hn']
    rw [hrun, this]
    simp only [Oper.upon]
    refine (hcall g args ARGS E h nxt w _ he ra hr hj).mono ?_
    rintro e w' (⟨V, rfl, hg⟩ | ⟨V, rfl, hg⟩)
    · exact ⟨V, rfl, hg.of_pkK⟩
    · exact hp V w' hg
  · split at he <;> try (cases he; done)
    rename_i C hf
    obtain ⟨V, w', h1, h2⟩ := hext g C hf args ARGS E h nxt w k he ra hr
    intro Q _
    unfold Oper.wp
    rw [hrun, h1]
    exact ⟨V, rfl, h2⟩

noncomputable def evInvoke (P : Program) (call : CallF) (ext : Exts) (kp : K) (recv : AV) (name : String) (args : List AV) (h : Heap) (nxt : Nat) (k : K) : Bool := match recv with
  | .ifc t v => (match P.info? t with
    | some i => (match i.methods.find? (·.name == name) with
      | some m => (match m.func with
        | some (f, ptr) => (match P.underlying t with
          | some d => bc m.path.isEmpty (bc (match d with | .pointer _ => ptr | _ => !ptr) (evFn P call ext kp f (v :: args) h nxt k) false) false
          | none => false)
        | none => false)
      | none => false)
    | none => false)
  | _ => false

theorem evInvoke_ok [JC] {P : Program} {call : CallF} {ext : Exts} (hcall : CallOK P call) (hext : ExtOK P ext) {o : Oper} {recv : AV} {RECV : Value} {name : String} {args : List AV} {ARGS : Array Value} {k kp : K} (he : evInvoke P call ext kp recv name args h nxt k = true)
    (rr : Rv E recv RECV) (ra : RvL E args ARGS.toList) (hr : HR E h nxt w) (hj : JC.J E h w) (hrun : (execOp a.eval o).run P w = (callMethod RECV name ARGS).run P w) : OpOK P o a E h w k kp := by
  unfold evInvoke at he
  split at he <;> try (cases he; done)
  rename_i t v
  rw [Rv] at rr
  obtain ⟨V, rfl, rv⟩ := rr
  split at he <;> try (cases he; done)
  rename_i i hi
  split at he <;> try (cases he; done)
  rename_i m hm
  split at he <;> try (cases he; done)
  rename_i f ptr hf
  split at he <;> try (cases he; done)
  rename_i d hu
  obtain ⟨hp, he⟩ := bc_and he
  obtain ⟨hd, he⟩ := bc_and he
  have hp : m.path = #[] := by simpa using hp
  have hrecv : (receiverAt t (.val V) ptr (if m.path.isEmpty = true then some ((name.splitOn ".").getLastD name) else none)).run P w = .ok V w := by
    simp only [receiverAt, Sem.run_bind, run_underlying' hu, Result.andThen_ok]
    cases d <;> cases ptr <;> simp at hd <;> simp [Place.get]
  have hmeth : (method (P.types.size + Made.depth) t V name).run P w = .ok (f, V) w := by
    obtain ⟨dd, e⟩ : ∃ dd, P.types.size + Made.depth = dd + 1 := ⟨P.types.size + 99, rfl⟩
    rw [e]
    simp only [method, Sem.run_bind, run_typeInfo' hi, Result.andThen_ok, hm, Sem.run_pure, hp, follow, hf]
    rw [hp] at hrecv
    simp only [hrecv, Result.andThen_ok]
  refine evFn_ok hcall hext (ARGS := #[V] ++ ARGS) he ?_ hr hj ?_
  · simpa using RvL.cons rv ra
  · rw [hrun]
    show ((program >>= fun p => method (p.types.size + Made.depth) t V name >>= fun x => callFunc x.1 (#[x.2] ++ ARGS)) : Sem Next).run P w = _
    rw [Sem.run_bind, run_program]
    show ((method (P.types.size + Made.depth) t V name >>= fun x => callFunc x.1 (#[x.2] ++ ARGS)) : Sem Next).run P w = _
    rw [Sem.run_bind, hmeth]
    rfl

noncomputable def evBuiltin (P : Program) (b : Builtin) (ts : List TypeId) (args : List AV) (h : Heap) (nxt : Nat) (k : K) : Bool := match b with
  | .append => (match ts with
    | [st, xt] => (match args with | [s, x] => evAppend P st xt s x h nxt k | _ => false)
    | _ => false)
  | .copy => (match ts with
    | [dt, xt] => (match args with | [d, x] => evCopy P dt xt d x h nxt k | _ => false)
    | _ => false)
  | .unsafeString => (match ts with
    | [pt, _] => (match args with | [x, n] => evUnsafeString P pt x n h nxt k | _ => false)
    | _ => false)
  | .clear => (match ts with
    | [t] => (match args with | [x] => evClear P t x h nxt k | _ => false)
    | _ => false)
  | b => evRdBuiltin P b ts args h fun v => k v h nxt

theorem evBuiltin_ok {P : Program} {b : Builtin} {ts : Array TypeId} {ty : TypeId} {consts : Array Bool} {args : List AV} {ARGS : Array Value} {k : K} (he : evBuiltin P b ts.toList args h nxt k = true)
    (ra : RvL E args ARGS.toList) (hr : HR E h nxt w) : Did P (builtin b ts ty consts ARGS) E h w k := by
  unfold evBuiltin at he
  split at he
  · split at he <;> try (cases he; done)
    rename_i st xt hts
    split at he <;> try (cases he; done)
    obtain ⟨X, Y, hX, rx, ry⟩ := ra.two
    have e1 : ts = #[st, xt] := by apply Array.ext'; simpa using hts
    have e2 : ARGS = #[X, Y] := by apply Array.ext'; simpa using hX
    rw [e1, e2]
    exact Did.of_made (evAppend_ok he rx ry hr)
  · split at he <;> try (cases he; done)
    rename_i st xt hts
    split at he <;> try (cases he; done)
    obtain ⟨X, Y, hX, rx, ry⟩ := ra.two
    have e1 : ts = #[st, xt] := by apply Array.ext'; simpa using hts
    have e2 : ARGS = #[X, Y] := by apply Array.ext'; simpa using hX
    rw [e1, e2]
    exact Did.of_made (evCopy_ok he rx ry hr)
  · split at he <;> try (cases he; done)
    rename_i st xt hts
    split at he <;> try (cases he; done)
    obtain ⟨X, Y, hX, rx, ry⟩ := ra.two
    have e1 : ts = #[st, xt] := by apply Array.ext'; simpa using hts
    have e2 : ARGS = #[X, Y] := by apply Array.ext'; simpa using hX
    rw [e1, e2]
    exact Did.of_made (evUnsafeString_ok he rx ry hr)
  · split at he <;> try (cases he; done)
    rename_i t hts
    split at he <;> try (cases he; done)
    obtain ⟨X, hX, rx⟩ := ra.one
    have e1 : ts = #[t] := by apply Array.ext'; simpa using hts
    have e2 : ARGS = #[X] := by apply Array.ext'; simpa using hX
    rw [e1, e2]
    exact Did.of_made (evClear_ok he rx hr)
  · obtain ⟨v, V, h1, h2, h3⟩ := evRdBuiltin_ok (ty := ty) (consts := consts) he ra hr
    exact Did.same hr h1 h2 h3

noncomputable def evCallOp (P : Program) (call : CallF) (ext : Exts) (kp : K) (c : Call) (regs : Regs) (h : Heap) (nxt : Nat) (k : K) : Bool :=
  opds regs c.args.toList fun args => match c.callee with
    | .builtin b => evBuiltin P b c.argTypes.toList args h nxt k
    | .invoke recv name => opd regs recv fun r => evInvoke P call ext kp r name args h nxt k
    | .value f => opd regs f fun f => match f with
      | .fn (.func g) first captured => forceL (first ++ (args ++ captured)) fun l => evFn P call ext kp g l h nxt k
      | .fn (.method name) (recv :: first) _ => forceL (first ++ args) fun l => evInvoke P call ext kp recv name l h nxt k
      | _ => false

noncomputable def evPanic (v : AV) (h : Heap) (nxt : Nat) (kp : K) : Bool := match v with
  | .ifc t u => kp (.ifc t u) h nxt
  | _ => false

noncomputable def evOp (P : Program) (call : CallF) (ext : Exts) (kp : K) (op : Op) (regs : Regs) (h : Heap) (nxt : Nat) (k : K) : Bool := match op with
  | .call c => evCallOp P call ext kp c regs h nxt k
  | .panic x => opd regs x fun v => evPanic v h nxt kp
  | op => evPlain P op regs h nxt k

theorem evOp_ok [JC] {P : Program} {call : CallF} {ext : Exts} (hcall : CallOK P call) (hext : ExtOK P ext) {o : Oper} {k kp : K} (he : evOp P call ext kp o.op regs h nxt k = true) (r : Rr E regs a.tmps) (hr : HR E h nxt w) (hj : JC.J E h w) :
    OpOK P o a E h w k kp := by
  unfold evOp at he
  split at he
  · rename_i c hop
    unfold evCallOp at he
    obtain ⟨args, ra, he⟩ := opds_ok r _ he
    have ra : RvL E args (c.args.map a.eval).toList := by simpa using ra
    split at he
    · rename_i b hc
      refine OpOK.of_did ?_
      have hrun : execOp a.eval o = builtin b c.argTypes o.type (c.args.map fun | .const _ => true | _ => false) (c.args.map a.eval) := by
        simp only [execOp, hop, resolve, hc]
        rfl
      rw [hrun]
      exact evBuiltin_ok he ra hr
    · rename_i recv name hc
      obtain ⟨rv, hrv, he⟩ := opd_ok he r
      refine evInvoke_ok hcall hext he hrv ra hr hj ?_
      have e1 : (#[a.eval recv] ++ c.args.map a.eval)[0]? = some (a.eval recv) := by
        rw [Array.getElem?_append_left (by simp)]; rfl
      have e2 : (#[a.eval recv] ++ c.args.map a.eval).extract 1 (#[a.eval recv] ++ c.args.map a.eval).size = c.args.map a.eval := by
        apply Array.ext'
        simp only [Array.toList_extract, Array.toList_append, Array.toList_map, List.extract_eq_take_drop]
        simp
        exact List.take_of_length_le (by simp)
      have e3 : execOp a.eval o = invoke (.fn (.method name) #[]) (#[a.eval recv] ++ c.args.map a.eval) := by
        simp only [execOp, hop, resolve, hc]
        rfl
      rw [e3]
      simp only [invoke, e1, e2]
    · rename_i f hc
      obtain ⟨fv, hfv, he⟩ := opd_ok he r
      split at he <;> try (cases he; done)
      · rename_i g first captured
        rw [Rv] at hfv
        obtain ⟨vs, ws, hf, h1, h2⟩ := hfv
        rw [forceL_eq] at he
        refine evFn_ok hcall hext (ARGS := vs.toArray ++ c.args.map a.eval ++ ws.toArray) he ?_ hr hj ?_
        · have := h1.append (ra.append h2)
          simpa [Array.toList_append] using this
        · simp [execOp, hop, resolve, hc, hf, Deferred.ofValue, invoke]
      · rename_i name recv first captured
        rw [Rv] at hfv
        obtain ⟨vs, ws, hf, h1, h2⟩ := hfv
        rw [RvL] at h1
        obtain ⟨V, vs', rfl, rv, h1⟩ := h1
        rw [forceL_eq] at he
        refine evInvoke_ok hcall hext (ARGS := vs'.toArray ++ c.args.map a.eval) he rv ?_ hr hj ?_
        · have := h1.append ra
          simpa [Array.toList_append] using this
        · have e3 : execOp a.eval o = invoke (.fn (.method name) ws.toArray) ((V :: vs').toArray ++ c.args.map a.eval) := by
            simp only [execOp, hop, resolve, hc, hf, Deferred.ofValue]
            rfl
          have e1 : ((V :: vs').toArray ++ c.args.map a.eval)[0]? = some V := by
            rw [Array.getElem?_append_left (by simp)]; rfl
          have e2 : ((V :: vs').toArray ++ c.args.map a.eval).extract 1 ((V :: vs').toArray ++ c.args.map a.eval).size = vs'.toArray ++ c.args.map a.eval := by
            apply Array.ext'
            simp only [Array.toList_extract, Array.toList_append, Array.toList_map, List.extract_eq_take_drop]
            simp
            exact List.take_of_length_le (by simp)
          rw [e3]
          simp only [invoke, e1, e2]
  · rename_i x hop
    obtain ⟨v, hv, he⟩ := opd_ok he r
    unfold evPanic at he
    split at he <;> try (cases he; done)
    rename_i t u
    intro Q hp
    have hv' := hv
    rw [Rv] at hv'
    obtain ⟨U, e, _⟩ := hv'
    have hrun : (execOp a.eval o).run P w = .halt (.panic (a.eval x)) w := by
      simp only [execOp, hop, e]
      rfl
    unfold Oper.wp
    rw [hrun, Oper.upon_panic]
    exact hp _ _ ⟨_, h, nxt, E, hv, hr, Goes.refl _ _ _, he⟩
  · exact OpOK.of_did (evPlain_ok he r hr)
end
end Go.Proofs.YtbmekbpgoakkbaaGreatDoor.Vx
