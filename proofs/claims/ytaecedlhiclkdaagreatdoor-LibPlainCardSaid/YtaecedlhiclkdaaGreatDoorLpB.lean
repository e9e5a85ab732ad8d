/- LibPlain: what is taken by contract. No condition. -/
import Derived.Test.YtaecedlhiclkdaaGreatDoorCon
import Derived.Test.YtaecedlhiclkdaaGreatDoorLpRead
import Derived.Test.YtaecedlhiclkdaaGreatDoorLpFmt
import Derived.Test.YtaecedlhiclkdaaGreatDoorVxZs
import Derived.Test.YtaecedlhiclkdaaGreatDoorLpN
import Derived.WalkKit
import Derived.Handy
namespace Go.Proofs.YtaecedlhiclkdaaGreatDoor.Lp
open Go Vx Con RowKit
set_option linter.unusedVariables false
set_option linter.constructorNameAsVariable false
set_option maxRecDepth 100000

theorem objV : OfVal P 7 (fun n _ _ _ => !decide (n ≤ 5) && decide (n ≤ 8)) := by
  intro n x s m w hn hx hs hm h0
  go_enter Tryz.func7, Tryz.ntmps7
  go_wp2
  all_goals go_returns
  all_goals refine ⟨?_, (Below.refl w.heap.size w).alloc (Nat.le_refl _) _⟩
  all_goals show Ending.returned (Value.bool _) = Ending.returned (Value.bool _)
  all_goals refine congrArg (fun b => Ending.returned (Value.bool b)) ?_
  all_goals first | omega | (rw [Bool.eq_iff_iff]; simp; try omega)
noncomputable def objC : Ct := valF fun a _ _ _ => .and (.not (.cmp .leq a (.li .u8 5))) (.cmp .leq a (.li .u8 8))
theorem objC_ok : CtOK P 7 objC := valF_ok objV fun da _ _ _ => den_and (den_not (fact_le da)) (fact_le da)
noncomputable def S3 : Specs := fun g => match g with
  | 7 => some (orC objC (runC c0 7))
  | 202 => some (orC readC (runC c0 202))
  | 156 => some (orC (fmtC 2) (runC c0 156))
  | g => S2 g
theorem S3_ok : SpecOK P S3 := by
  intro g C hC
  unfold S3 at hC
  split at hC
  · cases hC; exact orC_ok objC_ok (runC_ok c0_ok 7)
  · cases hC; exact orC_ok (readC_ok Read.read) (runC_ok c0_ok 202)
  · cases hC; exact orC_ok (fmtC_ok Fmt.fmt) (runC_ok c0_ok 156)
  · exact S2_ok _ C hC
noncomputable def c3 : CallF := run S3 40
theorem c3_ok : CallOK P c3 := run_ok S3_ok 40
noncomputable def vS (n : Nat) : List AV := [.x (.i .u8) (.sy n), .x .f (.sy (Nat.add n 1)), .x .s (.sy (Nat.add n 2)), .x (.i .i64) (.sy (Nat.add n 3))]
noncomputable def mA (n : Nat) : SE := .fn 10 (packV (.sy n) (.sy (Nat.add n 1)) (.sy (Nat.add n 2)) (.sy (Nat.add n 3)))
noncomputable def GB : List (Nat × List AV) := [(2, tabAVs 20 6)]
/-! ### An outcome's cells -/
noncomputable def restA : List AV := [.b false, .b false, .i .u8 0, .i .u8 0, .f .f64 0, .s 0 0, .i .i64 0, .i .u8 0, .f .f64 0, .s 0 0, .i .i64 0, .i .u8 0, .f .f64 0, .s 0 0, .i .i64 0, .b false, .b false, .b false, .sn]
noncomputable def zA : List AV := [.i .u8 0, .f .f64 0, .s 0 0, .i .i64 0]
noncomputable def failA (e : Int) (l x : Nat) : List AV := .i .u8 3 :: zA ++ restA ++ [.i .u8 e, .s l x]
noncomputable def eqL (l m : List AV) : Bool := List.rec (motive := fun _ => List AV → Bool) (fun m => match m with | [] => true | _ => false) (fun a _ ih m => match m with | [] => false | b :: m => bc (sameX a b) (ih m) false) l m
noncomputable def fails (l : List AV) : Bool := bc (eqL l (failA 1 4 1701869940)) true (bc (eqL l (failA 2 8 8750038247350955892)) true (eqL l (failA 2 7 32760367581326953)))
/-- a float that may be -/
noncomputable def mNum (fs : Facts) (b : SE) : Bool := bc (Nat.beq (decX fs (.fn 7 b)) 1) true (match b with
  | .lf x => mayF x
  | .fn 12 e => bc (Nat.beq (decX fs (.cmp .leq e (.li .i64 4096))) 1) (Nat.ble 2 (decX fs (.cmp .leq e (.li .i64 (-2))))) false
  | _ => false)
noncomputable def short (fs : Facts) (c : SE) : Bool := match c with
  | .ls l _ => Nat.ble l 4096
  | c => Nat.beq (decX fs (.cmp .leq (.len c) (.li .i64 4096))) 1
/-- a value that may be, and is no object -/
noncomputable def mVal (fs : Facts) (a b c d : SE) : Bool := bc (Nat.beq (decX fs (.fn 10 (packV a b c d))) 1) (match a with
    | .li .u8 (.ofNat k) => Nat.ble k 5
    | a => Nat.beq (decX fs (.cmp .leq a (.li .u8 5))) 1) (match a with
  | .li .u8 (.ofNat 3) => bc (mNum fs b) (bc (seEq c (.ls 0 0)) (seEq d (.li .i64 0)) false) false
  | .li .u8 (.ofNat 4) => bc (seEq b (.lf 0)) (bc (short fs c) (seEq d (.li .i64 0)) false) false
  | .li .u8 (.ofNat 2) => bc (bc (seEq b (.lf 0)) true (seEq b (.lf 4607182418800017408))) (bc (seEq c (.ls 0 0)) (seEq d (.li .i64 0)) false) false
  | .li .u8 (.ofNat 1) => bc (seEq b (.lf 0)) (bc (seEq c (.ls 0 0)) (seEq d (.li .i64 0)) false) false
  | .li .u8 (.ofNat 0) => bc (seEq b (.lf 0)) (bc (seEq c (.ls 0 0)) (seEq d (.li .i64 0)) false) false
  | _ => false)
/-- of a class: 0 any, 1 a number, 2 a text, 3 a symbol -/
noncomputable def clsA (cl : Nat) (fs : Facts) (a : SE) : Bool := match cl with
  | 1 => seEq a (.li .u8 3)
  | 2 => seEq a (.li .u8 4)
  | 3 => seEq a (.li .u8 5)
  | _ => true
noncomputable def anyCl (cls : List Nat) (fs : Facts) (a : SE) : Bool := List.rec (motive := fun _ => Bool) false (fun c _ ih => bc (clsA c fs a) true ih) cls
noncomputable def finO (cls : List Nat) (v : AV) (h : Heap) : Bool := match v with
  | .ag (.i .u8 (.ofNat 1) :: c1 :: c2 :: c3 :: c4 :: l) => bc (eqL l (restA ++ [.i .u8 0, .s 0 0])) (asI .u8 c1 fun a => asF c2 fun b => asS c3 fun c => asI .i64 c4 fun d => bc (mVal (factsOf h) a b c d) (anyCl cls (factsOf h) a) false) false
  | .ag l => fails l
  | _ => false
noncomputable def fsO (i n : Nat) : Facts := match i with
  | 5 => (.fn 7 (.fn 5 (.sy n)), true) :: formFs 5 n
  | i => formFs i n
noncomputable def runO (C : CallF) (fin : AV → Heap → Bool) (fs : Facts) (g : Nat) (args : List AV) (nn : Nat) : Bool := setF fs (startH GB 6) (fun h => C g args h nn (fun v h _ => fin v h))
noncomputable def anys : AV := .ag [.any, .any, .any, .any, .any, .any]
/-- a coercion led to its end, of a form -/
noncomputable def ledR (cls : List Nat) (kd : Int) (i : Nat) : Bool := runO c3 (finO cls) (fsO i 26) 97 [anys, .i .u8 kd, formAV i 26] 27
/-! ### What they mean -/
structure V4 where
  k : Int
  x : Nat
  s : ByteArray
  r : Int
def V4.cells (v : V4) : List Value := [.int .u8 v.k, .float .f64 v.x, .string v.s, .int .i64 v.r]
def V4.ok (v : V4) : Prop := (0 ≤ v.k ∧ v.k ≤ 255) ∧ v.x < 18446744073709551616 ∧ (v.s.size : Int) ≤ 9223372036854775807 ∧ (-9223372036854775808 ≤ v.r ∧ v.r ≤ 9223372036854775807)
def V4.may (v : V4) : Bool := mayV v.k v.x v.s v.r
def z4 : V4 := ⟨0, 0, str 0 0, 0⟩
def Dens (E : Env) (n : Nat) (v : V4) : Prop := den E (.sy n) = some (.int .u8 v.k) ∧ den E (.sy (n + 1)) = some (.float .f64 v.x) ∧ den E (.sy (n + 2)) = some (.string v.s) ∧ den E (.sy (n + 3)) = some (.int .i64 v.r)
theorem rv_vS {E : Env} {n : Nat} {v : V4} (ok : v.ok) (d : Dens E n v) : RvL E (vS n) v.cells :=
  rvl_cons (by rw [Rv]; exact ⟨d.1, _, rfl, ok.1⟩) (rvl_cons (by rw [Rv]; exact ⟨d.2.1, _, rfl, ok.2.1⟩) (rvl_cons (by rw [Rv]; exact ⟨d.2.2.1, _, rfl, ok.2.2.1⟩) (rvl_cons (by rw [Rv]; exact ⟨d.2.2.2, _, rfl, ok.2.2.2⟩) rvl_nil)))
theorem den_mA {E : Env} {n : Nat} {v : V4} (d : Dens E n v) : den E (mA n) = some (.bool v.may) := den_may d.1 d.2.1 d.2.2.1 d.2.2.2
noncomputable def litA (a : AV) : Bool := match a with
  | .b _ => true
  | .i _ _ => true
  | .f _ _ => true
  | .s _ _ => true
  | .sn => true
  | _ => false
def valOf (a : AV) : Value := match a with
  | .b x => .bool x
  | .i k n => .int k n
  | .f k x => .float k x
  | .s l x => .string (str l x)
  | _ => .slice none 0 0
theorem litA_ok {E : Env} {a : AV} {V : Value} (h : litA a = true) (r : Rv E a V) : V = valOf a := by
  unfold litA at h
  split at h <;> first | (cases h; done) | (rw [Rv] at r; exact r)
theorem litA_mk {E : Env} {a : AV} (h : litA a = true) : Rv E a (valOf a) := by
  unfold litA at h
  split at h <;> first | (cases h; done) | (rw [Rv]; rfl)
theorem lits_ok {E : Env} : ∀ {l : List AV} {vs : List Value}, l.all litA = true → RvL E l vs → vs = l.map valOf
  | [], vs, _, r => by rw [RvL] at r; exact r
  | a :: l, vs, h, r => by
    rw [RvL] at r
    obtain ⟨V, vs', rfl, r1, r2⟩ := r
    simp only [List.all_cons, Bool.and_eq_true] at h
    rw [List.map_cons, litA_ok h.1 r1, lits_ok h.2 r2]
theorem lits_mk {E : Env} : ∀ {l : List AV}, l.all litA = true → RvL E l (l.map valOf)
  | [], _ => rvl_nil
  | a :: l, h => by
    simp only [List.all_cons, Bool.and_eq_true] at h
    exact rvl_cons (litA_mk h.1) (lits_mk h.2)
theorem eqL_ok : ∀ {l m : List AV}, eqL l m = true → l = m
  | [], [], _ => rfl
  | [], _ :: _, h => by cases h
  | _ :: _, [], h => by cases h
  | a :: l, b :: m, h => by
    have h : bc (sameX a b) (eqL l m) false = true := h
    obtain ⟨h1, h2⟩ := bc_and h
    rw [sameX_ok h1, eqL_ok h2]
noncomputable def restV : List Value := restA.map valOf
theorem rvl_app {E : Env} : ∀ {a b : List AV} {vs us : List Value}, RvL E a vs → RvL E b us → RvL E (a ++ b) (vs ++ us)
  | [], _, vs, us, h, k => by rw [RvL] at h; subst h; exact k
  | _ :: _, _, vs, us, h, k => by
    rw [RvL] at h
    obtain ⟨V, vs', rfl, h1, h2⟩ := h
    exact rvl_cons h1 (rvl_app h2 k)
noncomputable def outZ (k : Int) (v : V4) (er : Int) (tx : ByteArray) : List Value := .int .u8 k :: v.cells ++ restV ++ [.int .u8 er, .string tx]
def clsV (cl : Nat) (v : V4) : Prop := match cl with
  | 1 => v.k = 3
  | 2 => v.k = 4
  | 3 => v.k = 5
  | _ => True
def FailV (V : Value) : Prop := V = .agg (outZ 3 z4 1 (str 4 1701869940)).toArray ∨ V = .agg (outZ 3 z4 2 (str 8 8750038247350955892)).toArray ∨ V = .agg (outZ 3 z4 2 (str 7 32760367581326953)).toArray
def OutOK (cls : List Nat) (V : Value) : Prop := (∃ v : V4, v.ok ∧ v.may = true ∧ v.k ≤ 5 ∧ (∃ c ∈ cls, clsV c v) ∧ V = .agg (outZ 1 v 0 (str 0 0)).toArray) ∨ FailV V
theorem fails_ok {E : Env} {l : List AV} {V : Value} (h : fails l = true) (r : Rv E (.ag l) V) : FailV V := by
  rw [Rv] at r
  obtain ⟨vs, rfl, r⟩ := r
  unfold fails at h
  rcases bc_or h with ⟨h, _⟩ | ⟨_, h⟩
  · rw [eqL_ok h] at r
    exact .inl (by rw [lits_ok (by kernel_rfl) r]; rfl)
  · rcases bc_or h with ⟨h, _⟩ | ⟨_, h⟩
    · rw [eqL_ok h] at r
      exact .inr (.inl (by rw [lits_ok (by kernel_rfl) r]; rfl))
    · rw [eqL_ok h] at r
      exact .inr (.inr (by rw [lits_ok (by kernel_rfl) r]; rfl))
theorem mNum_ok {E : Env} {fs : Facts} {b : SE} {x : Nat} (hf : Holds E fs) (db : den E b = some (.float .f64 x)) (h : mNum fs b = true) : mayF x = true := by
  unfold mNum at h
  rcases bc_or h with ⟨h, _⟩ | ⟨_, h⟩
  · have d7 : den E (.fn 7 b) = some (.bool (mayF x)) := by simp only [den, db, apf]
    exact (decX_ok hf d7).1 (Nat.eq_of_beq_eq_true h)
  · split at h
    · simp only [den] at db
      cases db; exact h
    · rename_i e _ _
      obtain ⟨h1, h2⟩ := bc_and h
      simp only [den] at db
      cases he : den E e with
      | none => rw [he] at db; cases db
      | some U =>
        rw [he] at db
        cases U <;> try (cases db; done)
        rename_i kk z
        cases kk <;> try (cases db; done)
        have hz1 := of_decide_eq_true ((decX_ok hf (fact_le (k := .i64) (c := 4096) he)).1 (Nat.eq_of_beq_eq_true h1))
        have hz2 := of_decide_eq_false ((decX_ok hf (fact_le (k := .i64) (c := -2) he)).2 (Nat.le_of_ble_eq_true h2))
        have db : some (Value.float .f64 (FloatKind.f64.nearest z)) = some (.float .f64 x) := db
        cases db
        have := List.all_eq_true.1 near_may (z + 1).toNat (List.mem_range.2 (by omega))
        rw [show (((z + 1).toNat : Nat) : Int) - 1 = z by omega] at this
        exact this
    · cases h
theorem short_ok {E : Env} {fs : Facts} {c : SE} {s : ByteArray} (hf : Holds E fs) (dc : den E c = some (.string s)) (h : short fs c = true) : (s.size : Int) ≤ 4096 := by
  unfold short at h
  split at h
  · simp only [den] at dc
    cases dc
    rw [str_size]
    have := Nat.le_of_ble_eq_true h
    omega
  · exact of_decide_eq_true ((decX_ok hf (fact_le (k := .i64) (c := 4096) (den_len dc))).1 (Nat.eq_of_beq_eq_true h))
theorem feq0 : feq 0 0 = true := by kernel_rfl
theorem feq1 : feq 4607182418800017408 0x3ff0000000000000 = true := by kernel_rfl
theorem mayF0 : mayF 0 = true := by kernel_rfl
theorem den_li {E : Env} {k : IntKind} {n m : Int} (h : den E (.li k n) = some (.int k m)) : m = n := by
  simp only [den] at h
  cases h; rfl
theorem den_lf {E : Env} {x y : Nat} (h : den E (.lf x) = some (.float .f64 y)) : y = x := by
  simp only [den] at h
  cases h; rfl
theorem den_ls {E : Env} {s : ByteArray} (h : den E (.ls 0 0) = some (.string s)) : s.size = 0 := by
  simp only [den] at h
  cases h; rw [str_size]
theorem mVal_ok {E : Env} {fs : Facts} {a b c d : SE} {k r : Int} {x : Nat} {s : ByteArray} (hf : Holds E fs) (da : den E a = some (.int .u8 k)) (db : den E b = some (.float .f64 x)) (dc : den E c = some (.string s)) (dd : den E d = some (.int .i64 r))
    (h : mVal fs a b c d = true) : mayV k x s r = true ∧ k ≤ 5 := by
  unfold mVal at h
  rcases bc_or h with ⟨h1, h2⟩ | ⟨_, h⟩
  · refine ⟨(decX_ok hf (den_may da db dc dd)).1 (Nat.eq_of_beq_eq_true h1), ?_⟩
    split at h2
    · rw [den_li da]
      exact Int.ofNat_le.2 (Nat.le_of_ble_eq_true h2)
    · exact of_decide_eq_true ((decX_ok hf (fact_le (k := .u8) (c := 5) da)).1 (Nat.eq_of_beq_eq_true h2))
  · have done : ∀ {q : Int}, k = q → 0 ≤ q → q ≤ 5 → r = 0 → (s.size : Int) ≤ 4096 → (if q = 2 then ((feq x 0x3ff0000000000000 || feq x 0 && mayF x) && decide (s.size = 0) && decide (r = 0)) else if q = 3 then mayF x && decide (s.size = 0) && decide (r = 0) else feq x 0 && mayF x && (decide (q = 4) || decide (s.size = 0)) && (decide (5 ≤ q) || decide (r = 0))) = true → mayV k x s r = true ∧ k ≤ 5 := fun e q0 q5 hr hs hq => by
      subst e
      refine ⟨?_, q5⟩
      unfold mayV
      rw [hq, decide_eq_true (show k ≤ 8 by omega), decide_eq_true (show 0 ≤ r by omega), decide_eq_true hs]; rfl
    split at h
    · obtain ⟨h1, h2⟩ := bc_and h
      obtain ⟨h2, h3⟩ := bc_and h2
      have hx := mNum_ok hf db h1
      rw [seEq_ok h2] at dc
      rw [seEq_ok h3] at dd
      have hs := den_ls dc
      have hr := den_li dd
      exact done (q := 3) (den_li da) (by decide) (by decide) hr (by omega) (by rw [if_neg (by decide), if_pos rfl, hx, decide_eq_true hs, decide_eq_true hr]; rfl)
    · obtain ⟨h1, h2⟩ := bc_and h
      obtain ⟨h2, h3⟩ := bc_and h2
      have hs := short_ok hf dc h2
      rw [seEq_ok h1] at db
      rw [seEq_ok h3] at dd
      have hx := den_lf db
      have hr := den_li dd
      exact done (q := 4) (den_li da) (by decide) (by decide) hr hs (by rw [if_neg (by decide), if_neg (by decide), hx, feq0, mayF0, decide_eq_true hr]; rfl)
    · obtain ⟨h1, h2⟩ := bc_and h
      obtain ⟨h2, h3⟩ := bc_and h2
      rw [seEq_ok h2] at dc
      rw [seEq_ok h3] at dd
      have hs := den_ls dc
      have hr := den_li dd
      rcases bc_or h1 with ⟨h1, _⟩ | ⟨_, h1⟩
      · rw [seEq_ok h1] at db
        have hx := den_lf db
        exact done (q := 2) (den_li da) (by decide) (by decide) hr (by omega) (by rw [if_pos rfl, hx, feq0, mayF0, decide_eq_true hs, decide_eq_true hr]; simp)
      · rw [seEq_ok h1] at db
        have hx := den_lf db
        exact done (q := 2) (den_li da) (by decide) (by decide) hr (by omega) (by rw [if_pos rfl, hx, feq1, decide_eq_true hs, decide_eq_true hr]; simp)
    · obtain ⟨h1, h2⟩ := bc_and h
      obtain ⟨h2, h3⟩ := bc_and h2
      rw [seEq_ok h1] at db
      rw [seEq_ok h2] at dc
      rw [seEq_ok h3] at dd
      have hx := den_lf db
      have hs := den_ls dc
      have hr := den_li dd
      exact done (q := 1) (den_li da) (by decide) (by decide) hr (by omega) (by rw [if_neg (by decide), if_neg (by decide), hx, feq0, mayF0, decide_eq_true hs, decide_eq_true hr]; rfl)
    · obtain ⟨h1, h2⟩ := bc_and h
      obtain ⟨h2, h3⟩ := bc_and h2
      rw [seEq_ok h1] at db
      rw [seEq_ok h2] at dc
      rw [seEq_ok h3] at dd
      have hx := den_lf db
      have hs := den_ls dc
      have hr := den_li dd
      exact done (q := 0) (den_li da) (by decide) (by decide) hr (by omega) (by rw [if_neg (by decide), if_neg (by decide), hx, feq0, mayF0, decide_eq_true hs, decide_eq_true hr]; rfl)
    · cases h
theorem clsA_ok {E : Env} {cl : Nat} {fs : Facts} {a : SE} {v : V4} (da : den E a = some (.int .u8 v.k)) (h : clsA cl fs a = true) : clsV cl v := by
  unfold clsA at h
  unfold clsV
  split at h
  · rw [seEq_ok h] at da; exact den_li da
  · rw [seEq_ok h] at da; exact den_li da
  · rw [seEq_ok h] at da; exact den_li da
  · trivial
theorem anyCl_ok {E : Env} {fs : Facts} {a : SE} {v : V4} (da : den E a = some (.int .u8 v.k)) : ∀ {cls : List Nat}, anyCl cls fs a = true → ∃ c ∈ cls, clsV c v
  | [], h => by cases h
  | c :: cls, h => by
    have h : bc (clsA c fs a) true (anyCl cls fs a) = true := h
    rcases bc_or h with ⟨h, _⟩ | ⟨_, h⟩
    · exact ⟨c, List.mem_cons_self, clsA_ok da h⟩
    · obtain ⟨q, hq, h⟩ := anyCl_ok da h
      exact ⟨q, List.mem_cons_of_mem _ hq, h⟩
theorem finO_ok {E : Env} {cls : List Nat} {v : AV} {V : Value} {h : Heap} (hf : Holds E (factsOf h)) (he : finO cls v h = true) (r : Rv E v V) : OutOK cls V := by
  unfold finO at he
  split at he
  · rename_i c1 c2 c3 c4 l
    obtain ⟨h1, he⟩ := bc_and he
    rw [Rv] at r
    obtain ⟨vs, rfl, r⟩ := r
    simp only [RvL] at r
    obtain ⟨A, _, rfl, rA, B, _, rfl, rB, C, _, rfl, rC, D, _, rfl, rD, G, ls, rfl, rG, rl⟩ := r
    obtain ⟨a, k, rfl, k1, k2, da, he⟩ := asI_ok he rB
    obtain ⟨b, x, rfl, hx, db, he⟩ := asF_ok he rC
    obtain ⟨c, s, rfl, hs, dc, he⟩ := asS_ok he rD
    obtain ⟨d, m, rfl, m1, m2, dd, he⟩ := asI_ok he rG
    obtain ⟨h2, h3⟩ := bc_and he
    obtain ⟨hm, h5⟩ := mVal_ok hf da db dc dd h2
    rw [eqL_ok h1] at rl
    have rl := lits_ok (by kernel_rfl) rl
    rw [Rv] at rA
    subst rA
    refine .inl ⟨⟨k, x, s, m⟩, ⟨⟨k1, k2⟩, hx, hs, m1, m2⟩, hm, h5, anyCl_ok (v := ⟨k, x, s, m⟩) da h3, ?_⟩
    rw [rl]; rfl
  · exact .inr (fails_ok he r)
  · cases he
/-! ### As answers of a contract -/
noncomputable def outA (n : Nat) : List AV := .i .u8 1 :: vS n ++ restA ++ [.i .u8 0, .s 0 0]
noncomputable def clsF (cl n : Nat) : Facts := match cl with
  | 1 => [(.cmp .eql (.sy n) (.li .u8 3), true), (.fn 7 (.sy (Nat.add n 1)), true)]
  | 2 => [(.cmp .eql (.sy n) (.li .u8 4), true), (.cmp .leq (.len (.sy (Nat.add n 2))) (.li .i64 4096), true)]
  | 3 => [(.cmp .eql (.sy n) (.li .u8 5), true), (.cmp .leq (.sy (Nat.add n 3)) (.li .i64 (-1)), false)]
  | _ => []
noncomputable def failsO : List Alt := [(0, [], .ag (failA 1 4 1701869940)), (0, [], .ag (failA 2 8 8750038247350955892)), (0, [], .ag (failA 2 7 32760367581326953))]
noncomputable def altO (cls : List Nat) (n : Nat) : List Alt := cls.map (fun c => (4, clsF c n ++ [(mA n, true), (.cmp .leq (.sy n) (.li .u8 5), true)], .ag (outA n))) ++ failsO
theorem dens_at {E : Env} {n : Nat} {v : V4} (h : ∀ j U, v.cells[j]? = some U → den E (.sy (n + j)) = some U) : Dens E n v := ⟨h 0 _ rfl, h 1 _ rfl, h 2 _ rfl, h 3 _ rfl⟩
theorem out_alt {cls : List Nat} {V : Value} (h : OutOK cls V) (n : Nat) : ∃ p ∈ altO cls n, ∃ Vs, Vs.length = p.1 ∧ Tells n Vs p.2.1 p.2.2 V := by
  have none : ∀ p ∈ failsO, ∀ V, (∀ E : Env, Rv E p.2.2 V) → p.1 = 0 → p.2.1 = [] → ∃ p ∈ altO cls n, ∃ Vs, Vs.length = p.1 ∧ Tells n Vs p.2.1 p.2.2 V := fun p hp V r h0 h1 => by
    refine ⟨p, List.mem_append_right _ hp, [], h0.symm, (fun U hU => by cases hU), fun E _ => ⟨r E, by rw [h1]; exact holds_nil⟩⟩
  rcases h with ⟨v, ok, hm, h5, ⟨c, hc, hcv⟩, rfl⟩ | h
  · refine ⟨_, List.mem_append_left _ (List.mem_map.2 ⟨c, hc, rfl⟩), v.cells, rfl, fun U hU => ?_, fun E hE => ?_⟩
    · simp only [V4.cells, List.mem_cons, List.not_mem_nil, or_false] at hU
      rcases hU with rfl | rfl | rfl | rfl
      · exact sok_i _ _
      · exact sok_f _
      · exact sok_s _
      · exact sok_i _ _
    · have d := dens_at hE
      refine ⟨?_, ?_⟩
      · rw [Rv]
        exact ⟨_, rfl, rvl_cons (by rw [Rv]) (rvl_app (rvl_app (rv_vS ok d) (lits_mk (by kernel_rfl))) (rvl_cons (by rw [Rv]) (rvl_cons (by rw [Rv]) rvl_nil)))⟩
      · refine holds_app ?_ (holds_cons ((den_mA d).trans (by rw [hm])) (holds_cons ((fact_le d.1).trans (by rw [decide_eq_true h5])) holds_nil))
        have hm' := hm
        unfold V4.may mayV at hm'
        simp only [Bool.and_eq_true, decide_eq_true_eq] at hm'
        obtain ⟨⟨⟨_, hr⟩, hs⟩, hm'⟩ := hm'
        unfold clsF
        unfold clsV at hcv
        split
        · have hk : v.k = 3 := hcv
          rw [hk, if_neg (by decide), if_pos rfl] at hm'
          simp only [Bool.and_eq_true] at hm'
          exact holds_cons ((fact_eq d.1).trans (by rw [decide_eq_true hk])) (holds_cons ((den_fn (c := 7) d.2.1 rfl).trans (by rw [hm'.1.1])) holds_nil)
        · have hk : v.k = 4 := hcv
          exact holds_cons ((fact_eq d.1).trans (by rw [decide_eq_true hk])) (holds_cons ((fact_le (den_len d.2.2.1)).trans (by rw [decide_eq_true hs])) holds_nil)
        · have hk : v.k = 5 := hcv
          exact holds_cons ((fact_eq d.1).trans (by rw [decide_eq_true hk])) (holds_cons ((fact_le d.2.2.2).trans (by rw [decide_eq_false (by omega)])) holds_nil)
        · exact holds_nil
  · have fl : ∀ (e : Int) (l x : Nat) (E : Env), Rv E (.ag (failA e l x)) (.agg (outZ 3 z4 e (str l x)).toArray) := fun e l x E => by
      rw [Rv]
      exact ⟨_, rfl, lits_mk (l := failA e l x) rfl⟩
    rcases h with rfl | rfl | rfl
    · exact none _ List.mem_cons_self _ (fl _ _ _) rfl rfl
    · exact none _ (List.mem_cons_of_mem _ List.mem_cons_self) _ (fl _ _ _) rfl rfl
    · exact none _ (List.mem_cons_of_mem _ (List.mem_cons_of_mem _ List.mem_cons_self)) _ (fl _ _ _) rfl rfl
end Go.Proofs.YtaecedlhiclkdaaGreatDoor.Lp
