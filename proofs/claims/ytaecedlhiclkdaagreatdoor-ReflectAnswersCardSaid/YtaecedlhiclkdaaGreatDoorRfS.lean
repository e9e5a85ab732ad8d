/- ReflectAnswers: the law's own code, cut at its loop and ahead of the answer. No condition. -/
import Derived.Test.YtaecedlhiclkdaaGreatDoorRfC
namespace Go.Proofs.YtaecedlhiclkdaaGreatDoor.Rf
open Go Vx Con RowKit
set_option linter.unusedVariables false
set_option linter.constructorNameAsVariable false
set_option maxRecDepth 100000

/-! ### A value that may be is the same as itself -/
noncomputable def finB (v : AV) (h : Heap) : Bool := match v with
  | .b b => b
  | .x .b e => Nat.beq (decX (factsOf h) e) 1
  | _ => false
theorem finB_ok {E : Env} {v : AV} {V : Value} {h : Heap} (hf : Holds E (factsOf h)) (he : finB v h = true) (r : Rv E v V) : V = .bool true := by
  unfold finB at he
  split at he <;> try (cases he; done)
  · rw [Rv] at r; subst r; rw [he]
  · simp only [Rv, hasS] at r
    obtain ⟨hd, b, rfl⟩ := r
    rw [(decX_ok hf hd).1 (Nat.eq_of_beq_eq_true he)]
noncomputable def selfF (k : Nat) : Facts := (.cmp .eql (.sy 2) (.sy 2), true) :: (match k with
  | 2 => [(.cmp .eql (.sy 1) (.sy 1), true)]
  | _ => [])
noncomputable def v3 : List AV := [.x .f (.sy 1), .x .s (.sy 2), .x (.i .i64) (.sy 3)]
noncomputable def sameR (k : Nat) : Bool := setF (selfF k) (startH [] 1) fun h => cS 16 [.ag (.i .u8 (Int.ofNat k) :: v3), .ag (.i .u8 (Int.ofNat k) :: v3)] h 4 fun v h _ => finB v h
theorem sameAll : ((List.range 9).all sameR) = true := by kernel_rfl
theorem feq11 : feq 0x3ff0000000000000 0x3ff0000000000000 = true := by kernel_rfl
theorem feq00 : feq 0 0 = true := by kernel_rfl
theorem feq88 : feq 9223372036854775808 9223372036854775808 = true := by kernel_rfl
theorem den_seq {E : Env} {a : SE} {s : ByteArray} (ha : den E a = some (.string s)) : den E (.cmp .eql a a) = some (.bool true) := by
  simp only [den, ha, cmpV, cmpS, Option.map_some]
  simp
noncomputable def sameVC : Ct := fun args h n k => match args with
  | [v, u] => valK v fun a b c d => valK u fun a' b' c' d' => bc (bc (seEq a a') (seEq b b') false) (bc (bc (seEq c c') (seEq d d') false) (bc (Nat.beq (decX (factsOf h) (.fn 10 (packV a b c d))) 1) (k (.b true) h n) false) false) false
  | _ => false
theorem sameVC_ok : CtOK P 16 sameVC := by
  apply ctExpr
  intro args ARGS E h nxt w k he ra hr
  unfold sameVC at he
  split at he <;> try (cases he; done)
  rename_i v u
  obtain ⟨V, U, hA, rx, ry⟩ := ra.two
  have hA : ARGS = #[V, U] := by apply Array.ext'; simpa using hA
  subst hA
  obtain ⟨a, b, c, d, q, x, s, m, rfl, q1, q2, q3, q4, da, db, dc, dd, hs, he⟩ := valK_ok he rx hr
  obtain ⟨a', b', c', d', q', x', s', m', rfl, _, _, _, _, da', db', dc', dd', _, he⟩ := valK_ok he ry hr
  obtain ⟨e1, he⟩ := bc_and he
  obtain ⟨e1, e2⟩ := bc_and e1
  obtain ⟨e3, he⟩ := bc_and he
  obtain ⟨e3, e4⟩ := bc_and e3
  obtain ⟨hm, he⟩ := bc_and he
  rw [← seEq_ok e1, da] at da'
  rw [← seEq_ok e2, db] at db'
  rw [← seEq_ok e3, dc] at dc'
  rw [← seEq_ok e4, dd] at dd'
  cases da'; cases db'; cases dc'; cases dd'
  have hm := (decX_ok (factsOf_ok hr) (den_may da db dc dd)).1 (Nat.eq_of_beq_eq_true hm)
  have h8 : q ≤ 8 := may_le (v := ⟨q, x, s, m⟩) hm
  obtain ⟨j, rfl⟩ : ∃ j : Nat, q = j := ⟨q.toNat, by omega⟩
  have h2 : j = 2 → feq x x = true := fun hj => by
    subst hj
    unfold mayV at hm
    simp only [Bool.and_eq_true] at hm
    have hm : ((feq x 0x3ff0000000000000 || feq x 0 && mayF x) = true) := by
      have := hm.2
      simp at this
      simpa using this.1.1
    rw [Bool.or_eq_true, Bool.and_eq_true] at hm
    rcases hm with h | ⟨h, _⟩
    · rw [feq_one q2 h]; exact feq11
    · rcases zero_word q2 h with e | e
      · rw [e]; exact feq00
      · rw [e]; exact feq88
  have hd0 : den (symEV [] 1 [.float .f64 x, .string s, .int .i64 m]) (.sy 1) = some (.float .f64 x) := den_sym 0 rfl (sok_f _)
  have hd1 : den (symEV [] 1 [.float .f64 x, .string s, .int .i64 m]) (.sy 2) = some (.string s) := den_sym 1 rfl (sok_s _)
  have fx : Holds (symEV [] 1 [.float .f64 x, .string s, .int .i64 m]) (selfF j) := by
    refine holds_cons (den_seq hd1) ?_
    split
    · exact holds_cons ((den_feq hd0 hd0).trans (by rw [h2 rfl])) holds_nil
    · exact holds_nil
  have a1 : Rv (symEV [] 1 [.float .f64 x, .string s, .int .i64 m]) (.ag (.i .u8 (Int.ofNat j) :: v3)) (.agg #[.int .u8 j, .float .f64 x, .string s, .int .i64 m]) := by
    rw [Rv]; exact ⟨_, rfl, rvl_cons (by rw [Rv]; rfl) (rvl_cons (rv_sym (s := .f) 0 rfl (sok_f _) ⟨_, rfl, q2⟩) (rvl_cons (rv_sym (s := .s) 1 rfl (sok_s _) ⟨_, rfl, q3⟩) (rvl_cons (rv_sym (s := .i .i64) 2 rfl (sok_i _ _) ⟨_, rfl, q4⟩) rvl_nil)))⟩
  refine ⟨.b true, h, .bool true, he, by rw [Rv], hr, Fk.refl h, ?_⟩
  refine (closedXG cS_ok (gl := []) (n0 := 1) (Vs := [.float .f64 x, .string s, .int .i64 m]) (fin := finB) rfl rfl rfl rfl fx (rvl_cons a1 (rvl_cons a1 rvl_nil)) (fun _ _ => rfl) (List.all_eq_true.1 sameAll j (List.mem_range.2 (by omega))) w hs (fun p hp => by cases hp)).mono ?_
  rintro e w' ⟨⟨V, v, h', E', rfl, rv, hf, hk⟩, hb⟩
  obtain rfl := finB_ok hf hk rv
  exact ⟨rfl, hb⟩
theorem alive0 : c0 11 [] (T.full .gone 20) 1 (fun v _ _ => match v with | .b y => (y == true) | _ => false) = true := by kernel_rfl
theorem alive (w : World) : Calls P 11 #[] w fun e w' => e = .returned (.bool true) ∧ RowKit.Below w.heap.size w w' := closed c0_ok alive0 w
noncomputable def aliveC : Ct := fun args h nxt k => match args with
  | [] => k (.b true) h nxt
  | _ => false
theorem aliveC_ok : CtOK P 11 aliveC := by
  apply ctExpr
  intro args ARGS E h nxt w k he ra hr
  unfold aliveC at he
  split at he <;> try (cases he; done)
  have hA : ARGS = #[] := by
    apply Array.ext'
    rw [RvL] at ra
    exact ra
  subst hA
  exact ⟨.b true, h, .bool true, he, by rw [Rv], hr, Fk.refl h, alive w⟩
/-! ### A symbol's key, and back -/
theorem symV (n : Int) (hn : 0 ≤ n ∧ n ≤ 9223372036854775806) (w : World) : Calls Tryz.prog 140 #[.int .i64 n] w fun e w' => e = .returned (.agg #[.string ByteArray.empty, .int .i64 (n + 1)]) ∧ Below w.heap.size w w' := by
  go_enter Tryz.func140, Tryz.ntmps140
  go_wp2
  all_goals go_returns
  · rename_i hh
    exfalso
    simp only [beq_iff_eq] at hh
    omega
  · exact ⟨rfl, (Below.refl w.heap.size w).alloc (Nat.le_refl _) _⟩
noncomputable def finKV (v : AV) (_ : Heap) : Bool := match v with
  | .ag [a, b, c, .x (.i .i64) e] => bc (seEq e (.fn2 5 (.sy 1) (.li .i64 1))) (bc (sameX a (.i .u8 5)) (bc (sameX b (.f .f64 0)) (sameX c (.s 0 0)) false) false) false
  | _ => false
theorem keyR : (setF [(.cmp .leq (.sy 1) (.li .i64 0), false), (.cmp .leq (.sy 1) (.li .i64 9223372036854775807), true)] (startH [] 1) fun h => cS 17 [.ag [.s 0 0, .x (.i .i64) (.sy 1)]] h 2 fun v h _ => finKV v h) = true := by kernel_rfl
theorem keyV (n : Int) (hn : 0 ≤ n ∧ n ≤ 9223372036854775806) (w : World) (hs : 0 < w.heap.size) : Calls Tryz.prog 17 #[.agg #[.string ByteArray.empty, .int .i64 (n + 1)]] w fun e w' => e = .returned (.agg #[.int .u8 5, .float .f64 0, .string ByteArray.empty, .int .i64 n]) ∧ Below w.heap.size w w' := by
  have d1 : den (symEV [] 1 [.int .i64 (n + 1)]) (.sy 1) = some (.int .i64 (n + 1)) := den_sym 0 rfl (sok_i _ _)
  have hb : -9223372036854775808 ≤ n + 1 ∧ n + 1 ≤ 9223372036854775807 := by omega
  have ra : RvL (symEV [] 1 [.int .i64 (n + 1)]) [.ag [.s 0 0, .x (.i .i64) (.sy 1)]] (#[.agg #[.string ByteArray.empty, .int .i64 (n + 1)]] : Array Value).toList :=
    rvl_cons (by rw [Rv]; exact ⟨_, rfl, rvl_cons (by rw [Rv]; rfl) (rvl_cons (by rw [Rv]; exact ⟨d1, _, rfl, hb⟩) rvl_nil)⟩) rvl_nil
  refine (closedXL cS_ok (gl := []) (n0 := 1) (Vs := [.int .i64 (n + 1)]) (fin := finKV) rfl rfl rfl rfl (holds_cons ((fact_le d1).trans (by rw [decide_eq_false (by omega)])) (holds_cons ((fact_le d1).trans (by rw [decide_eq_true hb.2])) holds_nil)) ra (fun _ _ => rfl) keyR w hs (fun p hp => by cases hp)).mono ?_
  rintro e w' ⟨⟨V, v, h', E', rfl, rv, _, hE, hk⟩, hbw⟩
  refine ⟨?_, hbw⟩
  unfold finKV at hk
  split at hk <;> try (cases hk; done)
  obtain ⟨h1, hk⟩ := bc_and hk
  obtain ⟨h2, hk⟩ := bc_and hk
  obtain ⟨h3, h4⟩ := bc_and hk
  have h1 := seEq_ok h1
  have h2 := sameX_ok h2
  have h3 := sameX_ok h3
  have h4 := sameX_ok h4
  subst h1 h2 h3 h4
  simp only [Rv] at rv
  obtain ⟨vs, rfl, rv⟩ := rv
  simp only [RvL] at rv
  obtain ⟨A, _, rfl, rA, B, _, rfl, rB, C, _, rfl, rC, D, _, rfl, rD, rfl⟩ := rv
  simp only [Rv] at rA rB rC rD
  subst rA rB rC
  obtain ⟨rD, _⟩ := rD
  have dd : den E' (.fn2 5 (.sy 1) (.li .i64 1)) = some (.int .i64 n) := by
    have := den_mono hE _ _ d1
    simp only [den] at this ⊢
    rw [this]
    simp only [apf2]
    rw [if_pos (by omega)]
    congr 2
    omega
  rw [dd] at rD
  cases rD
  rfl
noncomputable def inS (h : Heap) (e : SE) (b : Bool) : Bool := bc (hasSy e) (bc (Nat.ble 2 (decX (factsOf h) (.cmp .leq e (.li .i64 (-1))))) (bc (Nat.ble 2 (decX (factsOf h) (.cmp .eql e (.li .i64 9223372036854775807)))) b (bc (Nat.beq (decX (factsOf h) (.cmp .leq e (.li .i64 9223372036854775806))) 1) b false)) false) false
noncomputable def symC : Ct := fun args h n k => match args with
  | [.x (.i .i64) e] => inS h e (k (.ag [.s 0 0, .x (.i .i64) (.fn2 4 e (.li .i64 1))]) h n)
  | _ => false
theorem inS_ok {E : Env} {h : Heap} {e : SE} {b : Bool} {n : Int} (hf : Holds E (factsOf h)) (he : inS h e b = true) (d : den E e = some (.int .i64 n)) (hi : n ≤ 9223372036854775807) : (0 ≤ n ∧ n ≤ 9223372036854775806) ∧ b = true := by
  obtain ⟨_, he⟩ := bc_and he
  obtain ⟨h1, he⟩ := bc_and he
  have h1 := of_decide_eq_false ((decX_ok hf (fact_le (k := .i64) (c := -1) d)).2 (Nat.le_of_ble_eq_true h1))
  by_cases h2 : Nat.ble 2 (decX (factsOf h) (.cmp .eql e (.li .i64 9223372036854775807))) = true
  · have h3 := of_decide_eq_false ((decX_ok hf (fact_eq (k := .i64) (c := 9223372036854775807) d)).2 (Nat.le_of_ble_eq_true h2))
    rw [h2] at he
    exact ⟨⟨by omega, by omega⟩, he⟩
  · rw [Bool.eq_false_iff.2 h2] at he
    have he : bc (Nat.beq (decX (factsOf h) (.cmp .leq e (.li .i64 9223372036854775806))) 1) b false = true := he
    obtain ⟨h2, he⟩ := bc_and he
    have h2 := of_decide_eq_true ((decX_ok hf (fact_le (k := .i64) (c := 9223372036854775806) d)).1 (Nat.eq_of_beq_eq_true h2))
    exact ⟨⟨by omega, h2⟩, he⟩
theorem den_next {E : Env} {e : SE} {n : Int} (hn : 0 ≤ n ∧ n ≤ 9223372036854775806) (d : den E e = some (.int .i64 n)) : den E (.fn2 4 e (.li .i64 1)) = some (.int .i64 (n + 1)) := by
  simp only [den, d, apf2]
  rw [if_pos (by omega)]
theorem symC_ok : CtOK P 140 symC := by
  apply ctExpr
  intro args ARGS E h nxt w k he ra hr
  unfold symC at he
  split at he <;> try (cases he; done)
  rename_i e
  obtain ⟨V, hA, rx⟩ := ra.one
  have hA : ARGS = #[V] := by apply Array.ext'; simpa using hA
  subst hA
  rw [Rv] at rx
  obtain ⟨d, n, rfl, _, hi⟩ := rx
  obtain ⟨hn, he⟩ := inS_ok (factsOf_ok hr) he d hi
  refine ⟨_, h, _, he, ?_, hr, Fk.refl h, symV n hn w⟩
  rw [Rv]
  exact ⟨_, rfl, rvl_cons (by rw [Rv]; rfl) (rvl_cons (by rw [Rv]; exact ⟨den_next hn d, _, rfl, by show (-9223372036854775808 : Int) ≤ n + 1; omega, by show n + 1 ≤ (9223372036854775807 : Int); omega⟩) rvl_nil)⟩
noncomputable def keyVC : Ct := fun args h n k => match args with
  | [.ag [.s 0 0, .x (.i .i64) (.fn2 4 e (.li .i64 1))]] => inS h e (k (.ag [.i .u8 5, .f .f64 0, .s 0 0, .x (.i .i64) e]) h n)
  | _ => false
theorem keyVC_ok : CtOK P 17 keyVC := by
  apply ctExpr
  intro args ARGS E h nxt w k he ra hr
  unfold keyVC at he
  split at he <;> try (cases he; done)
  rename_i e
  obtain ⟨V, hA, rx⟩ := ra.one
  have hA : ARGS = #[V] := by apply Array.ext'; simpa using hA
  subst hA
  rw [Rv] at rx
  obtain ⟨vs, rfl, rx⟩ := rx
  simp only [RvL] at rx
  obtain ⟨X, _, rfl, r0, Y, _, rfl, r1, rfl⟩ := rx
  rw [Rv] at r0
  simp only [Rv, hasS] at r1
  subst r0
  obtain ⟨d1, n1, rfl, _, hn1⟩ := r1
  have hd : ∃ n, den E e = some (.int .i64 n) ∧ n ≤ 9223372036854775807 := by
    simp only [den] at d1
    cases hh : den E e with
    | none => rw [hh] at d1; cases d1
    | some U =>
      rw [hh] at d1
      cases U <;> try (cases d1; done)
      rename_i kk z
      cases kk <;> try (cases d1; done)
      refine ⟨z, rfl, ?_⟩
      simp only [apf2] at d1
      split at d1
      · omega
      · cases d1
  obtain ⟨n, d, hi⟩ := hd
  have hsy := (bc_and he).1
  obtain ⟨hn, he⟩ := inS_ok (factsOf_ok hr) he d hi
  rw [den_next hn d] at d1
  cases d1
  refine ⟨_, h, _, he, ?_, hr, Fk.refl h, keyV n hn w (hr.size_pos hsy d)⟩
  rw [Rv]
  exact ⟨_, rfl, rvl_cons (by rw [Rv]) (rvl_cons (by rw [Rv]) (rvl_cons (by rw [Rv]; rfl) (rvl_cons (by rw [Rv]; exact ⟨d, _, rfl, by show (-9223372036854775808 : Int) ≤ n; omega, by show n ≤ (9223372036854775807 : Int); omega⟩) rvl_nil)))⟩
noncomputable def SL : Specs := fun g => match g with
  | 140 => some symC
  | 17 => some (orC keyVC (runC cS 17))
  | 11 => some aliveC
  | 66 => some fitC
  | 116 => some (cloneC 1)
  | 16 => some (orC sameVC (runC cS 16))
  | g => SF g
theorem SL_ok : SpecOK P SL := by
  intro g C hC
  unfold SL at hC
  split at hC
  · cases hC; exact symC_ok
  · cases hC; exact orC_ok keyVC_ok (runC_ok cS_ok 17)
  · cases hC; exact aliveC_ok
  · cases hC; exact fitC_ok
  · cases hC; exact cloneC_ok (by decide) cloneK
  · cases hC; exact orC_ok sameVC_ok (runC_ok cS_ok 16)
  · exact SF_ok _ C hC
noncomputable def cL : CallF := run SL 40
theorem cL_ok : CallOK P cL := run_ok SL_ok 40
noncomputable def DL : DrawF := evDraw PP XT cL
theorem DL_ok : DrawOK P DL := evDraw_ok mixed XT_ok _ cL_ok
noncomputable def cLaw : Code := match Tryz.f4.body with
  | some c => c
  | none => .skip
noncomputable def lLaw : Code := (loopsOf cLaw).headD .skip
theorem hbL : Tryz.f4.body = some cLaw := by kernel_rfl
theorem hcL : loopsOf cLaw = [lLaw] := by kernel_rfl
theorem hnL : loopsOf lLaw = [] := by kernel_rfl
/-! ### The symbols: 7, 8: the arguments' capacity, how many there are; 9 .. 35: the answer (its keys at place 5); 36 ..: the arguments' cells, four each -/
noncomputable def LQ : AV := .sx 5 0 (.sy 32) (.sy 33)
noncomputable def LA (m : Nat) : AV := .sx 6 m (.sy 8) (.sy 7)
noncomputable def LN (n C : Nat) : AV := .sl 6 0 n C
noncomputable def aN (j : Nat) : Nat := Nat.add 36 (Nat.mul 4 j)
noncomputable def argCells (n : Nat) : List AV := Nat.rec (motive := fun _ => List AV) [] (fun j ih => ih ++ vS (aN j)) n
noncomputable def mayFs (n : Nat) : Facts := Nat.rec (motive := fun _ => Facts) [] (fun j ih => (mA (aN j), true) :: (.cmp .leq (.sy (aN j)) (.li .u8 8), true) :: ih) n
noncomputable def hA (n : Nat) (fs : Facts) : Heap := T.set (.facts fs) (T.set (.glob 1000000 (Nat.mul 4 n) (wrLs (argCells n) big 0)) (startH [] 7) 6) fplace
noncomputable def hK (fs : Facts) : Heap := T.set (.facts fs) (T.set (.glob 2000065 0 big) (startH [] 7) 5) fplace
noncomputable def nmA (i : Nat) : AV := match i with
  | 0 => .s 14 2463397432817095070742700851225956
  | 1 => .s 3 7561576
  | 2 => .s 12 31389014717615377969513329513
  | 3 => .s 17 39279265759193974485341313937393999770224
  | 4 => .s 3 7628147
  | _ => .s 14 2075096198370335216509268027270515
noncomputable def mdA (i : Nat) : Int := match i with
  | 0 => 10
  | 1 => 7
  | 2 => 3
  | 3 => 4
  | 4 => 9
  | _ => 2
noncomputable def retL : S := retF Tryz.prog Tryz.f4 finB
/-! ### The loop over the arguments; what is behind it, cut ahead of the answer. q: are there keys; i: the function; n: how many arguments -/
noncomputable def kyA (q : Bool) : AV := Bool.rec .sn LQ q
noncomputable def lenA (k : Nat) (b : Bool) : SE × Bool := (.cmp .leq (.sy 8) (.li .i64 (Int.ofNat k)), b)
noncomputable def mayN (n : Nat) : Facts := Nat.rec (motive := fun _ => Facts) [] (fun j ih => (mA (aN j), true) :: ih) n
noncomputable def rowL (q : Bool) : Vx.Rows := [(292, ⟨26, ⟨0, some 44, true⟩, 26, outS (kyA q)⟩)]
noncomputable def regL (i : Nat) (a : AV) : List (Nat × AV) := [(1, a), (0, nmA i), (5, .p 292 0), (6, .b false), (7, .b true), (8, .i .u8 (mdA i))]
noncomputable def canL (q : Bool) (i m k : Nat) : Vx.Can := ⟨regL i (LA m) ++ [(9, .i .i64 (Int.ofNat k))], rowL q, Nat.add 300 (Nat.mul 20 k)⟩
noncomputable def canX (q : Bool) (i : Nat) (a : AV) : Vx.Can := ⟨regL i a, rowL q, 2000⟩
noncomputable def hA1 (k : Nat) (fs : Facts) : Heap := T.set (.facts fs) (T.set (.glob 1000000 (Nat.mul 4 (Nat.succ k)) (wrLs (vS (aN k)) big (Nat.mul 4 k))) (startH [] 7) 6) fplace
noncomputable def gwL (k : Nat) : GWk := [([], LA (Nat.succ k), LA 0)]
/-- what is known of the first two arguments at the cut -/
noncomputable def kdF (i j : Nat) : Facts := match i, j with
  | 2, _ => []
  | 3, _ => []
  | 5, 0 => [(.cmp .leq (.sy (aN 1)) (.li .u8 5), false)]
  | 5, _ => [(.cmp .eql (.sy (aN 1)) (.li .u8 1), true)]
  | _, 0 => [(.cmp .eql (.sy (aN 1)) (.li .u8 4), true)]
  | _, _ => [(.cmp .eql (.sy (aN 1)) (.li .u8 5), true), (.cmp .eql (.sy (Nat.add (aN 1) 3)) (.li .i64 9223372036854775807), false)]
noncomputable def needC (i n j : Nat) : Facts := kdF i j ++ (.cmp .leq (.sy (aN 0)) (.li .u8 5), false) :: mayN n
/-- what always holds: of kinds, of equals, of a symbol's number where it has a key -/
noncomputable def selfL : Facts := [(.cmp .eql (.sy (Nat.add (aN 1) 2)) (.sy (Nat.add (aN 1) 2)), true), (.cmp .eql (.sy (Nat.add (aN 1) 3)) (.sy (Nat.add (aN 1) 3)), true), (.cmp .leq (.sy (Nat.add (aN 1) 3)) (.li .i64 (-1)), false)]
/-- a symbol's number, where it has a key -/
noncomputable def numJ (i j : Nat) : Facts := match i, j with
  | 2, _ => []
  | 3, _ => []
  | 5, _ => []
  | _, 0 => []
  | _, _ => [(.cmp .leq (.sy (Nat.add (aN 1) 3)) (.li .i64 9223372036854775806), true), (.cmp .leq (.sy (Nat.add (aN 1) 3)) (.li .i64 (-1)), false)]
noncomputable def canC (q : Bool) (i n : Nat) : Vx.Can := ⟨[(5, .p 292 0), (6, .b false), (11, .p (Nat.add n 2006) 0)], rowL q ++ [((Nat.add n 2006), ⟨1, ⟨0, some 83, true⟩, 1, [.p (Nat.add n 2005) 0]⟩),
  ((Nat.add n 2005), ⟨6, ⟨0, some 88, true⟩, 6, [.fn (.func 37) [] [.p (Nat.add n 2004) 0, .p 2000 0], .sn, .i .u8 1, .i .u8 (mdA i), .b true, .b false]⟩), ((Nat.add n 2004), ⟨1, ⟨0, some 25, true⟩, 1, [.so (Nat.add n 2003) 0 n 0]⟩),
  ((Nat.add n 2003), ⟨Nat.mul 4 n, ⟨4, some 24, true⟩, 4, argCells n⟩), (2000, ⟨1, ⟨0, some 9, true⟩, 1, [nmA i]⟩)], 6000⟩
noncomputable def hC (q : Bool) (fs : Facts) : Heap := Bool.rec (hF0 fs) (hK fs) q
noncomputable def xsC (i : Nat) : List Nat := match i with
  | 2 => [0]
  | 3 => [0]
  | _ => [0, 1]
noncomputable def facX (n : Nat) : Facts := selfL ++ mayFs n
noncomputable def cutW (q : Bool) (i n : Nat) : Nat → S → S := cutX 7 292 21 [] (fun _ => canC q i n) (needC i n) (fun j => hC q (needC i n j ++ numJ i j ++ facX n)) (xsC i)
noncomputable def rlP (q : Bool) (i k N : Nat) : Bool := roundX Tryz.prog cL XT DL Tryz.f4.ntmps lLaw (hA1 k (lenA k false :: mayN k)) (canL q i (Nat.succ k) k) (atAnyG 7 292 (gwL k) (canL q i 0) mayN [Nat.succ k]) (outK 0 (atAnyG 7 292 (gwL k) (fun _ => canX q i (LA 0)) (fun _ => mayN N) [0])) retL
noncomputable def rlL (q : Bool) (i k : Nat) : Bool := roundX Tryz.prog cL XT DL Tryz.f4.ntmps lLaw (hF0 (lenA k true :: mayN k)) (canL q i 0 k) noK (outK 0 (atAnyG 7 292 [] (fun _ => canX q i (LA 0)) (fun _ => mayN k) [0])) retL
noncomputable def argL (q : Bool) (nm : AV) (a : AV) : List AV := [nm, a, .ag (outS (kyA q))]
noncomputable def fsL : Facts := [(.cmp .leq (.sy 8) (.li .i64 1), false), (.cmp .leq (.sy 8) (.li .i64 64), true)]
noncomputable def fstL (q : Bool) (i n C : Nat) : Bool := evCodeX Tryz.prog cL XT DL Tryz.f4.ntmps (cutW q i n) (headX 7 292 (canL q i 0) mayN [0] [0] (fun _ => canX q i (LN n C)) (fun _ => hA n (mayN n ++ facX n)) 0) cLaw retL (fun _ => noK) retL (wrLs (argL q (nmA i) (LA 0)) big 0) (hF0 fsL) 292
/-- another name; too few, too many arguments -/
noncomputable def nameF : Facts := [(.cmp .eql (.sy 7) (.ls 14 2463397432817095070742700851225956), false), (.cmp .eql (.sy 7) (.ls 3 7561576), false), (.cmp .eql (.sy 7) (.ls 12 31389014717615377969513329513), false), (.cmp .eql (.sy 7) (.ls 17 39279265759193974485341313937393999770224), false), (.cmp .eql (.sy 7) (.ls 3 7628147), false), (.cmp .eql (.sy 7) (.ls 14 2075096198370335216509268027270515), false)]
noncomputable def argO (nm a k : AV) : List AV := [nm, a, .ag (outS k)]
noncomputable def nameR : Bool := setF nameF (startH [] 7) fun h => cL 4 (argO (.x .s (.sy 7)) .any .any) h 292 fun v h _ => finB v h
noncomputable def nilA (i : Nat) : Bool := setF [] (startH [] 7) fun h => cL 4 (argO (nmA i) .sn .any) h 292 fun v h _ => finB v h
noncomputable def offR (i : Nat) (fs : Facts) : Bool := evCodeX Tryz.prog cL XT DL Tryz.f4.ntmps (fun _ S0 => S0) (headX 7 292 (canL true i 0) mayN [] [] (fun _ => canX true i .sn) (fun _ => hF0 []) 0) cLaw retL (fun _ => noK) retL (wrLs (argO (nmA i) (LA 0) .any) big 0) (hF0 fs) 292
end Go.Proofs.YtaecedlhiclkdaaGreatDoor.Rf
