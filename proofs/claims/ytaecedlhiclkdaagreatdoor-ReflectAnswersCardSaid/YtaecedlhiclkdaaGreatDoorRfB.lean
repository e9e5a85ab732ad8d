/- ReflectAnswers: what is asked of values, and the copies of keys, by contract. No condition. -/
import Derived.Test.YtaecedlhiclkdaaGreatDoorRfD
import Derived.Test.YtaecedlhiclkdaaGreatDoorCon
import Derived.Test.YtaecedlhiclkdaaGreatDoorShelf
import Derived.Test.YtaecedlhiclkdaaGreatDoorVxZs
import Derived.WalkKit
import Derived.Handy
namespace Go.Proofs.YtaecedlhiclkdaaGreatDoor.Rf
open Go Vx Con RowKit
set_option linter.unusedVariables false
set_option linter.constructorNameAsVariable false
set_option maxRecDepth 100000

theorem objV : OfVal P 7 (fun n _ _ _ => (!decide (n ≤ 5)) && decide (n ≤ 8)) := by
  intro n x s m w hn hx hs hm h0
  go_enter Tryz.func7, Tryz.ntmps7
  go_wp2
  all_goals go_returns
  all_goals refine ⟨?_, (Below.refl w.heap.size w).alloc (Nat.le_refl _) _⟩
  all_goals show Ending.returned (Value.bool _) = Ending.returned (Value.bool _)
  all_goals refine congrArg (fun b => Ending.returned (Value.bool b)) ?_
  all_goals first | omega | (rw [Bool.eq_iff_iff]; simp; try omega)
theorem den_not {E : Env} {e : SE} {b : Bool} (h : den E e = some (.bool b)) : den E (.not e) = some (.bool (!b)) := by
  simp only [den, h]
noncomputable def objC : Ct := valF fun a _ _ _ => .and (.not (.cmp .leq a (.li .u8 5))) (.cmp .leq a (.li .u8 8))
theorem objC_ok : CtOK P 7 objC := valF_ok objV fun da _ _ _ => den_and (den_not (fact_le da)) (fact_le da)
/-! ### Copies of keys -/
theorem info34 : ∃ i0 z, Tryz.prog.info? 34 = some i0 ∧ i0.zero = some z ∧ i0.size = 2 ∧ z.cells.size = 2 ∧ i0.bytes ≤ 1000 := by
  have e : (match Tryz.prog.info? 34 with
    | some i => (match i.zero with
      | some z => Nat.beq i.size 2 && (Nat.beq z.cells.size 2 && Nat.ble i.bytes 1000)
      | none => false)
    | none => false) = true := by kernel_rfl
  cases h : Tryz.prog.info? 34 with
  | none => rw [h] at e; cases e
  | some i =>
    rw [h] at e
    dsimp only at e
    cases hz : i.zero with
    | none => rw [hz] at e; cases e
    | some z =>
      rw [hz] at e
      simp only [Bool.and_eq_true] at e
      exact ⟨i, z, rfl, hz, Nat.eq_of_beq_eq_true e.1, Nat.eq_of_beq_eq_true e.2.1, Nat.le_of_ble_eq_true e.2.2⟩
theorem cloneK : OfClone P 116 1 := by
  obtain ⟨i0, z, hi, hz, h2, hz2, hby⟩ := info34
  refine ⟨fun w => (AnyE.slices_Clone_nil Tryz.clone116 0 0 w).mono fun e w' ⟨h, hw⟩ => ⟨h, by rw [hw]; exact Below.refl _ _⟩, fun b off n c news w hl hn hc h1 => ?_⟩
  have hb : n * i0.bytes ≤ 140737488355328 := by
    have := Nat.mul_le_mul hn hby
    omega
  refine (AnyE.slices_Clone Tryz.clone116 i0 z 2 i0.bytes hi hz h2 rfl hz2 (by decide) Tryz.sizeOf34 b off n c news w hl (by unfold maxLen; omega) hb hc h1).mono ?_
  rintro e w' ⟨v', rfl, ⟨_, hv⟩, hnil, hbw⟩
  rcases hv with ⟨rfl, _⟩ | ⟨g, cap, cur, rfl, hg, hblk, hcap, hmax, hsz, htake⟩
  · exact absurd rfl hnil
  · exact ⟨⟨g, cap, cur, _, rfl, hg, hblk, hcap, hmax, hsz, htake⟩, hbw⟩
noncomputable def SF : Specs := fun g => match g with
  | 115 => some chkC
  | 7 => some (orC objC (runC c0 7))
  | g => S2 g
theorem SF_ok : SpecOK P SF := by
  intro g C hC
  unfold SF at hC
  split at hC
  · cases hC; exact chkC_ok chk
  · cases hC; exact orC_ok objC_ok (runC_ok c0_ok 7)
  · exact S2_ok _ C hC
noncomputable def cS : CallF := run SF 40
theorem cS_ok : CallOK P cS := run_ok SF_ok 40
noncomputable def DF : DrawF := evDraw PP XT cS
theorem DF_ok : DrawOK P DF := evDraw_ok mixed XT_ok _ cS_ok
/-! ### Fits: an answer of which the cells are 9 .. 35, its keys' cells 36 .. -/
noncomputable def cFit : Code := match Tryz.f66.body with
  | some c => c
  | none => .skip
noncomputable def lFit : Code := (loopsOf cFit).headD .skip
theorem hbF : Tryz.f66.body = some cFit := by kernel_rfl
theorem hcF : loopsOf cFit = [lFit] := by kernel_rfl
theorem hnF : loopsOf lFit = [] := by kernel_rfl
noncomputable def vS (n : Nat) : List AV := [.x (.i .u8) (.sy n), .x .f (.sy (Nat.add n 1)), .x .s (.sy (Nat.add n 2)), .x (.i .i64) (.sy (Nat.add n 3))]
noncomputable def bS (n : Nat) : AV := .x .b (.cmp .eql (.sy n) (.li .u8 1))
noncomputable def outS (keys : AV) : List AV := .x (.i .u8) (.sy 9) :: vS 10 ++ [bS 14, bS 15, .x (.i .u8) (.sy 16)] ++ vS 17 ++ vS 21 ++ vS 25 ++ [bS 29, bS 30, bS 31, keys, .x (.i .u8) (.sy 34), .x .s (.sy 35)]
noncomputable def LK (m : Nat) : AV := .sx 6 m (.sy 32) (.sy 33)
noncomputable def argF (keys : AV) : List AV := [.x (.i .u8) (.sy 7), .x (.i .u8) (.sy 8), .ag (outS keys)]
noncomputable def mA (n : Nat) : SE := .fn 10 (packV (.sy n) (.sy (Nat.add n 1)) (.sy (Nat.add n 2)) (.sy (Nat.add n 3)))
noncomputable def hF0 (fs : Facts) : Heap := T.set (.facts fs) (startH [] 7) fplace
noncomputable def needF : Facts := [(.cmp .leq (.sy 9) (.li .u8 2), true), (.cmp .leq (.sy 9) (.li .u8 0), false), (mA 10, true), (.cmp .leq (.sy 32) (.li .i64 1024), true)]
noncomputable def lenF (k : Nat) (b : Bool) : SE × Bool := (.cmp .leq (.sy 32) (.li .i64 (Int.ofNat k)), b)
noncomputable def elF (k : Nat) : T AV := wrLs [.x .s (.sy (Nat.add 36 (Nat.mul 2 k))), .x (.i .i64) (.sy (Nat.add 37 (Nat.mul 2 k)))] big (Nat.mul 2 k)
noncomputable def hF1 (k : Nat) (fs : Facts) : Heap := T.set (.facts fs) (T.set (.glob 1000000 (Nat.mul 2 (Nat.succ k)) (elF k)) (startH [] 7) 6) fplace
noncomputable def rowF : Vx.Rows := [(2084, ⟨26, ⟨0, some 44, true⟩, 26, outS (LK 0)⟩)]
noncomputable def regF : List (Nat × AV) := [(0, .x (.i .u8) (.sy 7)), (1, .x (.i .u8) (.sy 8)), (5, .p 2084 0), (6, .b false)]
noncomputable def canF (m k : Nat) : Vx.Can := ⟨[(40, LK m), (41, .x (.i .i64) (.sy 32)), (42, .i .i64 (Int.ofNat k))] ++ regF, rowF, Nat.add 2200 (Nat.mul 20 k)⟩
noncomputable def canE : Vx.Can := ⟨regF, rowF, 30000⟩
noncomputable def gwF (k : Nat) : GWk := [([], LK (Nat.succ k), LK 0)]
/-- at the end: no, or what is known then -/
noncomputable def finF (v : AV) (h : Heap) : Bool := match v with
  | .b false => true
  | .b true => hasFs (factsOf h) needF
  | .x .b _ => hasFs (factsOf h) needF
  | _ => false
noncomputable def retQ : S := retF Tryz.prog Tryz.f66 finF
noncomputable def goF (h : Heap) (c : Vx.Can) (k : Nat) : Bool := roundX Tryz.prog cS XT DF Tryz.f66.ntmps lFit h c (atAnyG 7 2084 (gwF k) (canF 0) (fun _ => needF) [Nat.succ k]) (outK 0 (atAnyG 7 2084 (gwF k) (fun _ => canE) (fun _ => needF) [0])) retQ
noncomputable def rfP (k : Nat) : Bool := goF (hF1 k (lenF k false :: needF)) (canF (Nat.succ k) k) k
noncomputable def rfL (k : Nat) : Bool := roundX Tryz.prog cS XT DF Tryz.f66.ntmps lFit (hF0 (lenF k true :: needF)) (canF 0 k) noK (outK 0 (atAnyG 7 2084 [] (fun _ => canE) (fun _ => needF) [0])) retQ
noncomputable def fstF : Bool := evCodeX Tryz.prog cS XT DF Tryz.f66.ntmps (fun _ S0 => S0) (headX 7 2084 (canF 0) (fun _ => needF) [0] [0] (fun _ => canE) (fun _ => hF0 needF) 0) cFit retQ (fun _ => noK) retQ (wrLs (argF (LK 0)) big 0) (hF0 []) 2084
noncomputable def needN : Facts := [(.cmp .leq (.sy 9) (.li .u8 2), true), (.cmp .leq (.sy 9) (.li .u8 0), false), (mA 10, true)]
noncomputable def finN (v : AV) (h : Heap) : Bool := match v with
  | .b false => true
  | .b true => hasFs (factsOf h) needN
  | .x .b _ => hasFs (factsOf h) needN
  | _ => false
noncomputable def nilF : Bool := setF [] (startH [] 7) fun h => cS 66 (argF .sn) h 2084 fun v h _ => finN v h
end Go.Proofs.YtaecedlhiclkdaaGreatDoor.Rf
