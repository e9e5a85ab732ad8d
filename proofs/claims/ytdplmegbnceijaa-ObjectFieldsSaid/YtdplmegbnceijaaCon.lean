/- The ground's functions of this seat as contracts: may a float, may a value be. No condition. -/
import Derived.Test.YtdplmegbnceijaaVxY
import Derived.Test.YtdplmegbnceijaaVxZh
namespace Go.Proofs.Ytdplmegbnceijaa.Con
open Go Vx
set_option linter.unusedVariables false
set_option linter.constructorNameAsVariable false
set_option maxRecDepth 100000

noncomputable abbrev P : Program := Try.prog
theorem d1 {x : Nat} : den (symEV [] 1 [.float .f64 x]) (.sy 1) = some (.float .f64 x) := den_sym 0 rfl (sok_f _)
theorem rf {x : Nat} (hx : x < 18446744073709551616) : Rv (symEV [] 1 [.float .f64 x]) (.x .f (.sy 1)) (.float .f64 x) := rv_sym (s := .f) 0 rfl (sok_f _) ⟨_, rfl, hx⟩
theorem two (x : Nat) : feq x x = true ∨ feq x x = false := by cases feq x x <;> simp
noncomputable def c0 : CallF := run (fun _ => none) 40
theorem c0_ok : CallOK P c0 := run_ok SpecOK.none 40
noncomputable def R1 (g : Nat) (fs : Facts) (args : List AV) (spec : SE) : Bool := setF fs (startH [] 1) (fun h => c0 g args h 2 (fun v h _ => finS spec v h))
noncomputable def R0 (g : Nat) (args : List AV) (b : Bool) : Bool := setF [] (startH [] 1) (fun h => c0 g args h 1 (fun v h _ => finS (.lb b) v h))
theorem one {g : Nat} {fs : Facts} {args : List AV} {ARGS : Array Value} {spec : SE} {x : Nat} {b : Bool} (hf : Holds (symEV [] 1 [.float .f64 x]) fs) (ra : RvL (symEV [] 1 [.float .f64 x]) args ARGS.toList) (hd : den (symEV [] 1 [.float .f64 x]) spec = some (.bool b))
    (he : R1 g fs args spec = true) (w : World) (hs : 0 < w.heap.size) : Calls P g ARGS w fun e w' => e = .returned (.bool b) ∧ RowKit.Below w.heap.size w w' :=
  exprRun c0_ok (Vs := [.float .f64 x]) rfl hf ra hd he w hs
theorem r0 {E : Env} {z : Nat} : RvL E [.f .f64 z] [.float .f64 z] := rvl_cons (by rw [Rv]) rvl_nil
theorem r1 {x : Nat} (hx : x < 18446744073709551616) : RvL (symEV [] 1 [.float .f64 x]) [.x .f (.sy 1)] [.float .f64 x] := rvl_cons (rf hx) rvl_nil
theorem fN {x : Nat} {b : Bool} (h : feq x x = b) : Holds (symEV [] 1 [.float .f64 x]) [(.cmp .eql (.sy 1) (.sy 1), b)] := holds_cons ((den_feq d1 d1).trans (by rw [h])) holds_nil
theorem fZ {x : Nat} {b : Bool} (h : feq x x = b) (h0 : feq x 0 = false) : Holds (symEV [] 1 [.float .f64 x]) [(.cmp .eql (.sy 1) (.sy 1), b), (.cmp .eql (.sy 1) (.lf 0), false)] :=
  holds_cons ((den_feq d1 d1).trans (by rw [h])) (holds_cons ((den_feq d1 rfl).trans (by rw [h0])) holds_nil)
theorem fZ0 {x : Nat} (h0 : feq x 0 = false) : Holds (symEV [] 1 [.float .f64 x]) [(.cmp .eql (.sy 1) (.lf 0), false)] := holds_cons ((den_feq d1 rfl).trans (by rw [h0])) holds_nil
theorem may0 : mayF 0 = true := by kernel_rfl
theorem may1 : mayF 9223372036854775808 = false := by kernel_rfl
theorem feq0 : feq 0 0 = true := by kernel_rfl
theorem feq1 : feq 9223372036854775808 0 = true := by kernel_rfl

theorem nm_nan : R1 28 [(.cmp .eql (.sy 1) (.sy 1), false)] [.x .f (.sy 1)] (.lb true) = true := by kernel_rfl
theorem nm_num : R1 28 [(.cmp .eql (.sy 1) (.sy 1), true)] [.x .f (.sy 1)] (mayS (.sy 1)) = true := by kernel_rfl
theorem numMay : ∀ (x : Nat) (w : World), x < 18446744073709551616 → 0 < w.heap.size → Calls P 28 #[.float .f64 x] w fun e w' => e = .returned (.bool (mayF x)) ∧ RowKit.Below w.heap.size w w' := by
  intro x w hx hs
  rcases two x with h | h
  · exact one (fN h) (r1 hx) (den_mayS d1 h) nm_num w hs
  · exact one (fN h) (r1 hx) (by rw [mayF_nan h]; rfl) nm_nan w hs

theorem rm_0 : R0 32 [.f .f64 0] true = true := by kernel_rfl
theorem rm_1 : R0 32 [.f .f64 9223372036854775808] false = true := by kernel_rfl
theorem rm_nan : R1 32 [(.cmp .eql (.sy 1) (.sy 1), false), (.cmp .eql (.sy 1) (.lf 0), false), (.cmp .geq (.sy 1) (.lf 0xc33fffffffffffff), false)] [.x .f (.sy 1)] (.lb true) = true := by kernel_rfl
noncomputable def rmF (a b : Bool) : Facts := [(.cmp .eql (.sy 1) (.sy 1), true), (.cmp .eql (.sy 1) (.lf 0), false), (.cmp .geq (.sy 1) (.lf 0xc33fffffffffffff), a), (.cmp .leq (.sy 1) (.lf 0x433fffffffffffff), b)]
theorem rm_l : R1 32 (rmF false true) [.x .f (.sy 1)] (.lb false) = true := by kernel_rfl
theorem rm_ll : R1 32 (rmF false false) [.x .f (.sy 1)] (.lb false) = true := by kernel_rfl
theorem rm_g : R1 32 (rmF true false) [.x .f (.sy 1)] (.lb false) = true := by kernel_rfl
theorem rm_i : R1 32 (rmF true true) [.x .f (.sy 1)] (.cmp .eql (.fn 12 (.fn 11 (.sy 1))) (.sy 1)) = true := by kernel_rfl
theorem cmpF_some (x c : Nat) (op : BinOp) (h : op = .geq ∨ op = .leq) : cmpF op x c = some (decide (cmpF op x c = some true)) := by
  obtain ⟨b, hb⟩ : ∃ b, cmpF op x c = some b := by rcases h with rfl | rfl <;> exact ⟨_, rfl⟩
  rw [hb]; cases b <;> simp
theorem den_cmpf {E : Env} {a b : SE} {x y : Nat} (op : BinOp) (h : op = .geq ∨ op = .leq) (ha : den E a = some (.float .f64 x)) (hb : den E b = some (.float .f64 y)) : den E (.cmp op a b) = some (.bool (decide (cmpF op x y = some true))) := by
  simp only [den, ha, hb, cmpV]
  rw [cmpF_some x y op h]; simp
theorem refMay : ∀ (x : Nat) (w : World), x < 18446744073709551616 → 0 < w.heap.size → Calls P 32 #[.float .f64 x] w fun e w' => e = .returned (.bool (mayF x)) ∧ RowKit.Below w.heap.size w w' := by
  intro x w hx hs
  cases h0 : feq x 0
  · rcases two x with h | h
    · have hw := mayF_whole hx h h0
      have dg := den_cmpf (E := symEV [] 1 [.float .f64 x]) .geq (.inl rfl) d1 (b := .lf 0xc33fffffffffffff) rfl
      have dl := den_cmpf (E := symEV [] 1 [.float .f64 x]) .leq (.inr rfl) d1 (b := .lf 0x433fffffffffffff) rfl
      have hh : ∀ a b, decide (cmpF .geq x 0xc33fffffffffffff = some true) = a → decide (cmpF .leq x 0x433fffffffffffff = some true) = b → Holds (symEV [] 1 [.float .f64 x]) (rmF a b) := fun a b ha hb =>
        holds_cons ((den_feq d1 d1).trans (by rw [h])) (holds_cons ((den_feq d1 rfl).trans (by rw [h0])) (holds_cons (dg.trans (by rw [ha])) (holds_cons (dl.trans (by rw [hb])) holds_nil)))
      cases ha : decide (cmpF .geq x 0xc33fffffffffffff = some true)
      · rw [ha] at hw
        have hw : mayF x = false := hw
        cases hb : decide (cmpF .leq x 0x433fffffffffffff = some true)
        · exact one (hh _ _ ha hb) (r1 hx) (by rw [hw]; rfl) rm_ll w hs
        · exact one (hh _ _ ha hb) (r1 hx) (by rw [hw]; rfl) rm_l w hs
      · cases hb : decide (cmpF .leq x 0x433fffffffffffff = some true)
        · rw [ha, hb] at hw
          have hw : mayF x = false := hw
          exact one (hh _ _ ha hb) (r1 hx) (by rw [hw]; rfl) rm_g w hs
        · rw [ha, hb] at hw
          have hw : mayF x = feq (FloatKind.f64.nearest (f2i x)) x := by rw [hw]; simp
          obtain ⟨⟨s, m, i, hn⟩, _⟩ := f2i_between (of_decide_eq_true hb) (of_decide_eq_true ha)
          refine one (hh _ _ ha hb) (r1 hx) ?_ rm_i w hs
          rw [hw]
          exact den_feq (den_fn (den_fn (U := .int .i64 (f2i x)) d1 (by simp only [apf, hn])) rfl) d1
    · rw [mayF_nan h]
      have hg : decide (cmpF .geq x 0xc33fffffffffffff = some true) = false := by
        have : FloatKind.f64.format.order x 0xc33fffffffffffff = none := by
          rcases order_self x with k | k
          · unfold feq at h; rw [k] at h; cases h
          · exact order_nan (.inl k)
        simp [cmpF, this]
      exact one (holds_cons ((den_feq d1 d1).trans (by rw [h])) (holds_cons ((den_feq d1 rfl).trans (by rw [h0])) (holds_cons ((den_cmpf .geq (.inl rfl) d1 rfl).trans (by rw [hg])) holds_nil))) (r1 hx) rfl rm_nan w hs
  · rcases zero_word hx h0 with rfl | rfl
    · rw [may0]; exact closedLit c0_ok r0 rm_0 w hs
    · rw [may1]; exact closedLit c0_ok r0 rm_1 w hs

theorem no_0 : R0 31 [.f .f64 0] true = true := by kernel_rfl
theorem no_1 : R0 31 [.f .f64 9223372036854775808] false = true := by kernel_rfl
theorem no_x : R1 31 [(.cmp .eql (.sy 1) (.lf 0), false)] [.x .f (.sy 1)] (.lb false) = true := by kernel_rfl
theorem nought : ∀ (x : Nat) (w : World), x < 18446744073709551616 → 0 < w.heap.size → Calls P 31 #[.float .f64 x] w fun e w' => e = .returned (.bool (feq x 0 && mayF x)) ∧ RowKit.Below w.heap.size w w' := by
  intro x w hx hs
  cases h0 : feq x 0
  · exact one (fZ0 h0) (r1 hx) rfl no_x w hs
  · rcases zero_word hx h0 with rfl | rfl
    · rw [may0]; exact closedLit c0_ok r0 no_0 w hs
    · rw [may1]; exact closedLit c0_ok r0 no_1 w hs

theorem sa_0 : R0 34 [.f .f64 0, .f .f64 0] true = true := by kernel_rfl
theorem sa_1 : R0 34 [.f .f64 9223372036854775808, .f .f64 9223372036854775808] true = true := by kernel_rfl
theorem sb_1 : R0 34 [.f .f64 9223372036854775808, .f .f64 0] false = true := by kernel_rfl
noncomputable def saF (b : Bool) : Facts := [(.cmp .eql (.sy 1) (.sy 1), b), (.cmp .eql (.sy 1) (.lf 0), false)]
theorem sa_n : R1 34 (saF false) [.x .f (.sy 1), .x .f (.sy 1)] (.lb true) = true := by kernel_rfl
theorem sa_x : R1 34 (saF true) [.x .f (.sy 1), .x .f (.sy 1)] (.lb true) = true := by kernel_rfl
theorem sb_n : R1 34 (saF false) [.x .f (.sy 1), .f .f64 0] (.lb false) = true := by kernel_rfl
theorem sb_x : R1 34 (saF true) [.x .f (.sy 1), .f .f64 0] (.lb false) = true := by kernel_rfl
theorem same : OfSame P 34 := by
  intro x w hx hs
  have rr : ∀ {E : Env} {y z : Nat}, RvL E [.f .f64 y, .f .f64 z] [.float .f64 y, .float .f64 z] := rvl_cons (by rw [Rv]) (rvl_cons (by rw [Rv]) rvl_nil)
  cases h0 : feq x 0
  · rcases two x with h | h
    · exact ⟨one (fZ h h0) (rvl_cons (rf hx) (rvl_cons (rf hx) rvl_nil)) rfl sa_x w hs, one (fZ h h0) (rvl_cons (rf hx) (rvl_cons (by rw [Rv]) rvl_nil)) rfl sb_x w hs⟩
    · exact ⟨one (fZ h h0) (rvl_cons (rf hx) (rvl_cons (rf hx) rvl_nil)) rfl sa_n w hs, one (fZ h h0) (rvl_cons (rf hx) (rvl_cons (by rw [Rv]) rvl_nil)) rfl sb_n w hs⟩
  · rcases zero_word hx h0 with rfl | rfl
    · rw [may0]; exact ⟨closedLit c0_ok rr sa_0 w hs, closedLit c0_ok rr sa_0 w hs⟩
    · rw [may1]; exact ⟨closedLit c0_ok rr sa_1 w hs, closedLit c0_ok rr sb_1 w hs⟩

noncomputable def S1 : Specs := fun g => match g with
  | 28 => some (orC (symC1 .f .b 7) (runC c0 28))
  | 32 => some (orC (symC1 .f .b 7) (runC c0 32))
  | 31 => some (orC (noughtC) (runC c0 31))
  | 34 => some (orC (sameC) (runC c0 34))
  | _ => none
theorem S1_ok : SpecOK P S1 := by
  intro g C hC
  unfold S1 at hC
  split at hC <;> cases hC
  · exact orC_ok (symC1_ok (s0 := .f) (s1 := .b) (c := 7) fun V w hV hs => by obtain ⟨x, rfl, hx⟩ := hV; exact ⟨_, rfl, ⟨_, rfl⟩, numMay x w hx hs⟩) (runC_ok c0_ok 28)
  · exact orC_ok (symC1_ok (s0 := .f) (s1 := .b) (c := 7) fun V w hV hs => by obtain ⟨x, rfl, hx⟩ := hV; exact ⟨_, rfl, ⟨_, rfl⟩, refMay x w hx hs⟩) (runC_ok c0_ok 32)
  · exact orC_ok (noughtC_ok nought) (runC_ok c0_ok 31)
  · exact orC_ok (sameC_ok same) (runC_ok c0_ok 34)
noncomputable def c1 : CallF := run S1 40
theorem c1_ok : CallOK P c1 := run_ok S1_ok 40
theorem v1 {x : Nat} {s : ByteArray} {m : Int} : den (symEV [] 1 [.float .f64 x, .string s, .int .i64 m]) (.sy 1) = some (.float .f64 x) := den_sym 0 rfl (sok_f _)
theorem v2 {x : Nat} {s : ByteArray} {m : Int} : den (symEV [] 1 [.float .f64 x, .string s, .int .i64 m]) (.sy 2) = some (.string s) := den_sym 1 rfl (sok_s _)
theorem v3 {x : Nat} {s : ByteArray} {m : Int} : den (symEV [] 1 [.float .f64 x, .string s, .int .i64 m]) (.sy 3) = some (.int .i64 m) := den_sym 2 rfl (sok_i _ _)
noncomputable def RV (sp : Nat → SE → SE → SE → SE) (g : Nat) (n : Nat) : Bool := setF [] (startH [] 1) (fun h => c1 g [.ag [.i .u8 (Int.ofNat n), .x .f (.sy 1), .x .s (.sy 2), .x (.i .i64) (.sy 3)]] h 4 (fun v h _ => finS (sp n (.sy 1) (.sy 2) (.sy 3)) v h))
noncomputable def RG (g : Nat) (fs : Facts) (spec : SE) : Bool := setF fs (startH [] 1) (fun h => c1 g [.ag [.x (.i .u8) (.sy 1), .x .f (.sy 2), .x .s (.sy 3), .x (.i .i64) (.sy 4)]] h 5 (fun v h _ => finS spec v h))
theorem vrv {n : Int} {x : Nat} {s : ByteArray} {m : Int} (hx : x < 18446744073709551616) (hs : (s.size : Int) ≤ 9223372036854775807) (hm : -9223372036854775808 ≤ m ∧ m ≤ 9223372036854775807) :
    RvL (symEV [] 1 [.float .f64 x, .string s, .int .i64 m]) [.ag [.i .u8 n, .x .f (.sy 1), .x .s (.sy 2), .x (.i .i64) (.sy 3)]] [.agg #[.int .u8 n, .float .f64 x, .string s, .int .i64 m]] :=
  rvl_cons (rv_ag (rvl_cons (by rw [Rv]) (rvl_cons (rv_sym (s := .f) 0 rfl (sok_f _) ⟨_, rfl, hx⟩) (rvl_cons (rv_sym (s := .s) 1 rfl (sok_s _) ⟨_, rfl, hs⟩) (rvl_cons (rv_sym (s := .i .i64) 2 rfl (sok_i _ _) ⟨_, rfl, hm⟩) rvl_nil))))) rvl_nil
theorem grv {n : Int} {x : Nat} {s : ByteArray} {m : Int} (hn : 0 ≤ n ∧ n ≤ 255) (hx : x < 18446744073709551616) (hs : (s.size : Int) ≤ 9223372036854775807) (hm : -9223372036854775808 ≤ m ∧ m ≤ 9223372036854775807) :
    RvL (symEV [] 1 [.int .u8 n, .float .f64 x, .string s, .int .i64 m]) [.ag [.x (.i .u8) (.sy 1), .x .f (.sy 2), .x .s (.sy 3), .x (.i .i64) (.sy 4)]] [.agg #[.int .u8 n, .float .f64 x, .string s, .int .i64 m]] :=
  rvl_cons (rv_ag (rvl_cons (rv_sym (s := .i .u8) 0 rfl (sok_i _ _) ⟨_, rfl, hn⟩) (rvl_cons (rv_sym (s := .f) 1 rfl (sok_f _) ⟨_, rfl, hx⟩) (rvl_cons (rv_sym (s := .s) 2 rfl (sok_s _) ⟨_, rfl, hs⟩) (rvl_cons (rv_sym (s := .i .i64) 3 rfl (sok_i _ _) ⟨_, rfl, hm⟩) rvl_nil))))) rvl_nil
theorem g1 {n : Int} {x : Nat} {s : ByteArray} {m : Int} : den (symEV [] 1 [.int .u8 n, .float .f64 x, .string s, .int .i64 m]) (.sy 1) = some (.int .u8 n) := den_sym 0 rfl (sok_i _ _)
theorem g2 {n : Int} {x : Nat} {s : ByteArray} {m : Int} : den (symEV [] 1 [.int .u8 n, .float .f64 x, .string s, .int .i64 m]) (.sy 2) = some (.float .f64 x) := den_sym 1 rfl (sok_f _)
theorem g3 {n : Int} {x : Nat} {s : ByteArray} {m : Int} : den (symEV [] 1 [.int .u8 n, .float .f64 x, .string s, .int .i64 m]) (.sy 3) = some (.string s) := den_sym 2 rfl (sok_s _)
theorem g4 {n : Int} {x : Nat} {s : ByteArray} {m : Int} : den (symEV [] 1 [.int .u8 n, .float .f64 x, .string s, .int .i64 m]) (.sy 4) = some (.int .i64 m) := den_sym 3 rfl (sok_i _ _)
theorem ofMay {sp : Nat → SE → SE → SE → SE} (hsp : ∀ {E : Env} {b c d : SE} {r : Int} {x : Nat} {s : ByteArray}, den E b = some (.float .f64 x) → den E c = some (.string s) → den E d = some (.int .i64 r) → ∀ n : Nat, n ≤ 8 → den E (sp n b c d) = some (.bool (mayV n x s r))) {g : Nat} (h : ∀ n : Nat, n ≤ 8 → RV sp g n = true) (hg : RG g [(.cmp .leq (.sy 1) (.li .u8 8), false)] (.lb false) = true) : OfVal P g mayV := by
  intro n x s m w hn hx hs hm hz
  by_cases h8 : n ≤ 8
  · obtain ⟨k, rfl⟩ : ∃ k : Nat, n = k := ⟨n.toNat, by omega⟩
    exact exprRun c1_ok (Vs := [.float .f64 x, .string s, .int .i64 m]) rfl holds_nil (vrv hx hs hm) (hsp v1 v2 v3 k (by omega)) (h k (by omega)) w hz
  · rw [mayV_great (by omega)]
    exact exprRun c1_ok (Vs := [.int .u8 n, .float .f64 x, .string s, .int .i64 m]) rfl (holds_cons ((fact_le g1).trans (by rw [decide_eq_false h8])) holds_nil) (grv hn hx hs hm) rfl hg w hz
theorem valMay0 : RV mayVS 14 0 = true := by kernel_rfl
theorem valMay1 : RV mayVS 14 1 = true := by kernel_rfl
theorem valMay2 : RV mayVS 14 2 = true := by kernel_rfl
theorem valMay3 : RV mayVS 14 3 = true := by kernel_rfl
theorem valMay4 : RV mayVS 14 4 = true := by kernel_rfl
theorem valMay5 : RV mayVS 14 5 = true := by kernel_rfl
theorem valMay6 : RV mayVS 14 6 = true := by kernel_rfl
theorem valMay7 : RV mayVS 14 7 = true := by kernel_rfl
theorem valMay8 : RV mayVS 14 8 = true := by kernel_rfl
theorem valMayG : RG 14 [(.cmp .leq (.sy 1) (.li .u8 8), false)] (.lb false) = true := by kernel_rfl
theorem valMay : OfVal P 14 mayV   := ofMay den_mayVS (fun n hn => match n, hn with | 0, _ => valMay0 | 1, _ => valMay1 | 2, _ => valMay2 | 3, _ => valMay3 | 4, _ => valMay4 | 5, _ => valMay5 | 6, _ => valMay6 | 7, _ => valMay7 | 8, _ => valMay8) valMayG
theorem refVMay0 : RV mayRS 23 0 = true := by kernel_rfl
theorem refVMay1 : RV mayRS 23 1 = true := by kernel_rfl
theorem refVMay2 : RV mayRS 23 2 = true := by kernel_rfl
theorem refVMay3 : RV mayRS 23 3 = true := by kernel_rfl
theorem refVMay4 : RV mayRS 23 4 = true := by kernel_rfl
theorem refVMay5 : RV mayRS 23 5 = true := by kernel_rfl
theorem refVMay6 : RV mayRS 23 6 = true := by kernel_rfl
theorem refVMay7 : RV mayRS 23 7 = true := by kernel_rfl
theorem refVMay8 : RV mayRS 23 8 = true := by kernel_rfl
theorem refVMayG : RG 23 [(.cmp .leq (.sy 1) (.li .u8 8), false)] (.lb false) = true := by kernel_rfl
theorem refVMay : OfVal P 23 mayV   := ofMay den_mayRS (fun n hn => match n, hn with | 0, _ => refVMay0 | 1, _ => refVMay1 | 2, _ => refVMay2 | 3, _ => refVMay3 | 4, _ => refVMay4 | 5, _ => refVMay5 | 6, _ => refVMay6 | 7, _ => refVMay7 | 8, _ => refVMay8) refVMayG
theorem bareR : RG 21 [] (.and (.cmp .eql (.sy 1) (.li .u8 0)) (.and (.cmp .eql (.sy 3) (.ls 0 0)) (.and (.cmp .eql (.sy 4) (.li .i64 0)) (.and (.cmp .eql (.sy 2) (.lf 0)) (.fn 7 (.sy 2)))))) = true := by kernel_rfl
theorem bare : OfVal P 21 bareV := by
  intro n x s m w hn hx hs hm hz
  rw [bareV_eq]
  exact exprRun c1_ok (Vs := [.int .u8 n, .float .f64 x, .string s, .int .i64 m]) rfl holds_nil (grv hn hx hs hm) (den_and (fact_eq g1) (den_and (den_empty g3) (den_and (fact_eq g4) (den_and (den_feq g2 rfl) (den_fn g2 rfl))))) bareR w hz

noncomputable def S2 : Specs := fun g => match g with
  | 28 => some (orC (symC1 .f .b 7) (runC c0 28))
  | 32 => some (orC (symC1 .f .b 7) (runC c0 32))
  | 31 => some (orC (noughtC) (runC c0 31))
  | 34 => some (orC (sameC) (runC c0 34))
  | 14 => some (orC (mayC) (runC c0 14))
  | 23 => some (orC (mayC) (runC c0 23))
  | 21 => some (orC (bareC) (runC c0 21))
  | _ => none
theorem S2_ok : SpecOK P S2 := by
  intro g C hC
  unfold S2 at hC
  split at hC <;> cases hC
  · exact orC_ok (symC1_ok (s0 := .f) (s1 := .b) (c := 7) fun V w hV hs => by obtain ⟨x, rfl, hx⟩ := hV; exact ⟨_, rfl, ⟨_, rfl⟩, numMay x w hx hs⟩) (runC_ok c0_ok 28)
  · exact orC_ok (symC1_ok (s0 := .f) (s1 := .b) (c := 7) fun V w hV hs => by obtain ⟨x, rfl, hx⟩ := hV; exact ⟨_, rfl, ⟨_, rfl⟩, refMay x w hx hs⟩) (runC_ok c0_ok 32)
  · exact orC_ok (noughtC_ok nought) (runC_ok c0_ok 31)
  · exact orC_ok (sameC_ok same) (runC_ok c0_ok 34)
  · exact orC_ok (mayC_ok valMay) (runC_ok c0_ok 14)
  · exact orC_ok (mayC_ok refVMay) (runC_ok c0_ok 23)
  · exact orC_ok (bareC_ok bare) (runC_ok c0_ok 21)
noncomputable def c2 : CallF := run S2 40
theorem c2_ok : CallOK P c2 := run_ok S2_ok 40
end Go.Proofs.Ytdplmegbnceijaa.Con
