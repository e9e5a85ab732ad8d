/- The ground's functions of this seat as contracts: may a float, may a value be. No condition. -/
import Derived.Test.YtaecedlhiclkdaaGreatDoorVxY
import Derived.Test.YtaecedlhiclkdaaGreatDoorVxZh
namespace Go.Proofs.YtaecedlhiclkdaaGreatDoor.Con
open Go Vx
set_option linter.unusedVariables false
set_option linter.constructorNameAsVariable false
set_option maxRecDepth 100000

noncomputable abbrev P : Program := Tryz.prog
theorem d1 {x : Nat} : den (symEV [] 1 [.float .f64 x]) (.sy 1) = some (.float .f64 x) := den_sym 0 rfl (sok_f _)
theorem rf {x : Nat} (hx : x < 18446744073709551616) : Rv (symEV [] 1 [.float .f64 x]) (.x .f (.sy 1)) (.float .f64 x) := rv_sym (s := .f) 0 rfl (sok_f _) ⟨_, rfl, hx⟩
theorem two (x : Nat) : feq x x = true ∨ feq x x = false := by cases feq x x <;> simp
noncomputable def c0 : CallF := run (fun _ => none) 40
theorem c0_ok : CallOK P c0 := run_ok SpecOK.none 40
noncomputable def R1 (g : Nat) (fs : Facts) (args : List AV) (spec : SE) : Bool := setF fs (startH [] 1) (fun h => c0 g args h 2 (fun v h _ => finS spec v h))
noncomputable def R0 (g : Nat) (args : List AV) (b : Bool) : Bool := setF [] (startH [] 1) (fun h => c0 g args h 1 (fun v h _ => finS (.lb b) v h))
theorem one {g : Nat} {fs : Facts} {args : List AV} {ARGS : Array Value} {spec : SE} {x : Nat} {b : Bool} (hf : Holds (symEV [] 1 [.float .f64 x]) fs) (ra : RvL (symEV [] 1 [.float .f64 x]) args ARGS.toList) (hd : den (symEV [] 1 [.float .f64 x]) spec = some (.bool b))
    (he : R1 g fs args spec = true) (w : World) (hs : 0 < w.heap.size) : Calls P g ARGS w fun e w' => e = .returned (.bool b) ∧ RowKit.Below w.heap.size w w' :=
  exprRun c0_ok (Vs := [.float .f64 x]) rfl hf ra hd he w hs
theorem r0 {E : Env} {z : Nat} : RvL E [.f .f64 z] [.float .f64 z] := rvl_cons (by rw [Rv]) rvl_nil
theorem r1 {x : Nat} (hx : x < 18446744073709551616) : RvL (symEV [] 1 [.float .f64 x]) [.x .f (.sy 1)] [.float .f64 x] := rvl_cons (rf hx) rvl_nil
theorem fN {x : Nat} {b : Bool} (h : feq x x = b) : Holds (symEV [] 1 [.float .f64 x]) [(.cmp .eql (.sy 1) (.sy 1), b)] := holds_cons ((den_feq d1 d1).trans (by rw [h])) holds_nil
theorem fZ {x : Nat} {b : Bool} (h : feq x x = b) (h0 : feq x 0 = false) : Holds (symEV [] 1 [.float .f64 x]) [(.cmp .eql (.sy 1) (.sy 1), b), (.cmp .eql (.sy 1) (.lf 0), false)] :=
  holds_cons ((den_feq d1 d1).trans (by rw [h])) (holds_cons ((den_feq d1 rfl).trans (by rw [h0])) holds_nil)
theorem fZ0 {x : Nat} (h0 : feq x 0 = false) : Holds (symEV [] 1 [.float .f64 x]) [(.cmp .eql (.sy 1) (.lf 0), false)] := holds_cons ((den_feq d1 rfl).trans (by rw [h0])) holds_nil
theorem may0 : mayF 0 = true := by kernel_rfl
theorem may1 : mayF 9223372036854775808 = false := by kernel_rfl
theorem feq0 : feq 0 0 = true := by kernel_rfl
theorem feq1 : feq 9223372036854775808 0 = true := by kernel_rfl

theorem nm_nan : R1 32 [(.cmp .eql (.sy 1) (.sy 1), false)] [.x .f (.sy 1)] (.lb true) = true := by kernel_rfl
theorem nm_num : R1 32 [(.cmp .eql (.sy 1) (.sy 1), true)] [.x .f (.sy 1)] (mayS (.sy 1)) = true := by kernel_rfl
theorem numMay : ∀ (x : Nat) (w : World), x < 18446744073709551616 → 0 < w.heap.size → Calls P 32 #[.float .f64 x] w fun e w' => e = .returned (.bool (mayF x)) ∧ RowKit.Below w.heap.size w w' := by
  intro x w hx hs
  rcases two x with h | h
  · exact one (fN h) (r1 hx) (den_mayS d1 h) nm_num w hs
  · exact one (fN h) (r1 hx) (by rw [mayF_nan h]; rfl) nm_nan w hs

noncomputable def S1 : Specs := fun g => match g with
  | 32 => some (orC (symC1 .f .b 7) (runC c0 32))
  | _ => none
theorem S1_ok : SpecOK P S1 := by
  intro g C hC
  unfold S1 at hC
  split at hC <;> cases hC
  · exact orC_ok (symC1_ok (s0 := .f) (s1 := .b) (c := 7) fun V w hV hs => by obtain ⟨x, rfl, hx⟩ := hV; exact ⟨_, rfl, ⟨_, rfl⟩, numMay x w hx hs⟩) (runC_ok c0_ok 32)
noncomputable def c1 : CallF := run S1 40
theorem c1_ok : CallOK P c1 := run_ok S1_ok 40
theorem v1 {x : Nat} {s : ByteArray} {m : Int} : den (symEV [] 1 [.float .f64 x, .string s, .int .i64 m]) (.sy 1) = some (.float .f64 x) := den_sym 0 rfl (sok_f _)
theorem v2 {x : Nat} {s : ByteArray} {m : Int} : den (symEV [] 1 [.float .f64 x, .string s, .int .i64 m]) (.sy 2) = some (.string s) := den_sym 1 rfl (sok_s _)
theorem v3 {x : Nat} {s : ByteArray} {m : Int} : den (symEV [] 1 [.float .f64 x, .string s, .int .i64 m]) (.sy 3) = some (.int .i64 m) := den_sym 2 rfl (sok_i _ _)
noncomputable def RV (sp : Nat → SE → SE → SE → SE) (g : Nat) (n : Nat) : Bool := setF [] (startH [] 1) (fun h => c1 g [.ag [.i .u8 (Int.ofNat n), .x .f (.sy 1), .x .s (.sy 2), .x (.i .i64) (.sy 3)]] h 4 (fun v h _ => finS (sp n (.sy 1) (.sy 2) (.sy 3)) v h))
noncomputable def RG (g : Nat) (fs : Facts) (spec : SE) : Bool := setF fs (startH [] 1) (fun h => c1 g [.ag [.x (.i .u8) (.sy 1), .x .f (.sy 2), .x .s (.sy 3), .x (.i .i64) (.sy 4)]] h 5 (fun v h _ => finS spec v h))
theorem vrv {n : Int} {x : Nat} {s : ByteArray} {m : Int} (hx : x < 18446744073709551616) (hs : (s.size : Int) ≤ 9223372036854775807) (hm : -9223372036854775808 ≤ m ∧ m ≤ 9223372036854775807) :
    RvL (symEV [] 1 [.float .f64 x, .string s, .int .i64 m]) [.ag [.i .u8 n, .x .f (.sy 1), .x .s (.sy 2), .x (.i .i64) (.sy 3)]] [.agg #[.int .u8 n, .float .f64 x, .string s, .int .i64 m]] :=
  rvl_cons (rv_ag (rvl_cons (by rw [Rv]) (rvl_cons (rv_sym (s := .f) 0 rfl (sok_f _) ⟨_, rfl, hx⟩) (rvl_cons (rv_sym (s := .s) 1 rfl (sok_s _) ⟨_, rfl, hs⟩) (rvl_cons (rv_sym (s := .i .i64) 2 rfl (sok_i _ _) ⟨_, rfl, hm⟩) rvl_nil))))) rvl_nil
theorem grv {n : Int} {x : Nat} {s : ByteArray} {m : Int} (hn : 0 ≤ n ∧ n ≤ 255) (hx : x < 18446744073709551616) (hs : (s.size : Int) ≤ 9223372036854775807) (hm : -9223372036854775808 ≤ m ∧ m ≤ 9223372036854775807) :
    RvL (symEV [] 1 [.int .u8 n, .float .f64 x, .string s, .int .i64 m]) [.ag [.x (.i .u8) (.sy 1), .x .f (.sy 2), .x .s (.sy 3), .x (.i .i64) (.sy 4)]] [.agg #[.int .u8 n, .float .f64 x, .string s, .int .i64 m]] :=
  rvl_cons (rv_ag (rvl_cons (rv_sym (s := .i .u8) 0 rfl (sok_i _ _) ⟨_, rfl, hn⟩) (rvl_cons (rv_sym (s := .f) 1 rfl (sok_f _) ⟨_, rfl, hx⟩) (rvl_cons (rv_sym (s := .s) 2 rfl (sok_s _) ⟨_, rfl, hs⟩) (rvl_cons (rv_sym (s := .i .i64) 3 rfl (sok_i _ _) ⟨_, rfl, hm⟩) rvl_nil))))) rvl_nil
theorem g1 {n : Int} {x : Nat} {s : ByteArray} {m : Int} : den (symEV [] 1 [.int .u8 n, .float .f64 x, .string s, .int .i64 m]) (.sy 1) = some (.int .u8 n) := den_sym 0 rfl (sok_i _ _)
theorem g2 {n : Int} {x : Nat} {s : ByteArray} {m : Int} : den (symEV [] 1 [.int .u8 n, .float .f64 x, .string s, .int .i64 m]) (.sy 2) = some (.float .f64 x) := den_sym 1 rfl (sok_f _)
theorem g3 {n : Int} {x : Nat} {s : ByteArray} {m : Int} : den (symEV [] 1 [.int .u8 n, .float .f64 x, .string s, .int .i64 m]) (.sy 3) = some (.string s) := den_sym 2 rfl (sok_s _)
theorem g4 {n : Int} {x : Nat} {s : ByteArray} {m : Int} : den (symEV [] 1 [.int .u8 n, .float .f64 x, .string s, .int .i64 m]) (.sy 4) = some (.int .i64 m) := den_sym 3 rfl (sok_i _ _)
theorem ofMay {sp : Nat → SE → SE → SE → SE} (hsp : ∀ {E : Env} {b c d : SE} {r : Int} {x : Nat} {s : ByteArray}, den E b = some (.float .f64 x) → den E c = some (.string s) → den E d = some (.int .i64 r) → ∀ n : Nat, n ≤ 8 → den E (sp n b c d) = some (.bool (mayV n x s r))) {g : Nat} (h : ∀ n : Nat, n ≤ 8 → RV sp g n = true) (hg : RG g [(.cmp .leq (.sy 1) (.li .u8 8), false)] (.lb false) = true) : OfVal P g mayV := by
  intro n x s m w hn hx hs hm hz
  by_cases h8 : n ≤ 8
  · obtain ⟨k, rfl⟩ : ∃ k : Nat, n = k := ⟨n.toNat, by omega⟩
    exact exprRun c1_ok (Vs := [.float .f64 x, .string s, .int .i64 m]) rfl holds_nil (vrv hx hs hm) (hsp v1 v2 v3 k (by omega)) (h k (by omega)) w hz
  · rw [mayV_great (by omega)]
    exact exprRun c1_ok (Vs := [.int .u8 n, .float .f64 x, .string s, .int .i64 m]) rfl (holds_cons ((fact_le g1).trans (by rw [decide_eq_false h8])) holds_nil) (grv hn hx hs hm) rfl hg w hz
theorem valMay0 : RV mayVS 10 0 = true := by kernel_rfl
theorem valMay1 : RV mayVS 10 1 = true := by kernel_rfl
theorem valMay2 : RV mayVS 10 2 = true := by kernel_rfl
theorem valMay3 : RV mayVS 10 3 = true := by kernel_rfl
theorem valMay4 : RV mayVS 10 4 = true := by kernel_rfl
theorem valMay5 : RV mayVS 10 5 = true := by kernel_rfl
theorem valMay6 : RV mayVS 10 6 = true := by kernel_rfl
theorem valMay7 : RV mayVS 10 7 = true := by kernel_rfl
theorem valMay8 : RV mayVS 10 8 = true := by kernel_rfl
theorem valMayG : RG 10 [(.cmp .leq (.sy 1) (.li .u8 8), false)] (.lb false) = true := by kernel_rfl
theorem valMay : OfVal P 10 mayV   := ofMay den_mayVS (fun n hn => match n, hn with | 0, _ => valMay0 | 1, _ => valMay1 | 2, _ => valMay2 | 3, _ => valMay3 | 4, _ => valMay4 | 5, _ => valMay5 | 6, _ => valMay6 | 7, _ => valMay7 | 8, _ => valMay8) valMayG

noncomputable def S2 : Specs := fun g => match g with
  | 32 => some (orC (symC1 .f .b 7) (runC c0 32))
  | 10 => some (orC (mayC) (runC c0 10))
  | _ => none
theorem S2_ok : SpecOK P S2 := by
  intro g C hC
  unfold S2 at hC
  split at hC <;> cases hC
  · exact orC_ok (symC1_ok (s0 := .f) (s1 := .b) (c := 7) fun V w hV hs => by obtain ⟨x, rfl, hx⟩ := hV; exact ⟨_, rfl, ⟨_, rfl⟩, numMay x w hx hs⟩) (runC_ok c0_ok 32)
  · exact orC_ok (mayC_ok valMay) (runC_ok c0_ok 10)
noncomputable def c2 : CallF := run S2 40
theorem c2_ok : CallOK P c2 := run_ok S2_ok 40
end Go.Proofs.YtaecedlhiclkdaaGreatDoor.Con
