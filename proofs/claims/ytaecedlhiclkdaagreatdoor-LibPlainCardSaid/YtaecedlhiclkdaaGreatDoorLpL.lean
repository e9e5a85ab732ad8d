/- LibPlain: what the law's own run takes by contract. No condition. -/
import Derived.Test.YtaecedlhiclkdaaGreatDoorLpG
namespace Go.Proofs.YtaecedlhiclkdaaGreatDoor.Lp
open Go Vx Con RowKit
set_option linter.unusedVariables false
set_option linter.constructorNameAsVariable false
set_option maxRecDepth 100000

/-! ### A question about a value: told both ways, with what is then known -/
noncomputable def askF (q : Facts → SE → SE → SE → SE → Nat) (t f : Facts → SE → SE → SE → SE → Facts) : Ct := fun args h n k => match args with
  | [v] => valK v fun a b c d => d3 (q (factsOf h) a b c d) (bc (setF (t (factsOf h) a b c d ++ factsOf h) h fun h1 => k (.b true) h1 n) (setF (f (factsOf h) a b c d ++ factsOf h) h fun h1 => k (.b false) h1 n) false) (k (.b true) h n) (k (.b false) h n)
  | _ => false
theorem askF_ok {g : FuncId} {F : Int → Nat → ByteArray → Int → Bool} {q : Facts → SE → SE → SE → SE → Nat} {t f : Facts → SE → SE → SE → SE → Facts} (H : OfVal P g F)
    (hq : ∀ {E : Env} {fs : Facts} {a b c d : SE} {n r : Int} {x : Nat} {s : ByteArray}, Holds E fs → den E a = some (.int .u8 n) → den E b = some (.float .f64 x) → den E c = some (.string s) → den E d = some (.int .i64 r) → (q fs a b c d = 1 → F n x s r = true) ∧ (2 ≤ q fs a b c d → F n x s r = false))
    (ht : ∀ {E : Env} {fs : Facts} {a b c d : SE} {n r : Int} {x : Nat} {s : ByteArray}, Holds E fs → den E a = some (.int .u8 n) → den E b = some (.float .f64 x) → den E c = some (.string s) → den E d = some (.int .i64 r) → F n x s r = true → Holds E (t fs a b c d))
    (hf : ∀ {E : Env} {fs : Facts} {a b c d : SE} {n r : Int} {x : Nat} {s : ByteArray}, Holds E fs → den E a = some (.int .u8 n) → den E b = some (.float .f64 x) → den E c = some (.string s) → den E d = some (.int .i64 r) → F n x s r = false → Holds E (f fs a b c d)) : CtOK P g (askF q t f) := by
  intro args ARGS E h nx w k he ra hr
  unfold askF at he
  split at he <;> try (cases he; done)
  obtain ⟨V, hA, rx⟩ := ra.one
  have hA : ARGS = #[V] := by apply Array.ext'; simpa using hA
  subst hA
  obtain ⟨a, b, c, d, n, x, s, m, rfl, q1, q2, q3, q4, da, db, dc, dd, hs, he⟩ := valK_ok he rx hr
  have hF := factsOf_ok hr
  refine (H n x s m w q1 q2 q3 q4 hs).mono ?_
  rintro e w' ⟨rfl, hb⟩
  refine ⟨_, rfl, ?_⟩
  have hr' := hr.below hb
  have qq := hq hF da db dc dd
  cases hv : q (factsOf h) a b c d with
  | zero =>
    rw [hv] at he
    have he : bc (setF (t (factsOf h) a b c d ++ factsOf h) h fun h1 => k (.b true) h1 nx) (setF (f (factsOf h) a b c d ++ factsOf h) h fun h1 => k (.b false) h1 nx) false = true := he
    obtain ⟨he1, he2⟩ := bc_and he
    cases hv2 : F n x s m with
    | true =>
      obtain ⟨h1, z1, z2, z3⟩ := setF_ok he1 hr' (holds_app (ht hF da db dc dd hv2) hF)
      exact ⟨.b true, h1, nx, E, by rw [Rv], z2, (Goes.below hb).trans z3.goes, z1⟩
    | false =>
      obtain ⟨h1, z1, z2, z3⟩ := setF_ok he2 hr' (holds_app (hf hF da db dc dd hv2) hF)
      exact ⟨.b false, h1, nx, E, by rw [Rv], z2, (Goes.below hb).trans z3.goes, z1⟩
  | succ j =>
    rw [hv] at he qq
    cases j with
    | zero =>
      rw [qq.1 rfl]
      exact ⟨.b true, h, nx, E, by rw [Rv], hr', Goes.below hb, he⟩
    | succ j =>
      rw [qq.2 (by omega)]
      exact ⟨.b false, h, nx, E, by rw [Rv], hr', Goes.below hb, he⟩
noncomputable def objE (a : SE) : SE := .and (.not (.cmp .leq a (.li .u8 5))) (.cmp .leq a (.li .u8 8))
noncomputable def orN (a b : Nat) : Nat := Nat.rec (motive := fun _ => Nat) b (fun m _ => Nat.succ m) a
noncomputable def objQ (fs : Facts) (a : SE) : Nat := orN (decX fs (objE a)) (Vx.look (objE a) fs)
theorem den_obj {E : Env} {a : SE} {n : Int} (da : den E a = some (.int .u8 n)) : den E (objE a) = some (.bool ((!decide (n ≤ 5)) && decide (n ≤ 8))) := den_and (den_not (fact_le da)) (fact_le da)
theorem objQ_ok {E : Env} {fs : Facts} {a : SE} {n : Int} (hf : Holds E fs) (da : den E a = some (.int .u8 n)) : (objQ fs a = 1 → ((!decide (n ≤ 5)) && decide (n ≤ 8)) = true) ∧ (2 ≤ objQ fs a → ((!decide (n ≤ 5)) && decide (n ≤ 8)) = false) := by
  have d := den_obj da
  have k1 := decX_ok hf d
  have k2 := look_ok (e := objE a) hf
  unfold objQ orN
  cases hv : decX fs (objE a) with
  | zero =>
    rw [d] at k2
    exact ⟨fun h => by have := k2.1 h; injection this with this; injection this with this, fun h => by have := k2.2 h; injection this with this; injection this with this⟩
  | succ j =>
    rw [hv] at k1
    exact k1
noncomputable def objK : Ct := askF (fun fs a _ _ _ => objQ fs a) (fun _ a _ _ _ => [(objE a, true)]) (fun _ a _ _ _ => [(objE a, false)])
theorem objK_ok : CtOK P 7 objK := askF_ok objV (fun hf da _ _ _ => objQ_ok hf da) (fun _ da _ _ _ h => holds_cons ((den_obj da).trans (by rw [h])) holds_nil) (fun _ da _ _ _ h => holds_cons ((den_obj da).trans (by rw [h])) holds_nil)
noncomputable def mayT (fs : Facts) (a b c d : SE) : Facts := [(.fn 10 (packV a b c d), true), (.cmp .leq (.len c) (.li .i64 4096), true), bif Nat.ble 2 (Vx.look (objE a) fs) then (.cmp .leq a (.li .u8 5), true) else (.cmp .leq a (.li .u8 8), true)]
noncomputable def mayK : Ct := askF (fun fs a b c d => decX fs (.fn 10 (packV a b c d))) mayT (fun _ a b c d => [(.fn 10 (packV a b c d), false)])
theorem mayK_ok (H : OfVal P 10 mayV) : CtOK P 10 mayK := askF_ok H (fun hf da db dc dd => decX_ok hf (den_may da db dc dd)) (fun {E fs a b c d n r x s} hf da db dc dd h => by
  have hm' := h
  unfold mayV at hm'
  simp only [Bool.and_eq_true, decide_eq_true_eq] at hm'
  refine holds_cons ((den_may da db dc dd).trans (by rw [h])) (holds_cons ((fact_le (den_len dc)).trans (by rw [decide_eq_true hm'.1.2])) ?_)
  cases hb : Nat.ble 2 (Vx.look (objE a) fs) with
  | false =>
    show Holds E [(SE.cmp BinOp.leq a (SE.li IntKind.u8 8), true)]
    exact holds_cons ((fact_le da).trans (by rw [decide_eq_true hm'.1.1.1])) holds_nil
  | true =>
    have := (look_ok (e := objE a) hf).2 (Nat.le_of_ble_eq_true hb)
    rw [den_obj da] at this
    injection this with this
    injection this with this
    show Holds E [(SE.cmp BinOp.leq a (SE.li IntKind.u8 5), true)]
    refine holds_cons ((fact_le da).trans ?_) holds_nil
    rw [decide_eq_true hm'.1.1.1, Bool.and_true] at this
    rw [show decide (n ≤ 5) = true by simpa using this]) (fun _ da db dc dd h => holds_cons ((den_may da db dc dd).trans (by rw [h])) holds_nil)
theorem alive0 : c0 5 [] (T.full .gone 20) 1 (fun v _ _ => match v with | .b y => (y == true) | _ => false) = true := by kernel_rfl
theorem alive (w : World) : Calls P 5 #[] w fun e w' => e = .returned (.bool true) ∧ RowKit.Below w.heap.size w w' := closed c0_ok alive0 w
noncomputable def aliveC : Ct := fun args h nxt k => match args with
  | [] => k (.b true) h nxt
  | _ => false
theorem aliveC_ok : CtOK P 5 aliveC := by
  apply ctExpr
  intro args ARGS E h nxt w k he ra hr
  unfold aliveC at he
  split at he <;> try (cases he; done)
  have hA : ARGS = #[] := by
    apply Array.ext'
    rw [RvL] at ra
    exact ra
  subst hA
  exact ⟨.b true, h, .bool true, he, by rw [Rv], hr, Fk.refl h, alive w⟩
noncomputable def SLw : Specs := fun g => match g with
  | 5 => some aliveC
  | 7 => some objK
  | 10 => some mayK
  | 24 => some (gapC preK altB)
  | 30 => some (gapC preD (altO [0]))
  | g => S2 g
noncomputable def cL : CallF := run SLw 40
/-! ### The law's answer is yes -/
noncomputable def finB (v : AV) (h : Heap) : Bool := match v with
  | .b b => b
  | .x .b e => Nat.beq (decX (factsOf h) e) 1
  | _ => false
theorem finB_ok {E : Env} {v : AV} {V : Value} {h : Heap} (hf : Holds E (factsOf h)) (he : finB v h = true) (r : Rv E v V) : V = .bool true := by
  unfold finB at he
  split at he <;> try (cases he; done)
  · rw [Rv] at r; subst r; rw [he]
  · simp only [Rv, hasS] at r
    obtain ⟨hd, b, rfl⟩ := r
    rw [(decX_ok hf hd).1 (Nat.eq_of_beq_eq_true he)]
noncomputable def lawR (n C : Nat) : Bool := cL 3 [.x .s (.sy 33), .ag (vS 29), LN n C] (hA n []) 292 fun v h _ => finB v h
noncomputable def lawN : Bool := cL 3 [.x .s (.sy 33), .ag (vS 29), .sn] (hB []) 292 fun v h _ => finB v h
noncomputable def lawM : Bool := cL 3 [.x .s (.sy 33), .ag (vS 29), LA 0] (hB [lenF 64 false]) 292 fun v h _ => finB v h
end Go.Proofs.YtaecedlhiclkdaaGreatDoor.Lp
