/- The law OpInstances of bailifflaw19 holds: the given function answers true, and turns nothing. No condition. -/
import Derived.Test.YtanfkimchoeckaaGreatRows
import Derived.WalkKit
import Derived.ProofKit
import Derived.OpenShut
import Derived.HandedShaped
import Derived.Test.YtanfkimchoeckaaGreatInB
import Derived.Test.YtanfkimchoeckaaGreatInC0
import Derived.Test.YtanfkimchoeckaaGreatInC1
import Derived.Test.YtanfkimchoeckaaGreatInC2
import Derived.Test.YtanfkimchoeckaaGreatInC3
import Derived.Test.YtanfkimchoeckaaGreatInR0
import Derived.Test.YtanfkimchoeckaaGreatInR1
import Derived.Test.YtanfkimchoeckaaGreatInR2
import Derived.Test.YtanfkimchoeckaaGreatInR3
import Derived.Test.YtanfkimchoeckaaGreatInR4
import Derived.Test.YtanfkimchoeckaaGreatInR5
import Derived.Test.YtanfkimchoeckaaGreatInR6
import Derived.Test.YtanfkimchoeckaaGreatInR7
import Derived.Test.YtanfkimchoeckaaGreatInR8
import Derived.Test.YtanfkimchoeckaaGreatInR9
import Derived.Test.YtanfkimchoeckaaGreatInR10
import Derived.Test.YtanfkimchoeckaaGreatInR11
import Derived.Test.YtanfkimchoeckaaGreatInR12
import Derived.Test.YtanfkimchoeckaaGreatInR13
import Derived.Test.YtanfkimchoeckaaGreatInR14
namespace Go.Proofs.YtanfkimchoeckaaGreat.Ins
open Go.ChangeShapes Go.WideShapes Go.ChangeAt Go.RowKit
set_option linter.unusedVariables false
set_option linter.constructorNameAsVariable false
set_option maxRecDepth 100000

theorem own : ownKnob Tryz.prog.godebug = none := by kernel_rfl

theorem alive_ok : Vx.CtOK Tryz.prog 7 (Vx.valC (fun _ b => b) [] (.b true)) :=
  Vx.valC_ok (ARGS0 := #[]) (G := fun _ => True) (fun h _ => ⟨h, trivial⟩) rfl (fun _ => Vx.rvl_nil) fun w _ =>
    (Vx.closed (Vx.run_ok Vx.SpecOK.none 40) aliveRan w).mono fun e w' ⟨he, hb⟩ => ⟨_, he, fun _ => Vx.rv_b true, hb⟩
theorem next_ok : Vx.CtOK Tryz.prog 18 next :=
  Vx.orC_ok (step_ok s0) (Vx.orC_ok (step_ok s1) (Vx.orC_ok (step_ok s2) (Vx.orC_ok (step_ok s3) (Vx.orC_ok (step_ok s4) (Vx.orC_ok (step_ok s5) (Vx.orC_ok (step_ok s6) (Vx.orC_ok (step_ok s7) (Vx.orC_ok (step_ok s8) (Vx.orC_ok (step_ok s9) (Vx.orC_ok (step_ok s10) (Vx.orC_ok (step_ok s11) (Vx.orC_ok (step_ok s12) (Vx.orC_ok (step_ok s13) (Vx.orC_ok (step_ok s14) (Vx.orC_ok (step_ok s15) (Vx.orC_ok (step_ok s16) (Vx.orC_ok (step_ok s17) (Vx.orC_ok (step_ok s18) (Vx.orC_ok (step_ok s19) (Vx.orC_ok (step_ok s20) (Vx.orC_ok (step_ok s21) (Vx.orC_ok (step_ok s22) (Vx.orC_ok (step_ok s23) (Vx.orC_ok (step_ok s24) (Vx.orC_ok (step_ok s25) (Vx.orC_ok (step_ok s26) (Vx.orC_ok (step_ok s27) (Vx.orC_ok (step_ok s28) (Vx.orC_ok (step_ok s29) (Vx.orC_ok (step_ok s30) (Vx.orC_ok (step_ok s31) (Vx.orC_ok (step_ok s32) (Vx.orC_ok (step_ok s33) (Vx.orC_ok (step_ok s34) (Vx.orC_ok (step_ok s35) (Vx.orC_ok (step_ok s36) (Vx.orC_ok (step_ok s37) (Vx.orC_ok (step_ok s38) (Vx.orC_ok (step_ok s39) (Vx.orC_ok (step_ok s40) (Vx.orC_ok (step_ok s41) (Vx.orC_ok (step_ok s42) (Vx.orC_ok (step_ok s43) (Vx.orC_ok (step_ok s44) (Vx.orC_ok (step_ok s45) (Vx.orC_ok (step_ok s46) (Vx.orC_ok (step_ok s47) (Vx.orC_ok (step_ok s48) (Vx.orC_ok (step_ok s49) (Vx.orC_ok (step_ok s50) (Vx.orC_ok (step_ok s51) (Vx.orC_ok (step_ok s52) (Vx.orC_ok (step_ok s53) (Vx.orC_ok (step_ok s54) (Vx.orC_ok (step_ok s55) (Vx.orC_ok (step_ok s56) (Vx.orC_ok (step_ok s57) (Vx.orC_ok (step_ok s58) (Vx.orC_ok (step_ok s59) (Vx.orC_ok (step_ok s60) (Vx.orC_ok (step_ok s61) (Vx.orC_ok (step_ok s62) (straight_ok)))))))))))))))))))))))))))))))))))))))))))))))))))))))))))))))
theorem SP_ok : Vx.SpecOK Tryz.prog SP := by
  intro g C h
  unfold SP at h
  split at h <;> cases h
  · exact alive_ok
  · exact next_ok

theorem den_conv {E : Vx.Env} {e : Vx.SE} {k l : IntKind} {n : Int} (h : Vx.den E e = some (.int l n)) (hb : k.min ≤ n ∧ n ≤ k.max) : Vx.den E (.conv k e) = some (.int k n) := by
  simp only [Vx.den, h]; exact if_pos hb
theorem den_rem {E : Vx.Env} {e : Vx.SE} {k : IntKind} {n : Int} {m : Nat} (h : Vx.den E e = some (.int k n)) (hb : 0 ≤ n ∧ 0 < m) : Vx.den E (.rem m e) = some (.int k (n % (m : Int))) := by
  simp only [Vx.den, h]; exact if_pos hb
theorem walk (k : Int) (y : Bool) (wk : (Lit.int .u8 k).wf = true) (w : World) (hs : 0 < w.heap.size) :
    Calls Tryz.prog 6 #[.int .u8 k, .bool y] w fun e w' => e = .returned (.bool true) ∧ Below w.heap.size w w' := by
  have dk : Vx.den (Vx.symEV [] 1 [.int .u8 k, .int .u8 (if y then 1 else 0)]) (.sy 1) = some (.int .u8 k) := Vx.den_sym 0 rfl (Vx.sok_i _ _)
  have dy : Vx.den (Vx.symEV [] 1 [.int .u8 k, .int .u8 (if y then 1 else 0)]) (.sy 2) = some (.int .u8 (if y then 1 else 0)) := Vx.den_sym 1 rfl (Vx.sok_i _ _)
  obtain ⟨lo, hi⟩ := bounds_u8 wk
  have dm : Vx.den (Vx.symEV [] 1 [.int .u8 k, .int .u8 (if y then 1 else 0)]) many = some (.int .i64 (k % 81)) := by
    exact den_rem (den_conv (k := .i64) dk ⟨Int.le_trans (by decide) lo, Int.le_trans hi (by decide)⟩) ⟨lo, by decide⟩
  have ry : Vx.Rv (Vx.symEV [] 1 [.int .u8 k, .int .u8 (if y then 1 else 0)]) yes (.bool y) := by
    unfold yes
    rw [Vx.Rv]
    refine ⟨(Vx.fact_eq dy).trans ?_, ⟨y, rfl⟩⟩
    cases y <;> rfl
  have go : ∀ a b, a < k % 81 → k % 81 ≤ b → G a b = true →
      Calls Tryz.prog 6 #[.int .u8 k, .bool y] w fun e w' => e = .returned (.bool true) ∧ Below w.heap.size w w' := fun a b ha hb he =>
    Vx.closedVal (Vx.run_ok SP_ok 40) (Vs := [.int .u8 k, .int .u8 (if y then 1 else 0)]) (nn := 3) rfl
      (Vx.holds_cons ((Vx.fact_le dm).trans (by rw [decide_eq_false (by omega)])) (Vx.holds_cons ((Vx.fact_le dm).trans (by rw [decide_eq_true hb]))
        (Vx.holds_cons ((Vx.fact_le dk).trans (by rw [decide_eq_true (by omega)])) (Vx.holds_cons ((Vx.fact_le dk).trans (by rw [decide_eq_false (by omega)])) Vx.holds_nil))))
      (Vx.rvl_cons (Vx.rv_sym (s := .i .u8) 0 rfl (Vx.sok_i _ _) ⟨_, rfl, Vx.wf_u8 wk⟩) (Vx.rvl_cons ry Vx.rvl_nil)) he w hs
  by_cases h0 : k % 81 ≤ 16
  · exact go (-1) 16 (by omega) h0 r0
  by_cases h1 : k % 81 ≤ 25
  · exact go (16) 25 (by omega) h1 r1
  by_cases h2 : k % 81 ≤ 31
  · exact go (25) 31 (by omega) h2 r2
  by_cases h3 : k % 81 ≤ 36
  · exact go (31) 36 (by omega) h3 r3
  by_cases h4 : k % 81 ≤ 40
  · exact go (36) 40 (by omega) h4 r4
  by_cases h5 : k % 81 ≤ 44
  · exact go (40) 44 (by omega) h5 r5
  by_cases h6 : k % 81 ≤ 47
  · exact go (44) 47 (by omega) h6 r6
  by_cases h7 : k % 81 ≤ 50
  · exact go (47) 50 (by omega) h7 r7
  by_cases h8 : k % 81 ≤ 52
  · exact go (50) 52 (by omega) h8 r8
  by_cases h9 : k % 81 ≤ 54
  · exact go (52) 54 (by omega) h9 r9
  by_cases h10 : k % 81 ≤ 56
  · exact go (54) 56 (by omega) h10 r10
  by_cases h11 : k % 81 ≤ 58
  · exact go (56) 58 (by omega) h11 r11
  by_cases h12 : k % 81 ≤ 60
  · exact go (58) 60 (by omega) h12 r12
  by_cases h13 : k % 81 ≤ 62
  · exact go (60) 62 (by omega) h13 r13
  exact go 62 80 (by omega) (by omega) r14

theorem lifted (os : Os) (started : os.Started) (H : Type) (enc : TypeId × Value → H) :
    ReturnsInHanded {} Tryz.checked os 6 .any (Rows.opInstancesSpec.pre6 enc Tryz.prog Tryz.f6 Rows.opInstancesRow.domain false) (Rows.opInstancesSpec.post enc Tryz.prog Tryz.f6 false true false false) := by
  refine returnsInHanded_of_change_shaped (C := Tryz.checked) own started (by kernel_rfl) Tryz.func6
    (ChangeSpec.witness6 (enc := enc) (C := Tryz.checked) false ⟨#[], #[.int .u8 0, .bool true], []⟩ 8 (by kernel_rfl) (by kernel_rfl) (by kernel_rfl) (by kernel_rfl)) ?_
  intro W base args ds gs before hval0 hW hcnd _ hsh _
  have hval : ∀ (j : Nat) t v, Tryz.f6.params[j]? = some t → args[j]? = some v → Value.okWide Tryz.prog W .any base t v := hval0
  have hW' := hW
  obtain ⟨p, q, hA0, hV, rfl, hfz, hnd⟩ := hW
  have hA : DataW.TrodAll enc Tryz.prog W 0 (fun _ => true) true Tryz.f6.params.toList args.toList ds p := hA0
  rw [Tryz.params6] at hA hval
  obtain ⟨v0, v1, d0, d1, p0, p1, rfl, rfl, rfl, h0, h1⟩ := trodAll_two hA
  obtain ⟨k, rfl, rfl, rfl, wk⟩ := open_int Tryz.underlying5 (hval 0 5 _ rfl rfl) h0
  obtain ⟨y, rfl, rfl, rfl⟩ := open_bool Tryz.underlying4 (hval 1 4 _ rfl rfl) h1
  obtain ⟨rfl, rfl⟩ := trodVars_none hV
  clear hA0 hval0
  simp only [List.append_nil] at hW'
  refine (walk k y wk W (world_pos hsh)).mono fun e W' ⟨he, hg⟩ => ?_
  subst he
  exact ⟨_, rfl, Vx.post_below (pa := []) (pv := []) hW' (fun _ _ _ => (trodAll_cons_mk (shut_bool Tryz.underlying4 _) trodAll_mk0))
    (fun sp _ => trodAll_cons_mk (shut_int Tryz.underlying5 wk) (trodAll_cons_mk (shut_bool Tryz.underlying4 _) trodAll_mk0)) (fun _ _ => rfl) rfl
    hg (ok_one (by kernel_rfl) rfl (okWide_bool_mk Tryz.underlying4 _))⟩

theorem over : Rows.opInstancesRow.holds Tryz.pinned (OpenSpec.ofChange Rows.opInstancesSpec) :=
  OpenClaim.holds_of_wide 6 Tryz.f6 rfl rfl rfl rfl rfl rfl rfl ⟨rfl, rfl, rfl, rfl, rfl⟩ rfl rfl rfl rfl rfl (by kernel_rfl) Tryz.func6 (by kernel_rfl)
    (of_decide_eq_true (by kernel_rfl)) (by unfold Func.isWrapper; first | (rw [if_pos (by decide +kernel)]; kernel_rfl) | (rw [if_neg (by decide +kernel)]; exact ⟨rfl, rfl⟩))
    (fun os started H enc _ => lifted os started H enc)
end Go.Proofs.YtanfkimchoeckaaGreat.Ins
namespace Go.Proofs.YtanfkimchoeckaaGreat.opInstances
theorem proved : Rows.OpInstancesSaid :=
  Ins.over
end Go.Proofs.YtanfkimchoeckaaGreat.opInstances
