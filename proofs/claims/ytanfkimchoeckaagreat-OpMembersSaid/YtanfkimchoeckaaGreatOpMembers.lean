/- The law OpMembers of bailifflaw19 holds: the given function answers true, and turns nothing. No condition. -/
import Derived.Test.YtanfkimchoeckaaGreatRows
import Derived.WalkKit
import Derived.ProofKit
import Derived.OpenShut
import Derived.HandedShaped
import Derived.Test.YtanfkimchoeckaaGreatOmB
import Derived.Test.YtanfkimchoeckaaGreatOmR0
import Derived.Test.YtanfkimchoeckaaGreatOmR1
import Derived.Test.YtanfkimchoeckaaGreatOmR2
import Derived.Test.YtanfkimchoeckaaGreatOmR3
namespace Go.Proofs.YtanfkimchoeckaaGreat.Mem
open Go.ChangeShapes Go.WideShapes Go.ChangeAt Go.RowKit
open Go.ChangeMaps (open_string shut_string)
set_option linter.unusedVariables false
set_option linter.constructorNameAsVariable false
set_option maxRecDepth 100000

theorem own : ownKnob Tryz.prog.godebug = none := by kernel_rfl

theorem ways (y : Bool) (fs : Vx.Facts) (h1 : y = true → G fs true = true) (h2 : y = false → G fs false = true) : G fs y = true := by
  cases y
  · exact h2 rfl
  · exact h1 rfl

theorem walk (k : ByteArray) (c : Int) (x : Nat) (s : ByteArray) (r : Int) (y : Bool) (hk : k.size ≤ maxLen) (w0 : (Lit.int .u8 c).wf = true) (w1 : (Lit.float .f64 x).wf = true) (w2 : s.size ≤ maxLen) (w3 : (Lit.int .i64 r).wf = true) (w : World) (hs : 0 < w.heap.size) :
    Calls Tryz.prog 3 #[.string k, .agg #[.int .u8 c, .float .f64 x, .string s, .int .i64 r], .bool y] w fun e w' => e = .returned (.bool true) ∧ Below w.heap.size w w' := by
  have dc : Vx.den (Vx.symEV [] 1 [.string k, .int .u8 c, .float .f64 x, .string s, .int .i64 r]) (.sy 2) = some (.int .u8 c) := Vx.den_sym 1 rfl (Vx.sok_i _ _)
  have dx : Vx.den (Vx.symEV [] 1 [.string k, .int .u8 c, .float .f64 x, .string s, .int .i64 r]) (.sy 3) = some (.float .f64 x) := Vx.den_sym 2 rfl (Vx.sok_f _)
  obtain ⟨lo, hi⟩ := bounds_u8 w0
  have go : ∀ fs, Vx.Holds (Vx.symEV [] 1 [.string k, .int .u8 c, .float .f64 x, .string s, .int .i64 r]) fs → G fs y = true →
      Calls Tryz.prog 3 #[.string k, .agg #[.int .u8 c, .float .f64 x, .string s, .int .i64 r], .bool y] w fun e w' => e = .returned (.bool true) ∧ Below w.heap.size w w' := fun fs hf he =>
    Vx.closedVal (Vx.run_ok Vx.SpecOK.none 40) (Vs := [.string k, .int .u8 c, .float .f64 x, .string s, .int .i64 r]) (nn := 6) rfl hf
      (Vx.rvl_cons (Vx.rv_sym 0 rfl (Vx.sok_s _) (len_hasS hk)) (Vx.rvl_cons (Vx.rv_ag (Vx.rvl_cons (Vx.rv_sym (s := .i .u8) 1 rfl (Vx.sok_i _ _) ⟨_, rfl, Vx.wf_u8 w0⟩)
        (Vx.rvl_cons (Vx.rv_sym (s := .f) 2 rfl (Vx.sok_f _) ⟨_, rfl, Vx.wf_f64 w1⟩) (Vx.rvl_cons (Vx.rv_sym 3 rfl (Vx.sok_s _) (len_hasS w2)) (Vx.rvl_cons (Vx.rv_sym (s := .i .i64) 4 rfl (Vx.sok_i _ _) ⟨_, rfl, Vx.wf_i64 w3⟩) Vx.rvl_nil)))))
        (Vx.rvl_cons (Vx.rv_b y) Vx.rvl_nil))) he w hs
  have hle : Vx.Holds (Vx.symEV [] 1 [.string k, .int .u8 c, .float .f64 x, .string s, .int .i64 r]) [(.cmp .leq (.sy 2) (.li .u8 255), true), (.cmp .leq (.sy 2) (.li .u8 (-1)), false)] :=
    Vx.holds_cons ((Vx.fact_le dc).trans (by rw [decide_eq_true (by omega)])) (Vx.holds_cons ((Vx.fact_le dc).trans (by rw [decide_eq_false (by omega)])) Vx.holds_nil)
  have h0 : ∀ d : Int, c = d → Vx.Holds (Vx.symEV [] 1 [.string k, .int .u8 c, .float .f64 x, .string s, .int .i64 r]) (fs0 d) := fun d hd =>
    Vx.holds_cons ((Vx.fact_eq dc).trans (by rw [decide_eq_true hd])) hle
  by_cases hb : 8 < c
  · exact go fsB (Vx.holds_cons ((Vx.fact_le dc).trans (by rw [decide_eq_false (by omega)])) (Vx.holds_cons ((Vx.fact_le dc).trans (by rw [decide_eq_true (by omega)])) Vx.holds_nil)) (ways y _ (fun _ => btrue) fun _ => bfalse)
  by_cases h2 : c = 2
  · rcases Vx.float_two x with hx | hx
    · exact go (fsN 2) (Vx.holds_cons ((Vx.fact_self dx).trans (by rw [hx])) (h0 2 h2)) (ways y _ (fun _ => n2true) fun _ => n2false)
    · exact go (fsM 2) (Vx.holds_cons ((Vx.fact_self dx).trans (by rw [(hx 0).1])) (Vx.holds_cons ((Vx.fact_feq dx).trans (by rw [(hx _).2])) (Vx.holds_cons ((Vx.fact_feq dx).trans (by rw [(hx _).2])) (h0 2 h2)))) (ways y _ (fun _ => m2true) fun _ => m2false)
  by_cases h10 : c = 0
  · exact go (fs0 0) (h0 0 h10) (ways y _ (fun _ => k0true) fun _ => k0false)
  by_cases h11 : c = 1
  · exact go (fs0 1) (h0 1 h11) (ways y _ (fun _ => k1true) fun _ => k1false)
  by_cases h13 : c = 3
  · exact go (fs0 3) (h0 3 h13) (ways y _ (fun _ => k3true) fun _ => k3false)
  by_cases h14 : c = 4
  · exact go (fs0 4) (h0 4 h14) (ways y _ (fun _ => k4true) fun _ => k4false)
  by_cases h15 : c = 5
  · exact go (fs0 5) (h0 5 h15) (ways y _ (fun _ => k5true) fun _ => k5false)
  by_cases h16 : c = 6
  · exact go (fs0 6) (h0 6 h16) (ways y _ (fun _ => k6true) fun _ => k6false)
  by_cases h17 : c = 7
  · exact go (fs0 7) (h0 7 h17) (ways y _ (fun _ => k7true) fun _ => k7false)
  by_cases h18 : c = 8
  · exact go (fs0 8) (h0 8 h18) (ways y _ (fun _ => k8true) fun _ => k8false)
  exfalso; omega

theorem lifted (os : Os) (started : os.Started) (H : Type) (enc : TypeId × Value → H) :
    ReturnsInHanded {} Tryz.checked os 3 .any (Rows.opMembersSpec.pre6 enc Tryz.prog Tryz.f3 Rows.opMembersRow.domain false) (Rows.opMembersSpec.post enc Tryz.prog Tryz.f3 false true false false) := by
  refine returnsInHanded_of_change_shaped (C := Tryz.checked) own started (by kernel_rfl) Tryz.func3
    (ChangeSpec.witness6 (enc := enc) (C := Tryz.checked) false ⟨#[], #[.string ByteArray.empty, .agg #[.int .u8 0, .float .f64 0, .string ByteArray.empty, .int .i64 0], .bool true], []⟩ 8 (by kernel_rfl) (by kernel_rfl) (by kernel_rfl) (by kernel_rfl)) ?_
  intro W base args ds gs before hval0 hW hcnd _ hsh _
  have hval : ∀ (j : Nat) t v, Tryz.f3.params[j]? = some t → args[j]? = some v → Value.okWide Tryz.prog W .any base t v := hval0
  have hW' := hW
  obtain ⟨p, q, hA0, hV, rfl, hfz, hnd⟩ := hW
  have hA : DataW.TrodAll enc Tryz.prog W 0 (fun _ => true) true Tryz.f3.params.toList args.toList ds p := hA0
  rw [Tryz.params3] at hA hval
  obtain ⟨v0, v1, v2, d0, d1, d2, p0, p1, p2, rfl, rfl, rfl, h0, h1, h2⟩ := trodAll_three hA
  obtain ⟨k, rfl, rfl, rfl, hk⟩ := open_string Tryz.underlying9 (hval 0 9 _ rfl rfl) h0
  obtain ⟨c, x, s, r, rfl, rfl, rfl, w0, w1, w2, w3⟩ := open_val (hval 1 24 _ rfl rfl) h1
  obtain ⟨y, rfl, rfl, rfl⟩ := open_bool Tryz.underlying4 (hval 2 4 _ rfl rfl) h2
  obtain ⟨rfl, rfl⟩ := trodVars_none hV
  clear hA0 hval0
  simp only [List.append_nil] at hW'
  refine (walk k c x s r y hk w0 w1 w2 w3 W (world_pos hsh)).mono fun e W' ⟨he, hg⟩ => ?_
  subst he
  exact ⟨_, rfl, Vx.post_below (pa := []) (pv := []) hW' (fun _ _ _ => (trodAll_cons_mk (shut_bool Tryz.underlying4 _) trodAll_mk0))
    (fun sp _ => trodAll_cons_mk (shut_string Tryz.underlying9 hk) (trodAll_cons_mk (shut_val w0 w1 w2 w3) (trodAll_cons_mk (shut_bool Tryz.underlying4 _) trodAll_mk0))) (fun _ _ => rfl) rfl
    hg (ok_one (by kernel_rfl) rfl (okWide_bool_mk Tryz.underlying4 _))⟩

theorem over : Rows.opMembersRow.holds Tryz.pinned (OpenSpec.ofChange Rows.opMembersSpec) :=
  OpenClaim.holds_of_wide 3 Tryz.f3 rfl rfl rfl rfl rfl rfl rfl ⟨rfl, rfl, rfl, rfl, rfl⟩ rfl rfl rfl rfl rfl (by kernel_rfl) Tryz.func3 (by kernel_rfl)
    (of_decide_eq_true (by kernel_rfl)) (by unfold Func.isWrapper; first | (rw [if_pos (by decide +kernel)]; kernel_rfl) | (rw [if_neg (by decide +kernel)]; exact ⟨rfl, rfl⟩))
    (fun os started H enc _ => lifted os started H enc)
end Go.Proofs.YtanfkimchoeckaaGreat.Mem
namespace Go.Proofs.YtanfkimchoeckaaGreat.opMembers
theorem proved : Rows.OpMembersSaid :=
  Mem.over
end Go.Proofs.YtanfkimchoeckaaGreat.opMembers
