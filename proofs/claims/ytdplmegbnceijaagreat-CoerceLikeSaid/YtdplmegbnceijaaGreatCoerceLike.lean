/- The law CoerceLike of bailifflaw17 holds: the given function answers true for any two values, and turns nothing. No condition. -/
import Derived.Test.YtdplmegbnceijaaGreatRows
import Derived.WalkKit
import Derived.HandedShaped
import Derived.Test.YtdplmegbnceijaaGreatLkR0
import Derived.Test.YtdplmegbnceijaaGreatLkR1
import Derived.Test.YtdplmegbnceijaaGreatLkR2
import Derived.Test.YtdplmegbnceijaaGreatLkR3
import Derived.Test.YtdplmegbnceijaaGreatLkR4
import Derived.Test.YtdplmegbnceijaaGreatLkR5
import Derived.Test.YtdplmegbnceijaaGreatLkR6
import Derived.Test.YtdplmegbnceijaaGreatLkR7
import Derived.Test.YtdplmegbnceijaaGreatLkR8
import Derived.Test.YtdplmegbnceijaaGreatLkR9
namespace Go.Proofs.YtdplmegbnceijaaGreat.Lk
open Go.ChangeShapes Go.WideShapes Go.ChangeAt Go.RowKit
set_option linter.unusedVariables false
set_option linter.constructorNameAsVariable false
set_option maxRecDepth 100000

theorem own : ownKnob Tryz.prog.godebug = none := by kernel_rfl
theorem all : Vx.AllFrom (fun i => ∀ j, j < 10 → G i j = true) 0 10 := ⟨fun j hj => ga0.get j (Nat.zero_le _) (by omega), fun j hj => ga1.get j (Nat.zero_le _) (by omega), fun j hj => ga2.get j (Nat.zero_le _) (by omega), fun j hj => ga3.get j (Nat.zero_le _) (by omega), fun j hj => ga4.get j (Nat.zero_le _) (by omega), fun j hj => ga5.get j (Nat.zero_le _) (by omega), fun j hj => ga6.get j (Nat.zero_le _) (by omega), fun j hj => ga7.get j (Nat.zero_le _) (by omega), fun j hj => ga8.get j (Nat.zero_le _) (by omega), fun j hj => ga9.get j (Nat.zero_le _) (by omega), trivial⟩
theorem world_pos {W : World} (h : W.ShapedOpen Tryz.prog) : 0 < W.heap.size := by
  have e : ∃ z t, ((begin Tryz.prog (fun _ _ => 0) default).world.heap[0]?).bind Obj.row? = some (z, t) := by
    have e1 : (((begin Tryz.prog (fun _ _ => 0) default).world.heap[0]?).bind Obj.row?).isSome = true := by kernel_rfl
    cases h0 : ((begin Tryz.prog (fun _ _ => 0) default).world.heap[0]?).bind Obj.row? with
    | none => rw [h0] at e1; cases e1
    | some p => exact ⟨p.1, p.2, rfl⟩
  obtain ⟨z, t, e⟩ := e
  exact Vx.heap_pos h (of_decide_eq_true (by kernel_rfl)) e
theorem val_cells {cs : List Value} (h : Vx.All2 Vx.leafOk kindsV cs) : ∃ (c : Int) (x : Nat) (s : ByteArray) (r : Int), cs = [.int .u8 c, .float .f64 x, .string s, .int .i64 r] ∧ (0 ≤ c ∧ c ≤ 255) ∧ x < 18446744073709551616 ∧ (s.size : Int) ≤ 9223372036854775807 ∧ (-9223372036854775808 ≤ r ∧ r ≤ 9223372036854775807) := by
  obtain ⟨v0, cs1, e0, h0, k1⟩ := Vx.all2_cons h
  obtain ⟨v1, cs2, e1, h1, k2⟩ := Vx.all2_cons k1
  obtain ⟨v2, cs3, e2, h2, k3⟩ := Vx.all2_cons k2
  obtain ⟨v3, cs4, e3, h3, k4⟩ := Vx.all2_cons k3
  have e4 : cs4 = [] := by cases cs4 with | nil => rfl | cons => exact k4.elim
  obtain ⟨c, rfl, w0⟩ := h0
  obtain ⟨x, rfl, w1⟩ := h1
  obtain ⟨s, rfl, w2⟩ := h2
  obtain ⟨r, rfl, w3⟩ := h3
  exact ⟨c, x, s, r, by rw [e0, e1, e2, e3, e4], Vx.wf_int w0, Vx.wf_f64 w1, by have : s.size ≤ 9223372036854775807 := w2; omega, Vx.wf_int w3⟩
theorem walk (v w1 : List Value) (hv : Vx.All2 Vx.leafOk kindsV v) (hw : Vx.All2 Vx.leafOk kindsV w1) (w : World) (hs : 0 < w.heap.size) :
    Calls Tryz.prog 3 #[.agg v.toArray, .agg w1.toArray] w fun e w' => e = .returned (.bool true) ∧ Below w.heap.size w w' := by
  obtain ⟨c, x, s, r, hvc, n1, x1, s1, r1⟩ := val_cells hv
  obtain ⟨c', x', s', r', hwc, n2, x2, s2, r2⟩ := val_cells hw
  have lv : Vx.RvL (Vx.symEV [] 1 [.int .u8 c, .float .f64 x, .string s, .int .i64 r, .int .u8 c', .float .f64 x', .string s', .int .i64 r']) [.ag (Vx.leafAVs kindsV 1), .ag (Vx.leafAVs kindsV 5)] [.agg v.toArray, .agg w1.toArray] := by
    rw [hvc] at hv ⊢
    rw [hwc] at hw ⊢
    refine Vx.rvl_cons (Vx.rv_ag (Vx.leaves_rv 0 ?_ hv)) (Vx.rvl_cons (Vx.rv_ag (Vx.leaves_rv 4 ?_ hw)) Vx.rvl_nil)
    · intro i z hi
      match i, hi with
      | 0, hi => cases hi; rfl
      | 1, hi => cases hi; rfl
      | 2, hi => cases hi; rfl
      | 3, hi => cases hi; rfl
    · intro i z hi
      match i, hi with
      | 0, hi => cases hi; rfl
      | 1, hi => cases hi; rfl
      | 2, hi => cases hi; rfl
      | 3, hi => cases hi; rfl
  have d1 : Vx.den (Vx.symEV [] 1 [.int .u8 c, .float .f64 x, .string s, .int .i64 r, .int .u8 c', .float .f64 x', .string s', .int .i64 r']) m1 = some (.bool (Vx.mayV c x s r)) :=
    Vx.den_may (Vx.den_sym 0 rfl (Vx.sok_i _ _)) (Vx.den_sym 1 rfl (Vx.sok_f _)) (Vx.den_sym 2 rfl (Vx.sok_s _)) (Vx.den_sym 3 rfl (Vx.sok_i _ _))
  have d2 : Vx.den (Vx.symEV [] 1 [.int .u8 c, .float .f64 x, .string s, .int .i64 r, .int .u8 c', .float .f64 x', .string s', .int .i64 r']) m2 = some (.bool (Vx.mayV c' x' s' r')) :=
    Vx.den_may (Vx.den_sym 4 rfl (Vx.sok_i _ _)) (Vx.den_sym 5 rfl (Vx.sok_f _)) (Vx.den_sym 6 rfl (Vx.sok_s _)) (Vx.den_sym 7 rfl (Vx.sok_i _ _))
  cases h1 : Vx.mayV c x s r
  · exact Vx.closedVal (Vx.run_ok SL_ok 40) rfl (Vx.holds_cons (d1.trans (by rw [h1])) Vx.holds_nil) lv b1 w hs
  cases h2 : Vx.mayV c' x' s' r'
  · exact Vx.closedVal (Vx.run_ok SL_ok 40) rfl (Vx.holds_cons (d1.trans (by rw [h1])) (Vx.holds_cons (d2.trans (by rw [h2])) Vx.holds_nil)) lv b2 w hs
  obtain ⟨i, S, hi, fi⟩ := Vx.forms n1.1 x1 r1.2 h1
  obtain ⟨j, S', hj, fj⟩ := Vx.forms n2.1 x2 r2.2 h2
  rw [hvc, hwc]
  obtain ⟨a1, a2⟩ := Vx.form_ok (Vs := [S, S']) 0 hi fi rfl
  obtain ⟨b1, b2⟩ := Vx.form_ok (Vs := [S, S']) 1 hj fj rfl
  exact Vx.closedVal (Vx.run_ok SL_ok 40) rfl (Vx.holds_append a2 b2) (Vx.rvl_cons a1 (Vx.rvl_cons b1 Vx.rvl_nil)) (all.get i (Nat.zero_le _) (by omega) j hj) w hs

theorem lifted (os : Os) (started : os.Started) (H : Type) (enc : TypeId × Value → H) :
    ReturnsInHanded {} Tryz.checked os 3 .any (Rows.coerceLikeSpec.pre6 enc Tryz.prog Tryz.f3 Rows.coerceLikeRow.domain false) (Rows.coerceLikeSpec.post enc Tryz.prog Tryz.f3 false true false false) := by
  refine returnsInHanded_of_change_shaped (C := Tryz.checked) own started (by kernel_rfl) Tryz.func3
    (ChangeSpec.witness6 (enc := enc) (C := Tryz.checked) false ⟨#[], #[.agg #[.int .u8 0, .float .f64 0, .string ByteArray.empty, .int .i64 0], .agg #[.int .u8 0, .float .f64 0, .string ByteArray.empty, .int .i64 0]], []⟩ 8 (by kernel_rfl) (by kernel_rfl) (by kernel_rfl) (by kernel_rfl)) ?_
  intro W base args ds gs before hval0 hW hcnd _ hsh _
  have hval : ∀ (j : Nat) t v, Tryz.f3.params[j]? = some t → args[j]? = some v → Value.okWide Tryz.prog W .any base t v := hval0
  have hW' := hW
  obtain ⟨p, q, hA0, hV, rfl, hfz, hnd⟩ := hW
  have hA : DataW.TrodAll enc Tryz.prog W 0 (fun _ => true) true Tryz.f3.params.toList args.toList ds p := hA0
  rw [Tryz.params3] at hA hval
  obtain ⟨v0, v1, d0, d1, p0, p1, rfl, rfl, rfl, h0, h1⟩ := trodAll_two hA
  obtain ⟨cs, rfl, hcs, rfl⟩ := Vx.open_flat (d := 4) Tryz.underlying24 (by kernel_rfl) (hval 0 24 _ rfl rfl) h0
  obtain ⟨cs', rfl, hcs', rfl⟩ := Vx.open_flat (d := 4) Tryz.underlying24 (by kernel_rfl) (hval 1 24 _ rfl rfl) h1
  obtain ⟨rfl, rfl⟩ := trodVars_none hV
  simp only [List.append_nil] at hW'
  refine (walk cs cs' hcs hcs' W (world_pos hsh)).mono fun e W' ⟨he, hg⟩ => ?_
  subst he
  have hlaid : laidOutB Tryz.prog = true := by kernel_rfl
  have hr : Tryz.prog.readableRec 24 = true := by kernel_rfl
  have hrow : 24 < Tryz.prog.types.size := of_decide_eq_true (by kernel_rfl)
  exact ⟨_, rfl, Vx.post_below (pa := []) (pv := []) hW' (fun _ _ _ => (trodAll_cons_mk (shut_bool Tryz.underlying4 _) trodAll_mk0))
    (fun sp _ => trodAll_cons_mk (WideElems.Trod_stays hlaid hr hrow h0 (fun _ hx => by cases hx) (fun _ hx => by cases hx)) (trodAll_cons_mk (WideElems.Trod_stays hlaid hr hrow h1 (fun _ hx => by cases hx) (fun _ hx => by cases hx)) trodAll_mk0)) (fun _ _ => rfl) rfl
    hg (ok_one (by kernel_rfl) rfl (okWide_bool_mk Tryz.underlying4 _))⟩

theorem over : Rows.coerceLikeRow.holds Tryz.pinned (OpenSpec.ofChange Rows.coerceLikeSpec) :=
  OpenClaim.holds_of_wide 3 Tryz.f3 rfl rfl rfl rfl rfl rfl rfl ⟨rfl, rfl, rfl, rfl, rfl⟩ rfl rfl rfl rfl rfl (by kernel_rfl) Tryz.func3 (by kernel_rfl)
    (of_decide_eq_true (by kernel_rfl)) (by unfold Func.isWrapper; first | (rw [if_pos (by decide +kernel)]; kernel_rfl) | (rw [if_neg (by decide +kernel)]; exact ⟨rfl, rfl⟩))
    (fun os started H enc _ => lifted os started H enc)
end Go.Proofs.YtdplmegbnceijaaGreat.Lk
namespace Go.Proofs.YtdplmegbnceijaaGreat.coerceLike
theorem proved : Rows.CoerceLikeSaid :=
  Lk.over
end Go.Proofs.YtdplmegbnceijaaGreat.coerceLike
