/- The law ObjectFields of bailifflaw21 holds: the given function answers true for every descriptor, and turns nothing. No condition. -/
import Derived.Test.YtdplmegbnceijaaRows
import Derived.WalkKit
import Derived.HandedShaped
import Derived.Test.YtdplmegbnceijaaOfR0
import Derived.Test.YtdplmegbnceijaaOfR1
import Derived.Test.YtdplmegbnceijaaOfR2
import Derived.Test.YtdplmegbnceijaaOfR3
namespace Go.Proofs.Ytdplmegbnceijaa.Of
open Go.ChangeShapes Go.WideShapes Go.ChangeAt Go.RowKit
set_option linter.unusedVariables false
set_option linter.constructorNameAsVariable false
set_option maxRecDepth 100000

theorem own : ownKnob Try.prog.godebug = none := by kernel_rfl
theorem all : Vx.AllFrom (fun c => G c = true) 0 256 := ((((((ra0.append ra1).append ra2).append ra3).append rb0).append rb1).append rb2).append rb3
theorem world_pos {W : World} (h : W.ShapedOpen Try.prog) : 0 < W.heap.size := by
  have e : ∃ z t, ((begin Try.prog (fun _ _ => 0) default).world.heap[0]?).bind Obj.row? = some (z, t) := by
    have e1 : (((begin Try.prog (fun _ _ => 0) default).world.heap[0]?).bind Obj.row?).isSome = true := by kernel_rfl
    cases h0 : ((begin Try.prog (fun _ _ => 0) default).world.heap[0]?).bind Obj.row? with
    | none => rw [h0] at e1; cases e1
    | some p => exact ⟨p.1, p.2, rfl⟩
  obtain ⟨z, t, e⟩ := e
  exact Vx.heap_pos h (of_decide_eq_true (by kernel_rfl)) e
theorem walk (d : Vx.DescV) (hd : d.ok) (w : World) (hs : 0 < w.heap.size) :
    Calls Try.prog 3 #[.agg d.cells.toArray] w fun e w' => e = .returned (.bool true) ∧ Below w.heap.size w w' := by
  obtain ⟨c, hc⟩ : ∃ c : Nat, d.c = c := ⟨d.c.toNat, by have := hd.c; omega⟩
  have hl := Vx.DescV.leaves hd
  rw [hc] at hl
  exact Vx.closedVal (Vx.run_ok S3_ok 40) (Vs := d.syms) rfl Vx.holds_nil (Vx.rvl_cons (Vx.rv_ag hl) Vx.rvl_nil) (all.get c (Nat.zero_le _) (by have := hd.c; omega)) w hs

theorem lifted (os : Os) (started : os.Started) (H : Type) (enc : TypeId × Value → H) :
    ReturnsInHanded {} Try.checked os 3 .any (Rows.objectFieldsSpec.pre6 enc Try.prog Try.f3 Rows.objectFieldsRow.domain false) (Rows.objectFieldsSpec.post enc Try.prog Try.f3 false true false false) := by
  refine returnsInHanded_of_change_shaped (C := Try.checked) own started (by kernel_rfl) Try.func3
    (ChangeSpec.witness6 (enc := enc) (C := Try.checked) false ⟨#[], #[.agg #[.int .u8 0, .int .u8 0, .float .f64 0, .string ByteArray.empty, .int .i64 0, .int .u8 0, .float .f64 0, .string ByteArray.empty, .int .i64 0, .int .u8 0, .float .f64 0, .string ByteArray.empty, .int .i64 0, .bool false, .bool false, .bool false]], []⟩ 8 (by kernel_rfl) (by kernel_rfl) (by kernel_rfl) (by kernel_rfl)) ?_
  intro W base args ds gs before hval0 hW hcnd _ hsh _
  have hval : ∀ (j : Nat) t v, Try.f3.params[j]? = some t → args[j]? = some v → Value.okWide Try.prog W .any base t v := hval0
  have hW' := hW
  obtain ⟨p, q, hA0, hV, rfl, hfz, hnd⟩ := hW
  have hA : DataW.TrodAll enc Try.prog W 0 (fun _ => true) true Try.f3.params.toList args.toList ds p := hA0
  rw [Try.params3] at hA hval
  obtain ⟨v0, d0, rfl, rfl, h0⟩ := trodAll_one hA
  obtain ⟨cs, rfl, hcs, rfl⟩ := Vx.open_flat (d := 4) Try.underlying26 (by kernel_rfl) (hval 0 26 _ rfl rfl) h0
  obtain ⟨d, hd, rfl⟩ := Vx.open_desc hcs
  obtain ⟨rfl, rfl⟩ := trodVars_none hV
  clear hA0 hval0
  simp only [List.append_nil] at hW'
  refine (walk d hd W (world_pos hsh)).mono fun e W' ⟨he, hg⟩ => ?_
  subst he
  have hlaid : laidOutB Try.prog = true := by kernel_rfl
  have hr : Try.prog.readableRec 26 = true := by kernel_rfl
  exact ⟨_, rfl, Vx.post_below (pa := []) (pv := []) hW' (fun _ _ _ => (trodAll_cons_mk (shut_bool Try.underlying4 _) trodAll_mk0))
    (fun sp _ => trodAll_cons_mk (WideElems.Trod_stays hlaid hr (of_decide_eq_true (by kernel_rfl)) h0 (fun _ hx => by cases hx) (fun _ hx => by cases hx)) trodAll_mk0) (fun _ _ => rfl) rfl
    hg (ok_one (by kernel_rfl) rfl (okWide_bool_mk Try.underlying4 _))⟩

theorem over : Rows.objectFieldsRow.holds Try.pinned (OpenSpec.ofChange Rows.objectFieldsSpec) :=
  OpenClaim.holds_of_wide 3 Try.f3 rfl rfl rfl rfl rfl rfl rfl ⟨rfl, rfl, rfl, rfl, rfl⟩ rfl rfl rfl rfl rfl (by kernel_rfl) Try.func3 (by kernel_rfl)
    (of_decide_eq_true (by kernel_rfl)) (by unfold Func.isWrapper; first | (rw [if_pos (by decide +kernel)]; kernel_rfl) | (rw [if_neg (by decide +kernel)]; exact ⟨rfl, rfl⟩))
    (fun os started H enc _ => lifted os started H enc)
end Go.Proofs.Ytdplmegbnceijaa.Of
namespace Go.Proofs.Ytdplmegbnceijaa.objectFields
theorem proved : Rows.ObjectFieldsSaid :=
  Of.over
end Go.Proofs.Ytdplmegbnceijaa.objectFields
