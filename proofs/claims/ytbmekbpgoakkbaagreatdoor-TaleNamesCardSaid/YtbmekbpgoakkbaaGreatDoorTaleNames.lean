/- The law TaleNames of bailifflaw28 holds: the given function answers true, and turns nothing. No condition. -/
import Derived.Test.YtbmekbpgoakkbaaGreatDoorCards
import Derived.Test.YtbmekbpgoakkbaaGreatDoorTq
import Derived.Test.YtbmekbpgoakkbaaGreatDoorFj
import Derived.Test.YtbmekbpgoakkbaaGreatDoorShelf
import Derived.WalkKit
import Derived.ProofKit
import Derived.OpenShut
import Derived.Deep.DeepHandedRow
import Derived.Lib.LaidTab
import Derived.Test.YtbmekbpgoakkbaaGreatDoorVxY
import Derived.Below
import Derived.Test.YtbmekbpgoakkbaaGreatDoorTr
import Derived.Test.YtbmekbpgoakkbaaGreatDoorTjk
namespace Go.Proofs.YtbmekbpgoakkbaaGreatDoor.taleNames
open Go.ChangeShapes Go.WideShapes Go.ChangeAt Go.RowKit
set_option linter.all false

theorem walk (w : World) (hw : Vx.HoldsG w [(1, [.ii .i64]), (2, Tf.pw)]) :
    Calls Tryz.prog 4 #[] w fun e w' => e = .returned (.bool true) ∧ Below w.heap.size w w' :=
  Vx.closedG (Vx.run_ok Tj.sp_ok 200) (by kernel_rfl) (by kernel_rfl) ran w hw

theorem own : ownKnob Tryz.prog.godebug = none := by kernel_rfl

set_option maxRecDepth 100000 in
theorem contract (H : Type) (enc : TypeId × Value → H) (W : World) (base : Nat) (args : Array Value) (ds gs : List (DataW H)) (before : List MemPlace)
    (hval : ∀ (j : Nat) t v, Tryz.f4.params[j]? = some t → args[j]? = some v → Value.okWide Tryz.prog W .any base t v)
    (hW : DataW.Whole enc Tryz.prog Tryz.f4.params.toList Rows.taleNamesSpec.vars false W args.toList ds gs before) (hL : laidMetH Tryz.prog Rows.taleNamesRow.laid W) (hsh : W.ShapedOpen Tryz.prog) :
    Calls Tryz.prog 4 args W fun e W' => ∃ v, e = .returned v ∧ Rows.taleNamesSpec.post enc Tryz.prog Tryz.f4 false true false false W args v W' := by
  have hW' := hW
  obtain ⟨p, q, hA0, hV, rfl, hfz, hnd⟩ := hW
  have hA : DataW.TrodAll enc Tryz.prog W 0 (fun _ => true) true Tryz.f4.params.toList args.toList ds p := hA0
  rw [Tryz.params4] at hA hval
  obtain ⟨rfl, rfl, rfl⟩ := trodAll_none hA
  obtain ⟨rfl, rfl⟩ := trodVars_none hV
  clear hA0
  simp only [List.append_nil] at hW'
  obtain ⟨m0, hm0⟩ := Tryz.laysM143.s1_3 W hsh
  refine (walk W (Vx.holds_two (Vx.holds_of_cell hm0) (Tf.pw_holds hL))).mono fun e W' ⟨he, hg⟩ => ?_
  subst he
  exact ⟨_, rfl, Vx.post_below (pa := []) (pv := []) hW' (fun _ _ _ => (trodAll_cons_mk (shut_bool Tryz.underlying4 _) trodAll_mk0)) (fun sp _ => rfl) (fun _ _ => rfl) rfl
    hg (ok_one (by kernel_rfl) rfl (okWide_bool_mk Tryz.underlying4 _))⟩

def cells0 : DataW Unit → List Value
  | .lit (.int k n) => [.int k n]
  | _ => []
def cells1 : DataW Unit → List Value
  | .agg ps => ps.flatMap cells0
  | d => cells0 d
def cells2 : DataW Unit → List Value
  | .agg ps => ps.flatMap cells1
  | d => cells0 d

noncomputable def laidWorld (os : Os) : World :=
  { World.holding Tryz.prog os ⟨#[], #[], []⟩ with heap := ((((((World.holding Tryz.prog os ⟨#[], #[], []⟩).heap.modify 5 fun | .cells _ t fr => .cells (cells2 (Rows.laid_math_bits_deBruijn32tab (H := Unit))).toArray t fr | o => o).modify 6 fun | .cells _ t fr => .cells (cells2 (Rows.laid_math_bits_deBruijn64tab (H := Unit))).toArray t fr | o => o).modify 2 fun | .cells _ t fr => .cells (cells2 (Rows.laid_internal_strconv_uint64pow10 (H := Unit))).toArray t fr | o => o).modify 4 fun | .cells _ t fr => .cells (cells2 (Rows.laid_unicode_utf8_acceptRanges (H := Unit))).toArray t fr | o => o).modify 3 fun | .cells _ t fr => .cells (cells2 Rows.laid_unicode_utf8_first).toArray t fr | o => o) }
theorem laid_met (os : Os) : laidMet Tryz.prog Rows.taleNamesRow.laid ((laidWorld os).forCall (fun _ _ => 0) ⟨#[], #[], []⟩).memory :=
  laidMet_of_run' 8 (by kernel_rfl) (by kernel_rfl)
theorem reads (os : Os) {H : Type} (enc : TypeId × Value → H) : ∃ places, DataW.whole enc Tryz.prog ((laidWorld os).forCall (fun _ _ => 0) ⟨#[], #[], []⟩).memory Tryz.f4.params.toList Rows.taleNamesSpec.vars false (#[] : Array Value).toList 8 = some ([], [], places) :=
  ⟨[], by kernel_rfl⟩

set_option maxRecDepth 100000 in
theorem lifted (os : Os) (started : os.Started) (H : Type) (enc : TypeId × Value → H) (F : Stop.Interp) :
    ReturnsInHanded {} Tryz.checked os 4 .any ((OpenSpec.ofChange Rows.taleNamesSpec).preRow enc Tryz.prog Tryz.f4 Rows.taleNamesRow.domain false Rows.taleNamesRow.laid) (((OpenSpec.ofChange Rows.taleNamesSpec).at F).post enc Tryz.prog Tryz.f4 false true false false) := by
  obtain ⟨places, hx⟩ := reads os enc
  refine returnsInHanded_of_row (C := Tryz.checked) (s := OpenSpec.ofChange Rows.taleNamesSpec) own started (by kernel_rfl) Tryz.func4
    (witness_row_at (enc := enc) (C := Tryz.checked) false (laidWorld os) #[] rfl (by kernel_rfl) (by kernel_rfl) (by kernel_rfl)
      (OpenSpec.preRow_of_cond 8 hx (by kernel_rfl) (fun k hk => by cases hk) (by kernel_rfl) (laid_met os))) ?_
  intro W base args ds gs before hval hW _ _ _ hL hsh _
  exact contract H enc W base args ds gs before hval hW hL hsh

set_option maxRecDepth 1000000 in
theorem said : Rows.TaleNamesSaid :=
  OpenClaim.holds_of_cond 4 Tryz.f4 rfl rfl rfl rfl rfl rfl rfl ⟨rfl, rfl, rfl, rfl, rfl⟩ rfl rfl rfl rfl rfl (by kernel_rfl) Tryz.func4 Fct.closed
    (of_decide_eq_true (by kernel_rfl)) (by unfold Func.isWrapper; first | (rw [if_pos (by decide +kernel)]; kernel_rfl) | (rw [if_neg (by decide +kernel)]; exact ⟨rfl, rfl⟩))
    (fun os started H enc _ F => by rw [OpenClaim.pre_eq_preRow]; exact lifted os started H enc F)

set_option maxRecDepth 1000000 in
theorem plain (f : FuncId) (fn : Func) (hf : Tryz.pinned.checked.prog.funcNamed "bailiff/bailifflaw28.TaleNames" = some f) (hfn : Tryz.pinned.checked.prog.funcs[f]? = some fn) :
    true = Tryz.pinned.checked.prog.looks [] ∧ ∀ (j : Nat) t, fn.params[j]? = some t → Tryz.pinned.checked.prog.wantsStandIn t = false := by
  obtain rfl : f = 4 := Option.some.inj ((show Tryz.prog.funcNamed "bailiff/bailifflaw28.TaleNames" = some 4 by kernel_rfl).symm.trans hf) |>.symm
  obtain rfl : fn = Tryz.f4 := (Option.some.inj (Tryz.func4.symm.trans hfn)).symm
  refine ⟨by kernel_rfl, fun j t ht => ?_⟩
  rw [Tryz.params4] at ht
  simp at ht

set_option maxRecDepth 1000000 in
theorem proved : Rows.TaleNamesCardSaid :=
  Claim7.holds_tied_plain_at .later [] _ _ _ _ said (fun _ h => by cases h) Hp.pw (fun _ h => by cases h) Tq.taleNames_row_tie rfl ⟨rfl, rfl⟩ Hp.pm rfl plain Hp.gby
end Go.Proofs.YtbmekbpgoakkbaaGreatDoor.taleNames
