/- The law LibPlain of bailifflaw23 holds: the given function answers true for any name, value and arguments, and turns nothing. No condition. -/
import Derived.Test.YtaecedlhiclkdaaGreatDoorCards
import Derived.Test.YtaecedlhiclkdaaGreatDoorTie
import Derived.Test.YtaecedlhiclkdaaGreatDoorLpO
import Derived.Deep.DeepHandedRow
import Derived.Lib.LaidTab
namespace Go.Proofs.YtaecedlhiclkdaaGreatDoor.Lp
open Go.ChangeShapes Go.WideShapes Go.ChangeAt Go.RowKit
set_option linter.unusedVariables false
set_option linter.constructorNameAsVariable false
set_option maxRecDepth 100000

theorem own : ownKnob Tryz.prog.godebug = none := by kernel_rfl
set_option maxRecDepth 100000 in
theorem contract (H : Type) (enc : TypeId × Value → H) (W : World) (base : Nat) (args : Array Value) (ds gs : List (DataW H)) (before : List MemPlace)
    (hval0 : ∀ (j : Nat) t v, Tryz.f3.params[j]? = some t → args[j]? = some v → Value.okWide Tryz.prog W .any base t v)
    (hW : DataW.Whole enc Tryz.prog Tryz.f3.params.toList Rows.libPlainSpec.vars false W args.toList ds gs before) (hsh : W.ShapedOpen Tryz.prog) :
    Calls Tryz.prog 3 args W fun e W' => ∃ v, e = .returned v ∧ Rows.libPlainSpec.post enc Tryz.prog Tryz.f3 false true false false W args v W' := by
  have hval : ∀ (j : Nat) t v, Tryz.f3.params[j]? = some t → args[j]? = some v → Value.okWide Tryz.prog W .any base t v := hval0
  have hW' := hW
  obtain ⟨p, q, hA0, hV, rfl, hfz, hnd⟩ := hW
  have hA : DataW.TrodAll enc Tryz.prog W 0 (fun _ => true) true Tryz.f3.params.toList args.toList ds p := hA0
  rw [Tryz.params3] at hA hval
  obtain ⟨v0, r0, d0, s0, p0, q0, e0, rfl, rfl, h0, hA⟩ := trodAll_cons hA
  obtain ⟨v1, r1, d1, s1, p1, q1, rfl, rfl, rfl, h1, hA⟩ := trodAll_cons hA
  obtain ⟨v2, r2, d2, s2, p2, q2, rfl, rfl, rfl, h2, hA⟩ := trodAll_cons hA
  obtain ⟨rfl, rfl, rfl⟩ := trodAll_nil hA
  obtain rfl : args = #[v0, v1, v2] := by apply Array.ext'; exact e0
  obtain ⟨S, rfl, rfl, rfl, hS⟩ := _root_.Go.ChangeMaps.open_string Tryz.underlying9 (hval 0 9 _ rfl rfl) h0
  obtain ⟨cs, rfl, hcs, rfl⟩ := Vx.open_flat (d := 4) Tryz.underlying24 (by kernel_rfl) (hval 1 24 _ rfl rfl) h1
  obtain ⟨c, x, s, r, hvc, n1, x1, y1, z1⟩ := val_cells hcs
  have hl := open_args (hval 2 25 _ rfl rfl) h2
  obtain ⟨rfl, rfl⟩ := trodVars_none hV
  simp only [List.append_nil, List.nil_append] at hW'
  have hlt : ∀ y ∈ p2, y.block < W.heap.size := fun y hy => hW'.lt y hy
  have hw := walk (nm := S) (u := ⟨c, x, s, r⟩) (l := v2) (W := W) (by have : S.size ≤ 9223372036854775807 := hS; omega) ⟨n1, x1, y1, z1⟩ hl (hval 2 25 _ rfl rfl) hsh
  have ev : (⟨c, x, s, r⟩ : V4).cells = cs := hvc.symm
  rw [ev] at hw
  refine hw.mono fun e W' ⟨he, hg⟩ => ?_
  subst he
  have hlaid : laidOutB Tryz.prog = true := by kernel_rfl
  have hr9 : Tryz.prog.readableRec 9 = true := by kernel_rfl
  have hr25 : Tryz.prog.readableRec 25 = true := by kernel_rfl
  have hr24 : Tryz.prog.readableRec 24 = true := by kernel_rfl
  have hrow9 : 9 < Tryz.prog.types.size := of_decide_eq_true (by kernel_rfl)
  have hrow25 : 25 < Tryz.prog.types.size := of_decide_eq_true (by kernel_rfl)
  have hrow24 : 24 < Tryz.prog.types.size := of_decide_eq_true (by kernel_rfl)
  exact ⟨_, rfl, Vx.post_below (pa := p2) (pv := []) hW' (fun _ _ _ => (trodAll_cons_mk (shut_bool Tryz.underlying4 _) trodAll_mk0))
    (fun sp hsp => by
      have a2 := trodAll_cons_mk (WideElems.Trod_stays (sp' := sp) hlaid hr25 hrow25 h2 (fun y hy => hg.same (hlt y hy)) (fun y hy => hsp y hy)) trodAll_mk0
      rw [List.append_nil] at a2
      have a1 := trodAll_cons_mk (WideElems.Trod_stays (sp' := sp) (W' := W') hlaid hr24 hrow24 h1 (fun _ hx => by cases hx) (fun _ hx => by cases hx)) a2
      have a0 := trodAll_cons_mk (WideElems.Trod_stays (sp' := sp) (W' := W') hlaid hr9 hrow9 h0 (fun _ hx => by cases hx) (fun _ hx => by cases hx)) a1
      rw [List.nil_append, List.nil_append] at a0
      exact a0)
    (fun _ _ => rfl) (List.append_nil _).symm hg (ok_one (by kernel_rfl) rfl (okWide_bool_mk Tryz.underlying4 _))⟩

def cells0 : DataW Unit → List Value
  | .lit (.int k n) => [.int k n]
  | _ => []
def cells1 : DataW Unit → List Value
  | .agg ps => ps.flatMap cells0
  | d => cells0 d
def cells2 : DataW Unit → List Value
  | .agg ps => ps.flatMap cells1
  | d => cells0 d
def argsZ : Array Value := #[.string ByteArray.empty, .agg #[.int .u8 0, .float .f64 0, .string ByteArray.empty, .int .i64 0], .slice none 0 0]
noncomputable def laidWorld (os : Os) : World :=
  { World.holding Tryz.prog os ⟨#[], argsZ, []⟩ with heap := ((((World.holding Tryz.prog os ⟨#[], argsZ, []⟩).heap.modify 3 fun | .cells _ t fr => .cells (cells2 (Rows.laid_math_bits_deBruijn32tab (H := Unit))).toArray t fr | o => o).modify 4 fun | .cells _ t fr => .cells (cells2 (Rows.laid_math_bits_deBruijn64tab (H := Unit))).toArray t fr | o => o).modify 2 fun | .cells _ t fr => .cells (cells2 (Rows.laid_internal_strconv_uint64pow10 (H := Unit))).toArray t fr | o => o) }
theorem laid_met (os : Os) : laidMet Tryz.prog Rows.libPlainRow.laid ((laidWorld os).forCall (fun _ _ => 0) ⟨#[], argsZ, []⟩).memory :=
  laidMet_of_run' 8 (by kernel_rfl) (by kernel_rfl)
theorem reads (os : Os) {H : Type} (enc : TypeId × Value → H) : ∃ ds places, DataW.whole enc Tryz.prog ((laidWorld os).forCall (fun _ _ => 0) ⟨#[], argsZ, []⟩).memory Tryz.f3.params.toList Rows.libPlainSpec.vars false argsZ.toList 8 = some (ds, [], places) :=
  ⟨[.lit (.string []), .agg [.lit (.int .u8 0), .lit (.float .f64 0), .lit (.string []), .lit (.int .i64 0)], .nil], [], by kernel_rfl⟩

set_option maxRecDepth 100000 in
theorem lifted (os : Os) (started : os.Started) (H : Type) (enc : TypeId × Value → H) (F : Stop.Interp) :
    ReturnsInHanded {} Tryz.checked os 3 .any ((OpenSpec.ofChange Rows.libPlainSpec).preRow enc Tryz.prog Tryz.f3 Rows.libPlainRow.domain false Rows.libPlainRow.laid) (((OpenSpec.ofChange Rows.libPlainSpec).at F).post enc Tryz.prog Tryz.f3 false true false false) := by
  obtain ⟨ds, places, hx⟩ := reads os enc
  refine returnsInHanded_of_row (C := Tryz.checked) (s := OpenSpec.ofChange Rows.libPlainSpec) own started (by kernel_rfl) Tryz.func3
    (witness_row_at (enc := enc) (C := Tryz.checked) false (laidWorld os) argsZ rfl (by kernel_rfl) (by kernel_rfl) (by kernel_rfl)
      (OpenSpec.preRow_of_cond 8 hx (by kernel_rfl) (fun k hk => by cases hk) (by kernel_rfl) (laid_met os))) ?_
  intro W base args ds gs before hval hW _ _ _ hL hsh _
  exact contract H enc W base args ds gs before hval hW hsh

theorem said : Rows.LibPlainSaid :=
  OpenClaim.holds_of_cond 3 Tryz.f3 rfl rfl rfl rfl rfl rfl rfl ⟨rfl, rfl, rfl, rfl, rfl⟩ rfl rfl rfl rfl rfl (by kernel_rfl) Tryz.func3 (by kernel_rfl)
    (of_decide_eq_true (by kernel_rfl)) (by unfold Func.isWrapper; first | (rw [if_pos (by decide +kernel)]; kernel_rfl) | (rw [if_neg (by decide +kernel)]; exact ⟨rfl, rfl⟩))
    (fun os started H enc _ F => by rw [OpenClaim.pre_eq_preRow]; exact lifted os started H enc F)

theorem plain (f : FuncId) (fn : Func) (hf : Tryz.pinned.checked.prog.funcNamed "bailiff/bailifflaw23.LibPlain" = some f) (hfn : Tryz.pinned.checked.prog.funcs[f]? = some fn) :
    false = Tryz.pinned.checked.prog.looks [] ∧ ∀ (j : Nat) t, fn.params[j]? = some t → Tryz.pinned.checked.prog.wantsStandIn t = false := by
  obtain rfl : f = 3 := Option.some.inj ((show Tryz.prog.funcNamed "bailiff/bailifflaw23.LibPlain" = some 3 by kernel_rfl).symm.trans hf) |>.symm
  obtain rfl : fn = Tryz.f3 := (Option.some.inj (Tryz.func3.symm.trans hfn)).symm
  have st9 : Tryz.prog.wantsStandIn 9 = false := by kernel_rfl
  have st25 : Tryz.prog.wantsStandIn 25 = false := by kernel_rfl
  have st24 : Tryz.prog.wantsStandIn 24 = false := by kernel_rfl
  refine ⟨by kernel_rfl, fun j t ht => ?_⟩
  rw [Tryz.params3] at ht
  match j, ht with
  | 0, ht => cases ht; exact st9
  | 1, ht => cases ht; exact st24
  | 2, ht => cases ht; exact st25
  | j + 3, ht => simp at ht
end Go.Proofs.YtaecedlhiclkdaaGreatDoor.Lp
namespace Go.Proofs.YtaecedlhiclkdaaGreatDoor.libPlain
theorem proved : Rows.LibPlainCardSaid :=
  Claim7.holds_tied_plain_at .later [] _ _ _ _ Lp.said (fun _ h => by cases h) (by kernel_rfl) (fun _ h => by cases h) libPlain_row_tie rfl ⟨rfl, rfl⟩ (by kernel_rfl) rfl Lp.plain (by kernel_rfl)
end Go.Proofs.YtaecedlhiclkdaaGreatDoor.libPlain
