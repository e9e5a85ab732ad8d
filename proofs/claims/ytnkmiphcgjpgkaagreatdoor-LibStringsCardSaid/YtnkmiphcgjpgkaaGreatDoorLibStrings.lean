/- The law LibStrings of bailifflaw23 holds: the given function answers true for any two strings, and turns nothing. No condition. -/
import Derived.Test.YtnkmiphcgjpgkaaGreatDoorLsF
import Derived.ChangeMaps5
namespace Go.Proofs.YtnkmiphcgjpgkaaGreatDoor.Ls
open Go.ChangeShapes Go.WideShapes Go.ChangeAt Go.RowKit
set_option linter.unusedVariables false
set_option linter.constructorNameAsVariable false
set_option maxRecDepth 100000

theorem emp {x : ByteArray} (h : x.size = 0) : x = Vx.str 0 0 := by
  have : x.data = (Vx.str 0 0).data := by
    apply Array.ext'
    rw [Vx.str_toList]
    apply List.eq_nil_of_length_eq_zero
    rw [Array.length_toList]; exact h
  cases x
  rw [show Vx.str 0 0 = ⟨(Vx.str 0 0).data⟩ from rfl, ← this]
theorem idx_empty {U : ByteArray} (h : 0 < U.size) : Lib.index (Vx.str 0 0).data.toList U.data.toList = -1 := by
  rw [Vx.str_toList]
  show (if U.data.toList.isEmpty then (0 : Int) else -1) = -1
  rw [if_neg]
  intro e
  rw [List.isEmpty_iff] at e
  have := congrArg List.length e
  rw [Array.length_toList] at this
  have h2 : U.data.size = U.size := rfl
  rw [h2] at this
  have h3 : U.size = 0 := this
  omega
theorem walk (S U : ByteArray) (hS : (S.size : Int) ≤ 9223372036854775807) (hU : (U.size : Int) ≤ 9223372036854775807) (w : World) (hsh : w.ShapedOpen Tryz.prog) :
    Calls Tryz.prog 3 #[.string S, .string U] w fun e w' => e = .returned (.bool true) ∧ Below w.heap.size w w' := by
  obtain ⟨m0, hm0⟩ := Tryz.laysM143.s1_3 w hsh
  have hg := Vx.holds_of_cell hm0
  have hpos : 0 < w.heap.size := by
    obtain ⟨arr, el, fr, hb, _⟩ := hg _ (List.mem_singleton.2 rfl)
    have := (Array.getElem?_eq_some_iff.1 hb).1
    omega
  have hw : ∀ p ∈ GL, ∃ arr el fr, w.heap[p.1]? = some (.cells arr el fr) ∧ Vx.RvL (Vx.symEV GL 3 [.string S, .string U]) p.2 (arr.toList.take p.2.length) := fun p hp => by
    obtain ⟨arr, el, fr, hb, hr⟩ := hg p hp
    exact ⟨arr, el, fr, hb, hr _⟩
  have ds : Vx.den (Vx.symEV GL 3 [.string S, .string U]) s = some (.string S) := Vx.den_sym (n0 := 3) 0 rfl (Vx.sok_s _)
  have dt : Vx.den (Vx.symEV GL 3 [.string S, .string U]) t = some (.string U) := Vx.den_sym (n0 := 3) 1 rfl (Vx.sok_s _)
  have rs : Vx.Rv (Vx.symEV GL 3 [.string S, .string U]) (.x .s s) (.string S) := Vx.rv_sym (n0 := 3) (s := .s) 0 rfl (Vx.sok_s _) ⟨_, rfl, hS⟩
  have rt : Vx.Rv (Vx.symEV GL 3 [.string S, .string U]) (.x .s t) (.string U) := Vx.rv_sym (n0 := 3) (s := .s) 1 rfl (Vx.sok_s _) ⟨_, rfl, hU⟩
  have go : ∀ (f : Vx.Facts) (a b : Vx.AV), Vx.Rv (Vx.symEV GL 3 [.string S, .string U]) a (.string S) → Vx.Rv (Vx.symEV GL 3 [.string S, .string U]) b (.string U) → Vx.Holds (Vx.symEV GL 3 [.string S, .string U]) f → G f a b = true → Calls Tryz.prog 3 #[.string S, .string U] w fun e w' => e = .returned (.bool true) ∧ Below w.heap.size w w' :=
    fun f a b ra rb hf hG => Vx.closedValG (Vx.run_ok SL_ok 40) (gl := GL) (n0 := 3) (nn := 5) (by kernel_rfl) (by kernel_rfl) (by kernel_rfl) rfl hf (Vx.rvl_cons ra (Vx.rvl_cons rb Vx.rvl_nil)) hG w hpos hw
  have l1 : Vx.den (Vx.symEV GL 3 [.string S, .string U]) lS = some (.int .i64 S.size) := Vx.den_len ds
  have l2 : Vx.den (Vx.symEV GL 3 [.string S, .string U]) lT = some (.int .i64 U.size) := Vx.den_len dt
  by_cases c1 : (S.size : Int) ≤ 4096
  case neg => exact go _ _ _ rs rt (Vx.holds_cons (le_of l1 (decide_eq_false c1)) Vx.holds_nil) r5
  by_cases c2 : (U.size : Int) ≤ 4096
  case neg => exact go _ _ _ rs rt (Vx.holds_cons (le_of l1 (decide_eq_true c1)) (Vx.holds_cons (le_of l2 (decide_eq_false c2)) Vx.holds_nil)) r6
  by_cases z1 : S.size = 0
  · have eS := emp z1
    have rs0 : Vx.Rv (Vx.symEV GL 3 [.string S, .string U]) (.s 0 0) (.string S) := by rw [Vx.Rv, eS]
    by_cases z2 : U.size = 0
    · exact go _ _ _ rs0 (by rw [Vx.Rv, emp z2]) Vx.holds_nil r0
    · have x0 : Vx.den (Vx.symEV GL 3 [.string S, .string U]) ES = some (.int .i64 (-1)) := by
        refine (idx_of (x := .ls 0 0) (S := Vx.str 0 0) rfl dt).trans ?_
        rw [idx_empty (by omega)]
      exact go _ _ _ rs0 rt (Vx.holds_cons (may_str dt c2) (Vx.holds_cons (le_of l2 (decide_eq_true c2)) (Vx.holds_cons (le_of l2 (decide_eq_false (by omega))) (Vx.holds_cons (le_of x0 rfl) (Vx.holds_cons (le_of x0 rfl) Vx.holds_nil))))) r1
  have b1 : 1 ≤ (S.size : Int) := by omega
  have k0 := h0 ds dt b1 c1 c2
  have k1 := h1 ds b1 c1
  by_cases hr : 0 ≤ Lib.index S.data.toList U.data.toList
  · exact go _ _ _ rs rt (Vx.holds_append (Vx.holds_append k0 k1) (hB ds dt c1 c2 hr)) r2
  have hge := Lib.index_ge S.data.toList U.data.toList
  have hr : Lib.index S.data.toList U.data.toList = -1 := by omega
  by_cases hl : (S.size : Int) < U.size
  · exact go _ _ _ rs rt (Vx.holds_append (Vx.holds_append k0 k1) (hA1 ds dt hr hl)) r3
  · exact go _ _ _ rs rt (Vx.holds_append (Vx.holds_append k0 k1) (hA2 ds dt c1 hr (by omega))) r4

set_option maxRecDepth 100000 in
theorem contract (H : Type) (enc : TypeId × Value → H) (W : World) (base : Nat) (args : Array Value) (ds gs : List (DataW H)) (before : List MemPlace)
    (hval0 : ∀ (j : Nat) t v, Tryz.f3.params[j]? = some t → args[j]? = some v → Value.okWide Tryz.prog W .any base t v)
    (hW : DataW.Whole enc Tryz.prog Tryz.f3.params.toList Rows.libStringsSpec.vars false W args.toList ds gs before) (hsh : W.ShapedOpen Tryz.prog) :
    Calls Tryz.prog 3 args W fun e W' => ∃ v, e = .returned v ∧ Rows.libStringsSpec.post enc Tryz.prog Tryz.f3 false true false false W args v W' := by
  have hval : ∀ (j : Nat) t v, Tryz.f3.params[j]? = some t → args[j]? = some v → Value.okWide Tryz.prog W .any base t v := hval0
  have hW' := hW
  obtain ⟨p, q, hA0, hV, rfl, hfz, hnd⟩ := hW
  have hA : DataW.TrodAll enc Tryz.prog W 0 (fun _ => true) true Tryz.f3.params.toList args.toList ds p := hA0
  rw [Tryz.params3] at hA hval
  obtain ⟨v0, v1, d0, d1, p0, p1, rfl, rfl, rfl, h0, h1⟩ := trodAll_two hA
  obtain ⟨S, rfl, rfl, rfl, hS⟩ := _root_.Go.ChangeMaps.open_string Tryz.underlying9 (hval 0 9 _ rfl rfl) h0
  obtain ⟨U, rfl, rfl, rfl, hU⟩ := _root_.Go.ChangeMaps.open_string Tryz.underlying9 (hval 1 9 _ rfl rfl) h1
  obtain ⟨rfl, rfl⟩ := trodVars_none hV
  simp only [List.append_nil] at hW'
  have mx : (maxLen : Int) ≤ 9223372036854775807 := by decide
  refine (walk S U (by omega) (by omega) W hsh).mono fun e W' ⟨he, hg⟩ => ?_
  subst he
  have hlaid : laidOutB Tryz.prog = true := by kernel_rfl
  have hr : Tryz.prog.readableRec 9 = true := by kernel_rfl
  have hrow : 9 < Tryz.prog.types.size := of_decide_eq_true (by kernel_rfl)
  exact ⟨_, rfl, Vx.post_below (pa := []) (pv := []) hW' (fun _ _ _ => (trodAll_cons_mk (shut_bool Tryz.underlying4 _) trodAll_mk0))
    (fun sp _ => trodAll_cons_mk (WideElems.Trod_stays hlaid hr hrow h0 (fun _ hx => by cases hx) (fun _ hx => by cases hx)) (trodAll_cons_mk (WideElems.Trod_stays hlaid hr hrow h1 (fun _ hx => by cases hx) (fun _ hx => by cases hx)) trodAll_mk0)) (fun _ _ => rfl) rfl
    hg (ok_one (by kernel_rfl) rfl (okWide_bool_mk Tryz.underlying4 _))⟩

def cells0 : DataW Unit → List Value
  | .lit (.int k n) => [.int k n]
  | _ => []
def cells1 : DataW Unit → List Value
  | .agg ps => ps.flatMap cells0
  | d => cells0 d
def cells2 : DataW Unit → List Value
  | .agg ps => ps.flatMap cells1
  | d => cells0 d
def zeroV : Value := .string ByteArray.empty
noncomputable def laidWorld (os : Os) : World :=
  { World.holding Tryz.prog os ⟨#[], #[zeroV, zeroV], []⟩ with heap := ((((World.holding Tryz.prog os ⟨#[], #[zeroV, zeroV], []⟩).heap.modify 3 fun | .cells _ t fr => .cells (cells2 (Rows.laid_math_bits_deBruijn32tab (H := Unit))).toArray t fr | o => o).modify 4 fun | .cells _ t fr => .cells (cells2 (Rows.laid_math_bits_deBruijn64tab (H := Unit))).toArray t fr | o => o).modify 2 fun | .cells _ t fr => .cells (cells2 (Rows.laid_internal_strconv_uint64pow10 (H := Unit))).toArray t fr | o => o) }
theorem laid_met (os : Os) : laidMet Tryz.prog Rows.libStringsRow.laid ((laidWorld os).forCall (fun _ _ => 0) ⟨#[], #[zeroV, zeroV], []⟩).memory :=
  laidMet_of_run' 8 (by kernel_rfl) (by kernel_rfl)
theorem reads (os : Os) {H : Type} (enc : TypeId × Value → H) : ∃ ds places, DataW.whole enc Tryz.prog ((laidWorld os).forCall (fun _ _ => 0) ⟨#[], #[zeroV, zeroV], []⟩).memory Tryz.f3.params.toList Rows.libStringsSpec.vars false (#[zeroV, zeroV] : Array Value).toList 8 = some (ds, [], places) :=
  ⟨[.lit (.string []), .lit (.string [])], [], by kernel_rfl⟩

set_option maxRecDepth 100000 in
theorem lifted (os : Os) (started : os.Started) (H : Type) (enc : TypeId × Value → H) (F : Stop.Interp) :
    ReturnsInHanded {} Tryz.checked os 3 .any ((OpenSpec.ofChange Rows.libStringsSpec).preRow enc Tryz.prog Tryz.f3 Rows.libStringsRow.domain false Rows.libStringsRow.laid) (((OpenSpec.ofChange Rows.libStringsSpec).at F).post enc Tryz.prog Tryz.f3 false true false false) := by
  obtain ⟨ds, places, hx⟩ := reads os enc
  refine returnsInHanded_of_row (C := Tryz.checked) (s := OpenSpec.ofChange Rows.libStringsSpec) own started (by kernel_rfl) Tryz.func3
    (witness_row_at (enc := enc) (C := Tryz.checked) false (laidWorld os) #[zeroV, zeroV] rfl (by kernel_rfl) (by kernel_rfl) (by kernel_rfl)
      (OpenSpec.preRow_of_cond 8 hx (by kernel_rfl) (fun k hk => by cases hk) (by kernel_rfl) (laid_met os))) ?_
  intro W base args ds gs before hval hW _ _ _ hL hsh _
  exact contract H enc W base args ds gs before hval hW hsh

theorem said : Rows.LibStringsSaid :=
  OpenClaim.holds_of_cond 3 Tryz.f3 rfl rfl rfl rfl rfl rfl rfl ⟨rfl, rfl, rfl, rfl, rfl⟩ rfl rfl rfl rfl rfl (by kernel_rfl) Tryz.func3 (by kernel_rfl)
    (of_decide_eq_true (by kernel_rfl)) (by unfold Func.isWrapper; first | (rw [if_pos (by decide +kernel)]; kernel_rfl) | (rw [if_neg (by decide +kernel)]; exact ⟨rfl, rfl⟩))
    (fun os started H enc _ F => by rw [OpenClaim.pre_eq_preRow]; exact lifted os started H enc F)

theorem plain (f : FuncId) (fn : Func) (hf : Tryz.pinned.checked.prog.funcNamed "bailiff/bailifflaw23.LibStrings" = some f) (hfn : Tryz.pinned.checked.prog.funcs[f]? = some fn) :
    false = Tryz.pinned.checked.prog.looks [] ∧ ∀ (j : Nat) t, fn.params[j]? = some t → Tryz.pinned.checked.prog.wantsStandIn t = false := by
  obtain rfl : f = 3 := Option.some.inj ((show Tryz.prog.funcNamed "bailiff/bailifflaw23.LibStrings" = some 3 by kernel_rfl).symm.trans hf) |>.symm
  obtain rfl : fn = Tryz.f3 := (Option.some.inj (Tryz.func3.symm.trans hfn)).symm
  have st : Tryz.prog.wantsStandIn 9 = false := by kernel_rfl
  refine ⟨by kernel_rfl, fun j t ht => ?_⟩
  rw [Tryz.params3] at ht
  match j, ht with
  | 0, ht => cases ht; exact st
  | 1, ht => cases ht; exact st
  | j + 2, ht => simp at ht

end Go.Proofs.YtnkmiphcgjpgkaaGreatDoor.Ls
namespace Go.Proofs.YtnkmiphcgjpgkaaGreatDoor.libStrings
theorem proved : Rows.LibStringsCardSaid :=
  Claim7.holds_tied_plain_at .later [] _ _ _ _ Ls.said (fun _ h => by cases h) (by kernel_rfl) (fun _ h => by cases h) libStrings_row_tie rfl ⟨rfl, rfl⟩ (by kernel_rfl) rfl Ls.plain (by kernel_rfl)
end Go.Proofs.YtnkmiphcgjpgkaaGreatDoor.libStrings
