/- The law CoercePlain of bailifflaw17 holds: the given function answers true for any two values, and turns nothing. No condition. -/
import Derived.Test.YtdplmegbnceijaaGreatDoorCards
import Derived.Test.YtdplmegbnceijaaGreatDoorTie
import Derived.WalkKit
import Derived.ProofKit
import Derived.OpenShut
import Derived.HandedShaped
import Derived.Deep.DeepHandedRow
import Derived.Lib.LaidTab
import Derived.Test.YtdplmegbnceijaaGreatDoorPlR0
import Derived.Test.YtdplmegbnceijaaGreatDoorPlR1
import Derived.Test.YtdplmegbnceijaaGreatDoorPlR2
import Derived.Test.YtdplmegbnceijaaGreatDoorPlR3
import Derived.Test.YtdplmegbnceijaaGreatDoorPlR4
import Derived.Test.YtdplmegbnceijaaGreatDoorPlR5
import Derived.Test.YtdplmegbnceijaaGreatDoorPlR6
import Derived.Test.YtdplmegbnceijaaGreatDoorPlR7
namespace Go.Proofs.YtdplmegbnceijaaGreatDoor.Pl
open Go.ChangeShapes Go.WideShapes Go.ChangeAt Go.RowKit
set_option linter.unusedVariables false
set_option linter.constructorNameAsVariable false
set_option maxRecDepth 100000

theorem own : ownKnob Tryz.prog.godebug = none := by kernel_rfl
theorem all : Vx.AllFrom (fun i => ∀ j, j < 10 → G i j = true) 0 10 := ⟨fun j hj => ga0.get j (Nat.zero_le _) (by omega), fun j hj => ga1.get j (Nat.zero_le _) (by omega), fun j hj => ga2.get j (Nat.zero_le _) (by omega), fun j hj => ga3.get j (Nat.zero_le _) (by omega), fun j hj => ga4.get j (Nat.zero_le _) (by omega), fun j hj => ga5.get j (Nat.zero_le _) (by omega), fun j hj => ga6.get j (Nat.zero_le _) (by omega), fun j hj => ga7.get j (Nat.zero_le _) (by omega), fun j hj => ga8.get j (Nat.zero_le _) (by omega), fun j hj => ga9.get j (Nat.zero_le _) (by omega), trivial⟩
theorem world_pos {W : World} (h : W.ShapedOpen Tryz.prog) : 0 < W.heap.size := by
  have e : ∃ z t, ((begin Tryz.prog (fun _ _ => 0) default).world.heap[0]?).bind Obj.row? = some (z, t) := by
    have e1 : (((begin Tryz.prog (fun _ _ => 0) default).world.heap[0]?).bind Obj.row?).isSome = true := by kernel_rfl
    cases h0 : ((begin Tryz.prog (fun _ _ => 0) default).world.heap[0]?).bind Obj.row? with
    | none => rw [h0] at e1; cases e1
    | some p => exact ⟨p.1, p.2, rfl⟩
  obtain ⟨z, t, e⟩ := e
  exact Vx.heap_pos h (of_decide_eq_true (by kernel_rfl)) e
/-- the table's cells, whatever they are -/
theorem table {W : World} (h : W.ShapedOpen Tryz.prog) : ∃ (arr : Array Value) (el : TypeId) (fr : Nat × Nat) (zs : List Int), W.heap[4]? = some (.cells arr el fr) ∧ arr.toList.take 20 = zs.map (Value.int .u64) ∧ zs.length = 20 ∧ ∀ z ∈ zs, 0 ≤ z ∧ z ≤ 18446744073709551615 := by
  have e : ∃ z, ((begin Tryz.prog (fun _ _ => 0) default).world.heap[4]?).bind Obj.row? = some (z, 170) ∧ z.size = 20 := by
    have e1 : (match ((begin Tryz.prog (fun _ _ => 0) default).world.heap[4]?).bind Obj.row? with | some (z, t) => Nat.beq z.size 20 && Nat.beq t 170 | none => false) = true := by kernel_rfl
    cases h0 : ((begin Tryz.prog (fun _ _ => 0) default).world.heap[4]?).bind Obj.row? with
    | none => rw [h0] at e1; cases e1
    | some p =>
      rw [h0] at e1
      obtain ⟨z, t⟩ := p
      have e1 : (Nat.beq z.size 20 && Nat.beq t 170) = true := e1
      rw [Bool.and_eq_true] at e1
      exact ⟨z, by rw [Nat.eq_of_beq_eq_true e1.2], Nat.eq_of_beq_eq_true e1.1⟩
  obtain ⟨z, e, hz⟩ := e
  obtain ⟨cs, hh, hs, hr⟩ := h.1 4 z 170 (of_decide_eq_true (by kernel_rfl)) e
  obtain ⟨ts, hts, _, hall⟩ := hr (by kernel_rfl)
  have ec : Tryz.prog.cellTypes Tryz.prog.depth 170 = some (List.replicate 20 82) := by kernel_rfl
  rw [ec] at hts
  cases hts
  have hsz : cs.size = 20 := by rw [hs, hz]
  have hc : ∀ i (hi : i < cs.size), ∃ n : Int, cs[i] = .int .u64 n ∧ 0 ≤ n ∧ n ≤ 18446744073709551615 := fun i hi => by
    obtain ⟨u, hu, hok⟩ := hall i cs[i] (by simp [hi])
    have : u = 82 := by
      have h1 := List.mem_of_getElem? hu
      exact (List.mem_replicate.1 h1).2
    subst this
    unfold Cell.ok at hok
    rw [Tryz.underlying82] at hok
    cases hv : cs[i] <;> rw [hv] at hok <;> simp at hok
    case int k' n =>
      obtain ⟨rfl, hn⟩ := hok
      exact ⟨n, rfl, hn⟩
  have hl : ∀ (l : List Value), (∀ v ∈ l, ∃ n : Int, v = .int .u64 n ∧ 0 ≤ n ∧ n ≤ 18446744073709551615) → ∃ zs : List Int, l = zs.map (Value.int .u64) ∧ ∀ z ∈ zs, 0 ≤ z ∧ z ≤ 18446744073709551615 := by
    intro l
    induction l with
    | nil => exact fun _ => ⟨[], rfl, fun z hz => by cases hz⟩
    | cons v l ih =>
      intro hv
      obtain ⟨n, rfl, hn⟩ := hv v (by simp)
      obtain ⟨zs, rfl, hzs⟩ := ih fun v hv' => hv v (by simp [hv'])
      refine ⟨n :: zs, rfl, fun z hz => ?_⟩
      rcases List.mem_cons.1 hz with rfl | hz
      · exact hn
      · exact hzs z hz
  obtain ⟨zs, hzs, hb⟩ := hl cs.toList fun v hv => by
    obtain ⟨i, hi, rfl⟩ := List.getElem_of_mem hv
    exact hc i (by simpa using hi)
  refine ⟨cs, _, _, zs, hh, ?_, ?_, hb⟩
  · rw [← hzs, List.take_of_length_le (by simp; omega)]
  · have := congrArg List.length hzs
    simp at this; omega
theorem val_cells {cs : List Value} (h : Vx.All2 Vx.leafOk kindsV cs) : ∃ (c : Int) (x : Nat) (s : ByteArray) (r : Int), cs = [.int .u8 c, .float .f64 x, .string s, .int .i64 r] ∧ (0 ≤ c ∧ c ≤ 255) ∧ x < 18446744073709551616 ∧ (s.size : Int) ≤ 9223372036854775807 ∧ (-9223372036854775808 ≤ r ∧ r ≤ 9223372036854775807) := by
  obtain ⟨v0, cs1, e0, h0, k1⟩ := Vx.all2_cons h
  obtain ⟨v1, cs2, e1, h1, k2⟩ := Vx.all2_cons k1
  obtain ⟨v2, cs3, e2, h2, k3⟩ := Vx.all2_cons k2
  obtain ⟨v3, cs4, e3, h3, k4⟩ := Vx.all2_cons k3
  have e4 : cs4 = [] := by cases cs4 with | nil => rfl | cons => exact k4.elim
  obtain ⟨c, rfl, w0⟩ := h0
  obtain ⟨x, rfl, w1⟩ := h1
  obtain ⟨s, rfl, w2⟩ := h2
  obtain ⟨r, rfl, w3⟩ := h3
  exact ⟨c, x, s, r, by rw [e0, e1, e2, e3, e4], Vx.wf_int w0, Vx.wf_f64 w1, by have : s.size ≤ 9223372036854775807 := w2; omega, Vx.wf_int w3⟩
theorem sym_ok {i : Nat} {S V : Value} (h : Vx.formOK i S V) : Vx.symOK S := by
  unfold Vx.formOK at h
  split at h
  · rw [h.1]; exact Vx.sok_i _ _
  · rw [h.1]; exact Vx.sok_i _ _
  · rw [h.1]; exact Vx.sok_i _ _
  · rw [h.1]; exact Vx.sok_i _ _
  · obtain ⟨x, rfl, _⟩ := h; exact Vx.sok_f _
  · obtain ⟨s, rfl, _⟩ := h; exact Vx.sok_s _
  · obtain ⟨r, _, rfl, _⟩ := h; exact Vx.sok_i _ _
theorem walk (v w1 : List Value) (hv : Vx.All2 Vx.leafOk kindsV v) (hw : Vx.All2 Vx.leafOk kindsV w1) (w : World) (hsh : w.ShapedOpen Tryz.prog) :
    Calls Tryz.prog 3 #[.agg v.toArray, .agg w1.toArray] w fun e w' => e = .returned (.bool true) ∧ Below w.heap.size w w' := by
  have hs := world_pos hsh
  obtain ⟨c, x, s, r, hvc, n1, x1, s1, r1⟩ := val_cells hv
  obtain ⟨c', x', s', r', hwc, n2, x2, s2, r2⟩ := val_cells hw
  have lv : Vx.RvL (Vx.symEV [] 1 [.int .u8 c, .float .f64 x, .string s, .int .i64 r, .int .u8 c', .float .f64 x', .string s', .int .i64 r']) [.ag (Vx.leafAVs kindsV 1), .ag (Vx.leafAVs kindsV 5)] [.agg v.toArray, .agg w1.toArray] := by
    rw [hvc] at hv ⊢
    rw [hwc] at hw ⊢
    refine Vx.rvl_cons (Vx.rv_ag (Vx.leaves_rv 0 ?_ hv)) (Vx.rvl_cons (Vx.rv_ag (Vx.leaves_rv 4 ?_ hw)) Vx.rvl_nil)
    · intro i z hi
      match i, hi with
      | 0, hi => cases hi; rfl
      | 1, hi => cases hi; rfl
      | 2, hi => cases hi; rfl
      | 3, hi => cases hi; rfl
    · intro i z hi
      match i, hi with
      | 0, hi => cases hi; rfl
      | 1, hi => cases hi; rfl
      | 2, hi => cases hi; rfl
      | 3, hi => cases hi; rfl
  have d1 : Vx.den (Vx.symEV [] 1 [.int .u8 c, .float .f64 x, .string s, .int .i64 r, .int .u8 c', .float .f64 x', .string s', .int .i64 r']) m1 = some (.bool (Vx.mayV c x s r)) :=
    Vx.den_may (Vx.den_sym 0 rfl (Vx.sok_i _ _)) (Vx.den_sym 1 rfl (Vx.sok_f _)) (Vx.den_sym 2 rfl (Vx.sok_s _)) (Vx.den_sym 3 rfl (Vx.sok_i _ _))
  have d2 : Vx.den (Vx.symEV [] 1 [.int .u8 c, .float .f64 x, .string s, .int .i64 r, .int .u8 c', .float .f64 x', .string s', .int .i64 r']) m2 = some (.bool (Vx.mayV c' x' s' r')) :=
    Vx.den_may (Vx.den_sym 4 rfl (Vx.sok_i _ _)) (Vx.den_sym 5 rfl (Vx.sok_f _)) (Vx.den_sym 6 rfl (Vx.sok_s _)) (Vx.den_sym 7 rfl (Vx.sok_i _ _))
  cases h1 : Vx.mayV c x s r
  · exact Vx.closedVal (Vx.run_ok SL_ok 40) rfl (Vx.holds_cons (d1.trans (by rw [h1])) Vx.holds_nil) lv b1 w hs
  cases h2 : Vx.mayV c' x' s' r'
  · exact Vx.closedVal (Vx.run_ok SL_ok 40) rfl (Vx.holds_cons (d1.trans (by rw [h1])) (Vx.holds_cons (d2.trans (by rw [h2])) Vx.holds_nil)) lv b2 w hs
  obtain ⟨i, S, hi, fi⟩ := Vx.forms n1.1 x1 r1.2 h1
  obtain ⟨j, S', hj, fj⟩ := Vx.forms n2.1 x2 r2.2 h2
  obtain ⟨arr, el, fr, zs, hb, htake, hlen, hz⟩ := table hsh
  rw [hvc, hwc]
  obtain ⟨a1, a2⟩ := Vx.form_ok' (gl := GL) (n0 := 6) (Vs := S :: S' :: zs.map (Value.int .u64)) 0 hi fi rfl
  obtain ⟨b1, b2⟩ := Vx.form_ok' (gl := GL) (n0 := 6) (Vs := S :: S' :: zs.map (Value.int .u64)) 1 hj fj rfl
  have a3 := fs_ok (E := Vx.symEV GL 6 (S :: S' :: zs.map (Value.int .u64))) (n := 6) fi (Vx.den_sym (n0 := 6) 0 rfl (sym_ok fi)) a2
  have b3 := fs_ok (E := Vx.symEV GL 6 (S :: S' :: zs.map (Value.int .u64))) (n := 7) fj (Vx.den_sym (n0 := 6) 1 rfl (sym_ok fj)) b2
  have a4 : Vx.Rv (Vx.symEV GL 6 (S :: S' :: zs.map (Value.int .u64))) (Vx.formAV i 6) (.agg #[.int .u8 c, .float .f64 x, .string s, .int .i64 r]) := a1
  have b4 : Vx.Rv (Vx.symEV GL 6 (S :: S' :: zs.map (Value.int .u64))) (Vx.formAV j 7) (.agg #[.int .u8 c', .float .f64 x', .string s', .int .i64 r']) := b1
  have hG : Vx.setF (fs i 6 ++ fs j 7) (Vx.startH GL 6) (fun h => Vx.run SL 40 3 [Vx.formAV i 6, Vx.formAV j 7] h 28 (fun v h _ => Vx.finT v h)) = true := all.get i (Nat.zero_le _) (by omega) j hj
  refine Vx.closedValG (Vx.run_ok SL_ok 40) (gl := GL) (n0 := 6) (nn := 28) (by kernel_rfl) (by kernel_rfl) (by kernel_rfl) (by simp [hlen]) (Vx.holds_append a3 b3) (Vx.rvl_cons a4 (Vx.rvl_cons b4 Vx.rvl_nil)) hG w hs ?_
  intro p hp
  obtain rfl : p = (4, Vx.tabAVs 20 8) := by simpa [GL] using hp
  refine ⟨arr, el, fr, hb, ?_⟩
  have ht := Vx.tab_rv (gl := GL) (n0 := 6) (Vs := S :: S' :: zs.map (Value.int .u64)) 20 2 zs hlen (fun i z hi => by
    rw [show 2 + i = i + 1 + 1 by omega, List.getElem?_cons_succ, List.getElem?_cons_succ, List.getElem?_map, hi]; rfl) hz
  show Vx.RvL _ (Vx.tabAVs 20 8) (arr.toList.take 20)
  rw [htake]
  exact ht

set_option maxRecDepth 100000 in
theorem contract (H : Type) (enc : TypeId × Value → H) (W : World) (base : Nat) (args : Array Value) (ds gs : List (DataW H)) (before : List MemPlace)
    (hval0 : ∀ (j : Nat) t v, Tryz.f3.params[j]? = some t → args[j]? = some v → Value.okWide Tryz.prog W .any base t v)
    (hW : DataW.Whole enc Tryz.prog Tryz.f3.params.toList Rows.coercePlainSpec.vars false W args.toList ds gs before) (hsh : W.ShapedOpen Tryz.prog) :
    Calls Tryz.prog 3 args W fun e W' => ∃ v, e = .returned v ∧ Rows.coercePlainSpec.post enc Tryz.prog Tryz.f3 false true false false W args v W' := by
  have hval : ∀ (j : Nat) t v, Tryz.f3.params[j]? = some t → args[j]? = some v → Value.okWide Tryz.prog W .any base t v := hval0
  have hW' := hW
  obtain ⟨p, q, hA0, hV, rfl, hfz, hnd⟩ := hW
  have hA : DataW.TrodAll enc Tryz.prog W 0 (fun _ => true) true Tryz.f3.params.toList args.toList ds p := hA0
  rw [Tryz.params3] at hA hval
  obtain ⟨v0, v1, d0, d1, p0, p1, rfl, rfl, rfl, h0, h1⟩ := trodAll_two hA
  obtain ⟨cs, rfl, hcs, rfl⟩ := Vx.open_flat (d := 4) Tryz.underlying24 (by kernel_rfl) (hval 0 24 _ rfl rfl) h0
  obtain ⟨cs', rfl, hcs', rfl⟩ := Vx.open_flat (d := 4) Tryz.underlying24 (by kernel_rfl) (hval 1 24 _ rfl rfl) h1
  obtain ⟨rfl, rfl⟩ := trodVars_none hV
  simp only [List.append_nil] at hW'
  refine (walk cs cs' hcs hcs' W hsh).mono fun e W' ⟨he, hg⟩ => ?_
  subst he
  have hlaid : laidOutB Tryz.prog = true := by kernel_rfl
  have hr : Tryz.prog.readableRec 24 = true := by kernel_rfl
  have hrow : 24 < Tryz.prog.types.size := of_decide_eq_true (by kernel_rfl)
  exact ⟨_, rfl, Vx.post_below (pa := []) (pv := []) hW' (fun _ _ _ => (trodAll_cons_mk (shut_bool Tryz.underlying4 _) trodAll_mk0))
    (fun sp _ => trodAll_cons_mk (WideElems.Trod_stays hlaid hr hrow h0 (fun _ hx => by cases hx) (fun _ hx => by cases hx)) (trodAll_cons_mk (WideElems.Trod_stays hlaid hr hrow h1 (fun _ hx => by cases hx) (fun _ hx => by cases hx)) trodAll_mk0)) (fun _ _ => rfl) rfl
    hg (ok_one (by kernel_rfl) rfl (okWide_bool_mk Tryz.underlying4 _))⟩

def cells0 : DataW Unit → List Value
  | .lit (.int k n) => [.int k n]
  | _ => []
def cells1 : DataW Unit → List Value
  | .agg ps => ps.flatMap cells0
  | d => cells0 d
def cells2 : DataW Unit → List Value
  | .agg ps => ps.flatMap cells1
  | d => cells0 d
def zeroV : Value := .agg #[.int .u8 0, .float .f64 0, .string ByteArray.empty, .int .i64 0]
noncomputable def laidWorld (os : Os) : World :=
  { World.holding Tryz.prog os ⟨#[], #[zeroV, zeroV], []⟩ with heap := (((World.holding Tryz.prog os ⟨#[], #[zeroV, zeroV], []⟩).heap.modify 2 fun | .cells _ t fr => .cells (cells2 (Rows.laid_unicode_utf8_acceptRanges (H := Unit))).toArray t fr | o => o).modify 1 fun | .cells _ t fr => .cells (cells2 Rows.laid_unicode_utf8_first).toArray t fr | o => o) }
theorem laid_met (os : Os) : laidMet Tryz.prog Rows.coercePlainRow.laid ((laidWorld os).forCall (fun _ _ => 0) ⟨#[], #[zeroV, zeroV], []⟩).memory :=
  laidMet_of_run' 8 (by kernel_rfl) (by kernel_rfl)
theorem reads (os : Os) {H : Type} (enc : TypeId × Value → H) : ∃ ds places, DataW.whole enc Tryz.prog ((laidWorld os).forCall (fun _ _ => 0) ⟨#[], #[zeroV, zeroV], []⟩).memory Tryz.f3.params.toList Rows.coercePlainSpec.vars false (#[zeroV, zeroV] : Array Value).toList 8 = some (ds, [], places) :=
  ⟨[.agg [.lit (.int .u8 0), .lit (.float .f64 0), .lit (.string []), .lit (.int .i64 0)], .agg [.lit (.int .u8 0), .lit (.float .f64 0), .lit (.string []), .lit (.int .i64 0)]], [], by kernel_rfl⟩

set_option maxRecDepth 100000 in
theorem lifted (os : Os) (started : os.Started) (H : Type) (enc : TypeId × Value → H) (F : Stop.Interp) :
    ReturnsInHanded {} Tryz.checked os 3 .any ((OpenSpec.ofChange Rows.coercePlainSpec).preRow enc Tryz.prog Tryz.f3 Rows.coercePlainRow.domain false Rows.coercePlainRow.laid) (((OpenSpec.ofChange Rows.coercePlainSpec).at F).post enc Tryz.prog Tryz.f3 false true false false) := by
  obtain ⟨ds, places, hx⟩ := reads os enc
  refine returnsInHanded_of_row (C := Tryz.checked) (s := OpenSpec.ofChange Rows.coercePlainSpec) own started (by kernel_rfl) Tryz.func3
    (witness_row_at (enc := enc) (C := Tryz.checked) false (laidWorld os) #[zeroV, zeroV] rfl (by kernel_rfl) (by kernel_rfl) (by kernel_rfl)
      (OpenSpec.preRow_of_cond 8 hx (by kernel_rfl) (fun k hk => by cases hk) (by kernel_rfl) (laid_met os))) ?_
  intro W base args ds gs before hval hW _ _ _ hL hsh _
  exact contract H enc W base args ds gs before hval hW hsh

theorem said : Rows.CoercePlainSaid :=
  OpenClaim.holds_of_cond 3 Tryz.f3 rfl rfl rfl rfl rfl rfl rfl ⟨rfl, rfl, rfl, rfl, rfl⟩ rfl rfl rfl rfl rfl (by kernel_rfl) Tryz.func3 (by kernel_rfl)
    (of_decide_eq_true (by kernel_rfl)) (by unfold Func.isWrapper; first | (rw [if_pos (by decide +kernel)]; kernel_rfl) | (rw [if_neg (by decide +kernel)]; exact ⟨rfl, rfl⟩))
    (fun os started H enc _ F => by rw [OpenClaim.pre_eq_preRow]; exact lifted os started H enc F)

theorem plain (f : FuncId) (fn : Func) (hf : Tryz.pinned.checked.prog.funcNamed "bailiff/bailifflaw17.CoercePlain" = some f) (hfn : Tryz.pinned.checked.prog.funcs[f]? = some fn) :
    false = Tryz.pinned.checked.prog.looks [] ∧ ∀ (j : Nat) t, fn.params[j]? = some t → Tryz.pinned.checked.prog.wantsStandIn t = false := by
  obtain rfl : f = 3 := Option.some.inj ((show Tryz.prog.funcNamed "bailiff/bailifflaw17.CoercePlain" = some 3 by kernel_rfl).symm.trans hf) |>.symm
  obtain rfl : fn = Tryz.f3 := (Option.some.inj (Tryz.func3.symm.trans hfn)).symm
  have st : Tryz.prog.wantsStandIn 24 = false := by kernel_rfl
  refine ⟨by kernel_rfl, fun j t ht => ?_⟩
  rw [Tryz.params3] at ht
  match j, ht with
  | 0, ht => cases ht; exact st
  | 1, ht => cases ht; exact st
  | j + 2, ht => simp at ht

end Go.Proofs.YtdplmegbnceijaaGreatDoor.Pl
namespace Go.Proofs.YtdplmegbnceijaaGreatDoor.coercePlain
theorem proved : Rows.CoercePlainCardSaid :=
  Claim7.holds_tied_plain_at .later [] _ _ _ _ Pl.said (fun _ h => by cases h) (by kernel_rfl) (fun _ h => by cases h) coercePlain_row_tie rfl ⟨rfl, rfl⟩ (by kernel_rfl) rfl Pl.plain (by kernel_rfl)
end Go.Proofs.YtdplmegbnceijaaGreatDoor.coercePlain
