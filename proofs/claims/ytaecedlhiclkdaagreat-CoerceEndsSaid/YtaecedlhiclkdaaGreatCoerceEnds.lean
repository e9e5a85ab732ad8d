/- The law CoerceEnds of bailifflaw17 holds: the given function answers true for any five arguments, and turns nothing. No condition. -/
import Derived.Test.YtaecedlhiclkdaaGreatRows
import Derived.Test.YtaecedlhiclkdaaGreatEnL
import Derived.WalkKit
import Derived.Handy
import Derived.HandedShaped
import Derived.Deep.Slices
import Derived.Test.YtaecedlhiclkdaaGreatEnR0
import Derived.Test.YtaecedlhiclkdaaGreatEnR1
import Derived.Test.YtaecedlhiclkdaaGreatEnR2
import Derived.Test.YtaecedlhiclkdaaGreatEnR3
import Derived.Test.YtaecedlhiclkdaaGreatEnR4
import Derived.Test.YtaecedlhiclkdaaGreatEnR5
import Derived.Test.YtaecedlhiclkdaaGreatEnR6
import Derived.Test.YtaecedlhiclkdaaGreatEnR7
import Derived.Test.YtaecedlhiclkdaaGreatEnR8
import Derived.Test.YtaecedlhiclkdaaGreatEnR9
import Derived.Test.YtaecedlhiclkdaaGreatEnR10
import Derived.Test.YtaecedlhiclkdaaGreatEnR11
import Derived.Test.YtaecedlhiclkdaaGreatEnR12
import Derived.Test.YtaecedlhiclkdaaGreatEnR13
import Derived.Test.YtaecedlhiclkdaaGreatEnR14
import Derived.Test.YtaecedlhiclkdaaGreatEnR15
namespace Go.Proofs.YtaecedlhiclkdaaGreat.En
open Go.ChangeShapes Go.WideShapes Go.ChangeAt Go.RowKit
set_option linter.unusedVariables false
set_option linter.constructorNameAsVariable false
set_option maxRecDepth 100000

theorem own : ownKnob Tryz.prog.godebug = none := by kernel_rfl
def kindsV : List TypeDesc := [.int .u8, .float .f64, .string, .int .i64]
theorem world_pos {W : World} (h : W.ShapedOpen Tryz.prog) : 0 < W.heap.size := by
  have e : ∃ z t, ((begin Tryz.prog (fun _ _ => 0) default).world.heap[0]?).bind Obj.row? = some (z, t) := by
    have e1 : (((begin Tryz.prog (fun _ _ => 0) default).world.heap[0]?).bind Obj.row?).isSome = true := by kernel_rfl
    cases h0 : ((begin Tryz.prog (fun _ _ => 0) default).world.heap[0]?).bind Obj.row? with
    | none => rw [h0] at e1; cases e1
    | some p => exact ⟨p.1, p.2, rfl⟩
  obtain ⟨z, t, e⟩ := e
  exact Vx.heap_pos h (of_decide_eq_true (by kernel_rfl)) e
/-- the table's cells, whatever they are -/
theorem table {W : World} (h : W.ShapedOpen Tryz.prog) : ∃ (arr : Array Value) (el : TypeId) (fr : Nat × Nat) (zs : List Int), W.heap[4]? = some (.cells arr el fr) ∧ arr.toList.take 20 = zs.map (Value.int .u64) ∧ zs.length = 20 ∧ (∀ z ∈ zs, 0 ≤ z ∧ z ≤ 18446744073709551615) ∧ arr.size = 20 := by
  have e : ∃ z, ((begin Tryz.prog (fun _ _ => 0) default).world.heap[4]?).bind Obj.row? = some (z, 232) ∧ z.size = 20 := by
    have e1 : (match ((begin Tryz.prog (fun _ _ => 0) default).world.heap[4]?).bind Obj.row? with | some (z, t) => Nat.beq z.size 20 && Nat.beq t 232 | none => false) = true := by kernel_rfl
    cases h0 : ((begin Tryz.prog (fun _ _ => 0) default).world.heap[4]?).bind Obj.row? with
    | none => rw [h0] at e1; cases e1
    | some p =>
      rw [h0] at e1
      obtain ⟨z, t⟩ := p
      have e1 : (Nat.beq z.size 20 && Nat.beq t 232) = true := e1
      rw [Bool.and_eq_true] at e1
      exact ⟨z, by rw [Nat.eq_of_beq_eq_true e1.2], Nat.eq_of_beq_eq_true e1.1⟩
  obtain ⟨z, e, hz⟩ := e
  obtain ⟨cs, hh, hs, hr⟩ := h.1 4 z 232 (of_decide_eq_true (by kernel_rfl)) e
  obtain ⟨ts, hts, _, hall⟩ := hr (by kernel_rfl)
  have ec : Tryz.prog.cellTypes Tryz.prog.depth 232 = some (List.replicate 20 115) := by kernel_rfl
  rw [ec] at hts
  cases hts
  have hsz : cs.size = 20 := by rw [hs, hz]
  have hc : ∀ i (hi : i < cs.size), ∃ n : Int, cs[i] = .int .u64 n ∧ 0 ≤ n ∧ n ≤ 18446744073709551615 := fun i hi => by
    obtain ⟨u, hu, hok⟩ := hall i cs[i] (by simp [hi])
    have : u = 115 := by
      have h1 := List.mem_of_getElem? hu
      exact (List.mem_replicate.1 h1).2
    subst this
    unfold Cell.ok at hok
    rw [Tryz.underlying115] at hok
    cases hv : cs[i] <;> rw [hv] at hok <;> simp at hok
    case int k' n =>
      obtain ⟨rfl, hn⟩ := hok
      exact ⟨n, rfl, hn⟩
  have hl : ∀ (l : List Value), (∀ v ∈ l, ∃ n : Int, v = .int .u64 n ∧ 0 ≤ n ∧ n ≤ 18446744073709551615) → ∃ zs : List Int, l = zs.map (Value.int .u64) ∧ ∀ z ∈ zs, 0 ≤ z ∧ z ≤ 18446744073709551615 := by
    intro l
    induction l with
    | nil => exact fun _ => ⟨[], rfl, fun z hz => by cases hz⟩
    | cons v l ih =>
      intro hv
      obtain ⟨n, rfl, hn⟩ := hv v (by simp)
      obtain ⟨zs, rfl, hzs⟩ := ih fun v hv' => hv v (by simp [hv'])
      refine ⟨n :: zs, rfl, fun z hz => ?_⟩
      rcases List.mem_cons.1 hz with rfl | hz
      · exact hn
      · exact hzs z hz
  obtain ⟨zs, hzs, hb⟩ := hl cs.toList fun v hv => by
    obtain ⟨i, hi, rfl⟩ := List.getElem_of_mem hv
    exact hc i (by simpa using hi)
  refine ⟨cs, _, _, zs, hh, ?_, ?_, hb, hsz⟩
  · rw [← hzs, List.take_of_length_le (by simp; omega)]
  · have := congrArg List.length hzs
    simp at this; omega
theorem val_cells {cs : List Value} (h : Vx.All2 Vx.leafOk kindsV cs) : ∃ (c : Int) (x : Nat) (s : ByteArray) (r : Int), cs = [.int .u8 c, .float .f64 x, .string s, .int .i64 r] ∧ (0 ≤ c ∧ c ≤ 255) ∧ x < 18446744073709551616 ∧ (s.size : Int) ≤ 9223372036854775807 ∧ (-9223372036854775808 ≤ r ∧ r ≤ 9223372036854775807) := by
  obtain ⟨v0, cs1, e0, h0, k1⟩ := Vx.all2_cons h
  obtain ⟨v1, cs2, e1, h1, k2⟩ := Vx.all2_cons k1
  obtain ⟨v2, cs3, e2, h2, k3⟩ := Vx.all2_cons k2
  obtain ⟨v3, cs4, e3, h3, k4⟩ := Vx.all2_cons k3
  have e4 : cs4 = [] := by cases cs4 with | nil => rfl | cons => exact k4.elim
  obtain ⟨c, rfl, w0⟩ := h0
  obtain ⟨x, rfl, w1⟩ := h1
  obtain ⟨s, rfl, w2⟩ := h2
  obtain ⟨r, rfl, w3⟩ := h3
  exact ⟨c, x, s, r, by rw [e0, e1, e2, e3, e4], Vx.wf_int w0, Vx.wf_f64 w1, by have : s.size ≤ 9223372036854775807 := w2; omega, Vx.wf_int w3⟩
theorem okPa0 : CfgOK cPa0 := ⟨fPa0, zPa0, by kernel_rfl, fun i hi => (show Vx.AllFrom (RdOK cPa0) 0 17 from ⟨.inr ⟨rfl, pPa0_0, lPa0_0⟩, .inr ⟨rfl, pPa0_1, lPa0_1⟩, .inl ⟨rfl, tPa0_2⟩, .inr ⟨rfl, pPa0_3, lPa0_3⟩, .inl ⟨rfl, tPa0_4⟩, .inl ⟨rfl, tPa0_5⟩, .inl ⟨rfl, tPa0_6⟩, .inr ⟨rfl, pPa0_7, lPa0_7⟩, .inl ⟨rfl, tPa0_8⟩, .inr ⟨rfl, pPa0_9, lPa0_9⟩, .inl ⟨rfl, tPa0_10⟩, .inr ⟨rfl, pPa0_11, lPa0_11⟩, .inl ⟨rfl, tPa0_12⟩, .inl ⟨rfl, tPa0_13⟩, .inl ⟨rfl, tPa0_14⟩, .inl ⟨rfl, tPa0_15⟩, .inl ⟨rfl, tPa0_16⟩, trivial⟩).get i (Nat.zero_le _) (by have e : cPa0.sts.length = 17 := rfl; omega)⟩
theorem okPa1 : CfgOK cPa1 := ⟨fPa1, zPa1, by kernel_rfl, fun i hi => (show Vx.AllFrom (RdOK cPa1) 0 17 from ⟨.inr ⟨rfl, pPa1_0, lPa1_0⟩, .inr ⟨rfl, pPa1_1, lPa1_1⟩, .inl ⟨rfl, tPa1_2⟩, .inr ⟨rfl, pPa1_3, lPa1_3⟩, .inl ⟨rfl, tPa1_4⟩, .inl ⟨rfl, tPa1_5⟩, .inl ⟨rfl, tPa1_6⟩, .inr ⟨rfl, pPa1_7, lPa1_7⟩, .inl ⟨rfl, tPa1_8⟩, .inr ⟨rfl, pPa1_9, lPa1_9⟩, .inl ⟨rfl, tPa1_10⟩, .inr ⟨rfl, pPa1_11, lPa1_11⟩, .inl ⟨rfl, tPa1_12⟩, .inl ⟨rfl, tPa1_13⟩, .inl ⟨rfl, tPa1_14⟩, .inl ⟨rfl, tPa1_15⟩, .inl ⟨rfl, tPa1_16⟩, trivial⟩).get i (Nat.zero_le _) (by have e : cPa1.sts.length = 17 := rfl; omega)⟩
theorem okPa2 : CfgOK cPa2 := ⟨fPa2, zPa2, by kernel_rfl, fun i hi => (show Vx.AllFrom (RdOK cPa2) 0 17 from ⟨.inr ⟨rfl, pPa2_0, lPa2_0⟩, .inr ⟨rfl, pPa2_1, lPa2_1⟩, .inl ⟨rfl, tPa2_2⟩, .inr ⟨rfl, pPa2_3, lPa2_3⟩, .inl ⟨rfl, tPa2_4⟩, .inl ⟨rfl, tPa2_5⟩, .inl ⟨rfl, tPa2_6⟩, .inr ⟨rfl, pPa2_7, lPa2_7⟩, .inl ⟨rfl, tPa2_8⟩, .inr ⟨rfl, pPa2_9, lPa2_9⟩, .inl ⟨rfl, tPa2_10⟩, .inr ⟨rfl, pPa2_11, lPa2_11⟩, .inl ⟨rfl, tPa2_12⟩, .inl ⟨rfl, tPa2_13⟩, .inl ⟨rfl, tPa2_14⟩, .inl ⟨rfl, tPa2_15⟩, .inl ⟨rfl, tPa2_16⟩, trivial⟩).get i (Nat.zero_le _) (by have e : cPa2.sts.length = 17 := rfl; omega)⟩
theorem okNa : CfgOK cNa := ⟨fNa, zNa, by kernel_rfl, fun i hi => (show Vx.AllFrom (RdOK cNa) 0 17 from ⟨.inr ⟨rfl, pNa_0, lNa_0⟩, .inr ⟨rfl, pNa_1, lNa_1⟩, .inl ⟨rfl, tNa_2⟩, .inr ⟨rfl, pNa_3, lNa_3⟩, .inl ⟨rfl, tNa_4⟩, .inl ⟨rfl, tNa_5⟩, .inl ⟨rfl, tNa_6⟩, .inr ⟨rfl, pNa_7, lNa_7⟩, .inl ⟨rfl, tNa_8⟩, .inr ⟨rfl, pNa_9, lNa_9⟩, .inl ⟨rfl, tNa_10⟩, .inr ⟨rfl, pNa_11, lNa_11⟩, .inl ⟨rfl, tNa_12⟩, .inl ⟨rfl, tNa_13⟩, .inl ⟨rfl, tNa_14⟩, .inl ⟨rfl, tNa_15⟩, .inl ⟨rfl, tNa_16⟩, trivial⟩).get i (Nat.zero_le _) (by have e : cNa.sts.length = 17 := rfl; omega)⟩
theorem okTa : CfgOK cTa := ⟨fTa, zTa, by kernel_rfl, fun i hi => (show Vx.AllFrom (RdOK cTa) 0 17 from ⟨.inr ⟨rfl, pTa_0, lTa_0⟩, .inr ⟨rfl, pTa_1, lTa_1⟩, .inl ⟨rfl, tTa_2⟩, .inr ⟨rfl, pTa_3, lTa_3⟩, .inl ⟨rfl, tTa_4⟩, .inl ⟨rfl, tTa_5⟩, .inl ⟨rfl, tTa_6⟩, .inr ⟨rfl, pTa_7, lTa_7⟩, .inl ⟨rfl, tTa_8⟩, .inr ⟨rfl, pTa_9, lTa_9⟩, .inl ⟨rfl, tTa_10⟩, .inr ⟨rfl, pTa_11, lTa_11⟩, .inl ⟨rfl, tTa_12⟩, .inl ⟨rfl, tTa_13⟩, .inl ⟨rfl, tTa_14⟩, .inl ⟨rfl, tTa_15⟩, .inl ⟨rfl, tTa_16⟩, trivial⟩).get i (Nat.zero_le _) (by have e : cTa.sts.length = 17 := rfl; omega)⟩
theorem okKa : CfgOK cKa := ⟨fKa, zKa, by kernel_rfl, fun i hi => (show Vx.AllFrom (RdOK cKa) 0 17 from ⟨.inr ⟨rfl, pKa_0, lKa_0⟩, .inr ⟨rfl, pKa_1, lKa_1⟩, .inl ⟨rfl, tKa_2⟩, .inr ⟨rfl, pKa_3, lKa_3⟩, .inl ⟨rfl, tKa_4⟩, .inl ⟨rfl, tKa_5⟩, .inl ⟨rfl, tKa_6⟩, .inr ⟨rfl, pKa_7, lKa_7⟩, .inl ⟨rfl, tKa_8⟩, .inr ⟨rfl, pKa_9, lKa_9⟩, .inl ⟨rfl, tKa_10⟩, .inr ⟨rfl, pKa_11, lKa_11⟩, .inl ⟨rfl, tKa_12⟩, .inl ⟨rfl, tKa_13⟩, .inl ⟨rfl, tKa_14⟩, .inl ⟨rfl, tKa_15⟩, .inl ⟨rfl, tKa_16⟩, trivial⟩).get i (Nat.zero_le _) (by have e : cKa.sts.length = 17 := rfl; omega)⟩
theorem okLab : CfgOK cLab := ⟨fLab, zLab, by kernel_rfl, fun i hi => (show Vx.AllFrom (RdOK cLab) 0 17 from ⟨.inr ⟨rfl, pLab_0, lLab_0⟩, .inr ⟨rfl, pLab_1, lLab_1⟩, .inl ⟨rfl, tLab_2⟩, .inr ⟨rfl, pLab_3, lLab_3⟩, .inl ⟨rfl, tLab_4⟩, .inl ⟨rfl, tLab_5⟩, .inl ⟨rfl, tLab_6⟩, .inr ⟨rfl, pLab_7, lLab_7⟩, .inl ⟨rfl, tLab_8⟩, .inr ⟨rfl, pLab_9, lLab_9⟩, .inl ⟨rfl, tLab_10⟩, .inr ⟨rfl, pLab_11, lLab_11⟩, .inl ⟨rfl, tLab_12⟩, .inl ⟨rfl, tLab_13⟩, .inl ⟨rfl, tLab_14⟩, .inl ⟨rfl, tLab_15⟩, .inl ⟨rfl, tLab_16⟩, trivial⟩).get i (Nat.zero_le _) (by have e : cLab.sts.length = 17 := rfl; omega)⟩
theorem okLba : CfgOK cLba := ⟨fLba, zLba, by kernel_rfl, fun i hi => (show Vx.AllFrom (RdOK cLba) 0 17 from ⟨.inr ⟨rfl, pLba_0, lLba_0⟩, .inr ⟨rfl, pLba_1, lLba_1⟩, .inl ⟨rfl, tLba_2⟩, .inr ⟨rfl, pLba_3, lLba_3⟩, .inl ⟨rfl, tLba_4⟩, .inl ⟨rfl, tLba_5⟩, .inl ⟨rfl, tLba_6⟩, .inr ⟨rfl, pLba_7, lLba_7⟩, .inl ⟨rfl, tLba_8⟩, .inr ⟨rfl, pLba_9, lLba_9⟩, .inl ⟨rfl, tLba_10⟩, .inr ⟨rfl, pLba_11, lLba_11⟩, .inl ⟨rfl, tLba_12⟩, .inl ⟨rfl, tLba_13⟩, .inl ⟨rfl, tLba_14⟩, .inl ⟨rfl, tLba_15⟩, .inl ⟨rfl, tLba_16⟩, trivial⟩).get i (Nat.zero_le _) (by have e : cLba.sts.length = 17 := rfl; omega)⟩
theorem okSaa : CfgOK cSaa := ⟨fSaa, zSaa, by kernel_rfl, fun i hi => (show Vx.AllFrom (RdOK cSaa) 0 81 from ⟨.inr ⟨rfl, pSaa_0, lSaa_0⟩, .inr ⟨rfl, pSaa_1, lSaa_1⟩, .inl ⟨rfl, tSaa_2⟩, .inr ⟨rfl, pSaa_3, lSaa_3⟩, .inl ⟨rfl, tSaa_4⟩, .inr ⟨rfl, pSaa_5, lSaa_5⟩, .inl ⟨rfl, tSaa_6⟩, .inr ⟨rfl, pSaa_7, lSaa_7⟩, .inl ⟨rfl, tSaa_8⟩, .inr ⟨rfl, pSaa_9, lSaa_9⟩, .inl ⟨rfl, tSaa_10⟩, .inr ⟨rfl, pSaa_11, lSaa_11⟩, .inl ⟨rfl, tSaa_12⟩, .inr ⟨rfl, pSaa_13, lSaa_13⟩, .inl ⟨rfl, tSaa_14⟩, .inr ⟨rfl, pSaa_15, lSaa_15⟩, .inl ⟨rfl, tSaa_16⟩, .inr ⟨rfl, pSaa_17, lSaa_17⟩, .inl ⟨rfl, tSaa_18⟩, .inl ⟨rfl, tSaa_19⟩, .inl ⟨rfl, tSaa_20⟩, .inr ⟨rfl, pSaa_21, lSaa_21⟩, .inl ⟨rfl, tSaa_22⟩, .inr ⟨rfl, pSaa_23, lSaa_23⟩, .inl ⟨rfl, tSaa_24⟩, .inr ⟨rfl, pSaa_25, lSaa_25⟩, .inl ⟨rfl, tSaa_26⟩, .inr ⟨rfl, pSaa_27, lSaa_27⟩, .inl ⟨rfl, tSaa_28⟩, .inr ⟨rfl, pSaa_29, lSaa_29⟩, .inl ⟨rfl, tSaa_30⟩, .inl ⟨rfl, tSaa_31⟩, .inl ⟨rfl, tSaa_32⟩, .inr ⟨rfl, pSaa_33, lSaa_33⟩, .inl ⟨rfl, tSaa_34⟩, .inr ⟨rfl, pSaa_35, lSaa_35⟩, .inl ⟨rfl, tSaa_36⟩, .inl ⟨rfl, tSaa_37⟩, .inl ⟨rfl, tSaa_38⟩, .inr ⟨rfl, pSaa_39, lSaa_39⟩, .inl ⟨rfl, tSaa_40⟩, .inr ⟨rfl, pSaa_41, lSaa_41⟩, .inl ⟨rfl, tSaa_42⟩, .inr ⟨rfl, pSaa_43, lSaa_43⟩, .inl ⟨rfl, tSaa_44⟩, .inl ⟨rfl, tSaa_45⟩, .inl ⟨rfl, tSaa_46⟩, .inr ⟨rfl, pSaa_47, lSaa_47⟩, .inl ⟨rfl, tSaa_48⟩, .inl ⟨rfl, tSaa_49⟩, .inl ⟨rfl, tSaa_50⟩, .inr ⟨rfl, pSaa_51, lSaa_51⟩, .inl ⟨rfl, tSaa_52⟩, .inl ⟨rfl, tSaa_53⟩, .inl ⟨rfl, tSaa_54⟩, .inr ⟨rfl, pSaa_55, lSaa_55⟩, .inl ⟨rfl, tSaa_56⟩, .inr ⟨rfl, pSaa_57, lSaa_57⟩, .inl ⟨rfl, tSaa_58⟩, .inr ⟨rfl, pSaa_59, lSaa_59⟩, .inl ⟨rfl, tSaa_60⟩, .inl ⟨rfl, tSaa_61⟩, .inl ⟨rfl, tSaa_62⟩, .inl ⟨rfl, tSaa_63⟩, .inl ⟨rfl, tSaa_64⟩, .inr ⟨rfl, pSaa_65, lSaa_65⟩, .inl ⟨rfl, tSaa_66⟩, .inl ⟨rfl, tSaa_67⟩, .inl ⟨rfl, tSaa_68⟩, .inr ⟨rfl, pSaa_69, lSaa_69⟩, .inl ⟨rfl, tSaa_70⟩, .inr ⟨rfl, pSaa_71, lSaa_71⟩, .inl ⟨rfl, tSaa_72⟩, .inl ⟨rfl, tSaa_73⟩, .inl ⟨rfl, tSaa_74⟩, .inr ⟨rfl, pSaa_75, lSaa_75⟩, .inl ⟨rfl, tSaa_76⟩, .inl ⟨rfl, tSaa_77⟩, .inl ⟨rfl, tSaa_78⟩, .inl ⟨rfl, tSaa_79⟩, .inl ⟨rfl, tSaa_80⟩, trivial⟩).get i (Nat.zero_le _) (by have e : cSaa.sts.length = 81 := rfl; omega)⟩
theorem okSab : CfgOK cSab := ⟨fSab, zSab, by kernel_rfl, fun i hi => (show Vx.AllFrom (RdOK cSab) 0 17 from ⟨.inr ⟨rfl, pSab_0, lSab_0⟩, .inr ⟨rfl, pSab_1, lSab_1⟩, .inl ⟨rfl, tSab_2⟩, .inr ⟨rfl, pSab_3, lSab_3⟩, .inl ⟨rfl, tSab_4⟩, .inl ⟨rfl, tSab_5⟩, .inl ⟨rfl, tSab_6⟩, .inr ⟨rfl, pSab_7, lSab_7⟩, .inl ⟨rfl, tSab_8⟩, .inr ⟨rfl, pSab_9, lSab_9⟩, .inl ⟨rfl, tSab_10⟩, .inr ⟨rfl, pSab_11, lSab_11⟩, .inl ⟨rfl, tSab_12⟩, .inl ⟨rfl, tSab_13⟩, .inl ⟨rfl, tSab_14⟩, .inl ⟨rfl, tSab_15⟩, .inl ⟨rfl, tSab_16⟩, trivial⟩).get i (Nat.zero_le _) (by have e : cSab.sts.length = 17 := rfl; omega)⟩
theorem okSba : CfgOK cSba := ⟨fSba, zSba, by kernel_rfl, fun i hi => (show Vx.AllFrom (RdOK cSba) 0 17 from ⟨.inr ⟨rfl, pSba_0, lSba_0⟩, .inr ⟨rfl, pSba_1, lSba_1⟩, .inl ⟨rfl, tSba_2⟩, .inr ⟨rfl, pSba_3, lSba_3⟩, .inl ⟨rfl, tSba_4⟩, .inl ⟨rfl, tSba_5⟩, .inl ⟨rfl, tSba_6⟩, .inr ⟨rfl, pSba_7, lSba_7⟩, .inl ⟨rfl, tSba_8⟩, .inr ⟨rfl, pSba_9, lSba_9⟩, .inl ⟨rfl, tSba_10⟩, .inr ⟨rfl, pSba_11, lSba_11⟩, .inl ⟨rfl, tSba_12⟩, .inl ⟨rfl, tSba_13⟩, .inl ⟨rfl, tSba_14⟩, .inl ⟨rfl, tSba_15⟩, .inl ⟨rfl, tSba_16⟩, trivial⟩).get i (Nat.zero_le _) (by have e : cSba.sts.length = 17 := rfl; omega)⟩
theorem okAaa : CfgOK cAaa := ⟨fAaa, zAaa, by kernel_rfl, fun i hi => (show Vx.AllFrom (RdOK cAaa) 0 81 from ⟨.inr ⟨rfl, pAaa_0, lAaa_0⟩, .inr ⟨rfl, pAaa_1, lAaa_1⟩, .inl ⟨rfl, tAaa_2⟩, .inr ⟨rfl, pAaa_3, lAaa_3⟩, .inl ⟨rfl, tAaa_4⟩, .inr ⟨rfl, pAaa_5, lAaa_5⟩, .inl ⟨rfl, tAaa_6⟩, .inr ⟨rfl, pAaa_7, lAaa_7⟩, .inl ⟨rfl, tAaa_8⟩, .inr ⟨rfl, pAaa_9, lAaa_9⟩, .inl ⟨rfl, tAaa_10⟩, .inr ⟨rfl, pAaa_11, lAaa_11⟩, .inl ⟨rfl, tAaa_12⟩, .inr ⟨rfl, pAaa_13, lAaa_13⟩, .inl ⟨rfl, tAaa_14⟩, .inr ⟨rfl, pAaa_15, lAaa_15⟩, .inl ⟨rfl, tAaa_16⟩, .inr ⟨rfl, pAaa_17, lAaa_17⟩, .inl ⟨rfl, tAaa_18⟩, .inl ⟨rfl, tAaa_19⟩, .inl ⟨rfl, tAaa_20⟩, .inr ⟨rfl, pAaa_21, lAaa_21⟩, .inl ⟨rfl, tAaa_22⟩, .inr ⟨rfl, pAaa_23, lAaa_23⟩, .inl ⟨rfl, tAaa_24⟩, .inr ⟨rfl, pAaa_25, lAaa_25⟩, .inl ⟨rfl, tAaa_26⟩, .inr ⟨rfl, pAaa_27, lAaa_27⟩, .inl ⟨rfl, tAaa_28⟩, .inr ⟨rfl, pAaa_29, lAaa_29⟩, .inl ⟨rfl, tAaa_30⟩, .inl ⟨rfl, tAaa_31⟩, .inl ⟨rfl, tAaa_32⟩, .inr ⟨rfl, pAaa_33, lAaa_33⟩, .inl ⟨rfl, tAaa_34⟩, .inr ⟨rfl, pAaa_35, lAaa_35⟩, .inl ⟨rfl, tAaa_36⟩, .inl ⟨rfl, tAaa_37⟩, .inl ⟨rfl, tAaa_38⟩, .inr ⟨rfl, pAaa_39, lAaa_39⟩, .inl ⟨rfl, tAaa_40⟩, .inr ⟨rfl, pAaa_41, lAaa_41⟩, .inl ⟨rfl, tAaa_42⟩, .inr ⟨rfl, pAaa_43, lAaa_43⟩, .inl ⟨rfl, tAaa_44⟩, .inl ⟨rfl, tAaa_45⟩, .inl ⟨rfl, tAaa_46⟩, .inr ⟨rfl, pAaa_47, lAaa_47⟩, .inl ⟨rfl, tAaa_48⟩, .inl ⟨rfl, tAaa_49⟩, .inl ⟨rfl, tAaa_50⟩, .inr ⟨rfl, pAaa_51, lAaa_51⟩, .inl ⟨rfl, tAaa_52⟩, .inl ⟨rfl, tAaa_53⟩, .inl ⟨rfl, tAaa_54⟩, .inr ⟨rfl, pAaa_55, lAaa_55⟩, .inl ⟨rfl, tAaa_56⟩, .inr ⟨rfl, pAaa_57, lAaa_57⟩, .inl ⟨rfl, tAaa_58⟩, .inr ⟨rfl, pAaa_59, lAaa_59⟩, .inl ⟨rfl, tAaa_60⟩, .inl ⟨rfl, tAaa_61⟩, .inl ⟨rfl, tAaa_62⟩, .inl ⟨rfl, tAaa_63⟩, .inl ⟨rfl, tAaa_64⟩, .inr ⟨rfl, pAaa_65, lAaa_65⟩, .inl ⟨rfl, tAaa_66⟩, .inl ⟨rfl, tAaa_67⟩, .inl ⟨rfl, tAaa_68⟩, .inr ⟨rfl, pAaa_69, lAaa_69⟩, .inl ⟨rfl, tAaa_70⟩, .inr ⟨rfl, pAaa_71, lAaa_71⟩, .inl ⟨rfl, tAaa_72⟩, .inl ⟨rfl, tAaa_73⟩, .inl ⟨rfl, tAaa_74⟩, .inr ⟨rfl, pAaa_75, lAaa_75⟩, .inl ⟨rfl, tAaa_76⟩, .inl ⟨rfl, tAaa_77⟩, .inl ⟨rfl, tAaa_78⟩, .inl ⟨rfl, tAaa_79⟩, .inl ⟨rfl, tAaa_80⟩, trivial⟩).get i (Nat.zero_le _) (by have e : cAaa.sts.length = 81 := rfl; omega)⟩
theorem okAab : CfgOK cAab := ⟨fAab, zAab, by kernel_rfl, fun i hi => (show Vx.AllFrom (RdOK cAab) 0 17 from ⟨.inr ⟨rfl, pAab_0, lAab_0⟩, .inr ⟨rfl, pAab_1, lAab_1⟩, .inl ⟨rfl, tAab_2⟩, .inr ⟨rfl, pAab_3, lAab_3⟩, .inl ⟨rfl, tAab_4⟩, .inl ⟨rfl, tAab_5⟩, .inl ⟨rfl, tAab_6⟩, .inr ⟨rfl, pAab_7, lAab_7⟩, .inl ⟨rfl, tAab_8⟩, .inr ⟨rfl, pAab_9, lAab_9⟩, .inl ⟨rfl, tAab_10⟩, .inr ⟨rfl, pAab_11, lAab_11⟩, .inl ⟨rfl, tAab_12⟩, .inl ⟨rfl, tAab_13⟩, .inl ⟨rfl, tAab_14⟩, .inl ⟨rfl, tAab_15⟩, .inl ⟨rfl, tAab_16⟩, trivial⟩).get i (Nat.zero_le _) (by have e : cAab.sts.length = 17 := rfl; omega)⟩
theorem okAba : CfgOK cAba := ⟨fAba, zAba, by kernel_rfl, fun i hi => (show Vx.AllFrom (RdOK cAba) 0 17 from ⟨.inr ⟨rfl, pAba_0, lAba_0⟩, .inr ⟨rfl, pAba_1, lAba_1⟩, .inl ⟨rfl, tAba_2⟩, .inr ⟨rfl, pAba_3, lAba_3⟩, .inl ⟨rfl, tAba_4⟩, .inl ⟨rfl, tAba_5⟩, .inl ⟨rfl, tAba_6⟩, .inr ⟨rfl, pAba_7, lAba_7⟩, .inl ⟨rfl, tAba_8⟩, .inr ⟨rfl, pAba_9, lAba_9⟩, .inl ⟨rfl, tAba_10⟩, .inr ⟨rfl, pAba_11, lAba_11⟩, .inl ⟨rfl, tAba_12⟩, .inl ⟨rfl, tAba_13⟩, .inl ⟨rfl, tAba_14⟩, .inl ⟨rfl, tAba_15⟩, .inl ⟨rfl, tAba_16⟩, trivial⟩).get i (Nat.zero_le _) (by have e : cAba.sts.length = 17 := rfl; omega)⟩
theorem okPb0 : CfgOK cPb0 := ⟨fPb0, zPb0, by kernel_rfl, fun i hi => (show Vx.AllFrom (RdOK cPb0) 0 1 from ⟨.inl ⟨rfl, tPb0_0⟩, trivial⟩).get i (Nat.zero_le _) (by have e : cPb0.sts.length = 1 := rfl; omega)⟩
theorem okPb1 : CfgOK cPb1 := ⟨fPb1, zPb1, by kernel_rfl, fun i hi => (show Vx.AllFrom (RdOK cPb1) 0 1 from ⟨.inl ⟨rfl, tPb1_0⟩, trivial⟩).get i (Nat.zero_le _) (by have e : cPb1.sts.length = 1 := rfl; omega)⟩
theorem okPb2 : CfgOK cPb2 := ⟨fPb2, zPb2, by kernel_rfl, fun i hi => (show Vx.AllFrom (RdOK cPb2) 0 1 from ⟨.inl ⟨rfl, tPb2_0⟩, trivial⟩).get i (Nat.zero_le _) (by have e : cPb2.sts.length = 1 := rfl; omega)⟩
theorem okNb : CfgOK cNb := ⟨fNb, zNb, by kernel_rfl, fun i hi => (show Vx.AllFrom (RdOK cNb) 0 1 from ⟨.inl ⟨rfl, tNb_0⟩, trivial⟩).get i (Nat.zero_le _) (by have e : cNb.sts.length = 1 := rfl; omega)⟩
theorem okTb : CfgOK cTb := ⟨fTb, zTb, by kernel_rfl, fun i hi => (show Vx.AllFrom (RdOK cTb) 0 1 from ⟨.inl ⟨rfl, tTb_0⟩, trivial⟩).get i (Nat.zero_le _) (by have e : cTb.sts.length = 1 := rfl; omega)⟩
theorem okKb : CfgOK cKb := ⟨fKb, zKb, by kernel_rfl, fun i hi => (show Vx.AllFrom (RdOK cKb) 0 1 from ⟨.inl ⟨rfl, tKb_0⟩, trivial⟩).get i (Nat.zero_le _) (by have e : cKb.sts.length = 1 := rfl; omega)⟩
theorem okLbb : CfgOK cLbb := ⟨fLbb, zLbb, by kernel_rfl, fun i hi => (show Vx.AllFrom (RdOK cLbb) 0 1 from ⟨.inl ⟨rfl, tLbb_0⟩, trivial⟩).get i (Nat.zero_le _) (by have e : cLbb.sts.length = 1 := rfl; omega)⟩
theorem okLaa : CfgOK cLaa := ⟨fLaa, zLaa, by kernel_rfl, fun i hi => (show Vx.AllFrom (RdOK cLaa) 0 1 from ⟨.inl ⟨rfl, tLaa_0⟩, trivial⟩).get i (Nat.zero_le _) (by have e : cLaa.sts.length = 1 := rfl; omega)⟩
theorem okSbb : CfgOK cSbb := ⟨fSbb, zSbb, by kernel_rfl, fun i hi => (show Vx.AllFrom (RdOK cSbb) 0 1 from ⟨.inl ⟨rfl, tSbb_0⟩, trivial⟩).get i (Nat.zero_le _) (by have e : cSbb.sts.length = 1 := rfl; omega)⟩
theorem okAbb : CfgOK cAbb := ⟨fAbb, zAbb, by kernel_rfl, fun i hi => (show Vx.AllFrom (RdOK cAbb) 0 1 from ⟨.inl ⟨rfl, tAbb_0⟩, trivial⟩).get i (Nat.zero_le _) (by have e : cAbb.sts.length = 1 := rfl; omega)⟩

/-! ### Which configuration -/
def Fits (c : Cfg) (K H : Int) (v w : V4) : Prop := ∀ E : Vx.Env, Dens E 27 v → Dens E 31 w → Vx.den E (.sy 127) = some (.int .u8 H) → Vx.Holds E c.fs ∧ Vx.Rv E c.kind (.int .u8 K) ∧ Vx.Rv E c.hint (.int .u8 H)
theorem rv_i {E : Vx.Env} (n : Int) : Vx.Rv E (.i .u8 n) (.int .u8 n) := by rw [Vx.Rv]
theorem rv_h {E : Vx.Env} {H : Int} (hH : 0 ≤ H ∧ H ≤ 255) (d : Vx.den E (.sy 127) = some (.int .u8 H)) : Vx.Rv E (.x (.i .u8) (.sy 127)) (.int .u8 H) := by rw [Vx.Rv]; exact ⟨d, H, rfl, hH⟩
/-- what a list holds -/
structure LstD (W : World) where
  o : Nat → Int × V4
  len : Nat
  cap : Nat
  L : Vx.Spot
structure LstDOK (W : World) (D : LstD W) : Prop where
  o : ∀ j, (0 ≤ (D.o j).1 ∧ (D.o j).1 ≤ 255) ∧ (D.o j).2.ok
  none : ∀ j, D.len ≤ j → D.o j = (0, z4)
  len : D.len ≤ 9223372036854775807
  blk : D.L.blk < W.heap.size
  at_ : ∀ k, k < D.len → ∃ arr el fr, W.heap[D.L.blk]? = some (.cells arr el fr) ∧ D.L.base + 26 * (k + 1) ≤ arr.size ∧ ∀ i V, ((.int .u8 (D.o k).1 :: (D.o k).2.cells) : List Value)[i]? = some V → arr.getD (D.L.base + (26 * k + i)) undef = V
def LstV (W : World) (l : Value) : Prop := l = .slice none 0 0 ∨ ∃ D : LstD W, LstDOK W D ∧ l = .slice (some ⟨D.L.blk, D.L.base, none⟩) D.len D.cap
theorem law_any {K H : Int} {v w : V4} {l : Value} {W : World} (hv : v.ok) (hw : w.ok) (hH : 0 ≤ H ∧ H ≤ 255) (hl : LstV W l) (hsh : W.ShapedOpen Tryz.prog) {c : Cfg} (C : CfgOK c) (hf : Fits c K H v w) : Calls Tryz.prog 3 #[.int .u8 K, .int .u8 H, .agg v.cells.toArray, .agg w.cells.toArray, l] W fun e w' => e = .returned (.bool true) ∧ Below W.heap.size W w' := by
  have hs := world_pos hsh
  obtain ⟨arr, el, fr, zs, hb, htake, hlen, hz, hsz⟩ := table hsh
  rcases hl with rfl | ⟨D, hD, rfl⟩
  · have ok : Inp.ok ⟨zs, v, w, fun _ => (0, z4), 0, 0, H⟩ := ⟨hlen, hz, hv, hw, fun _ => ⟨⟨(by decide : (0 : Int) ≤ 0), (by decide : (0 : Int) ≤ 255)⟩, z4_ok⟩, fun _ _ => rfl, Nat.zero_le _, hH⟩
    have dv : Dens (E1 ⟨zs, v, w, fun _ => (0, z4), 0, 0, H⟩) 27 v := ⟨den_us1 ok 0 rfl (Vx.sok_i _ _), den_us1 ok 1 rfl (Vx.sok_f _), den_us1 ok 2 rfl (Vx.sok_s _), den_us1 ok 3 rfl (Vx.sok_i _ _)⟩
    have dw : Dens (E1 ⟨zs, v, w, fun _ => (0, z4), 0, 0, H⟩) 31 w := ⟨den_us1 ok 4 rfl (Vx.sok_i _ _), den_us1 ok 5 rfl (Vx.sok_f _), den_us1 ok 6 rfl (Vx.sok_s _), den_us1 ok 7 rfl (Vx.sok_i _ _)⟩
    have dh : Vx.den (E1 ⟨zs, v, w, fun _ => (0, z4), 0, 0, H⟩) (.sy 127) = some (.int .u8 H) := den_us1 ok 100 rfl (Vx.sok_i _ _)
    obtain ⟨f1, f2, f3⟩ := hf _ dv dw dh
    exact law_n C ok ⟨arr, el, fr, hb, htake, hsz⟩ f1 f2 f3 (rv_vS hv dv) (rv_vS hw dw) hs
  · have ok : Inp.ok ⟨zs, v, w, D.o, D.len, D.cap, H⟩ := ⟨hlen, hz, hv, hw, hD.o, hD.none, hD.len, hH⟩
    have bg : Beg ⟨zs, v, w, D.o, D.len, D.cap, H⟩ D.L W := ⟨ok, ⟨hD.blk, fun k hk _ => hD.at_ k hk⟩, arr, el, fr, hb, htake, hsz⟩
    obtain ⟨f1, f2, f3⟩ := hf _ (dens_v ok D.L) (dens_w ok D.L) (den_hint0 ok D.L)
    exact law_c C bg f1 f2 f3
/-- the beginning does not come to the loop -/
theorem bad_env {K H : Int} {v w : V4} {l : Value} {W : World} (hv : v.ok) (hw : w.ok) (hl : LstV W l) : ∃ E : Vx.Env, E = Vx.symEV [] 1 ([.int .u8 K, .int .u8 H] ++ v.cells ++ w.cells) ∧ Vx.den E (.sy 1) = some (.int .u8 K) ∧ Vx.den E (.sy 2) = some (.int .u8 H) ∧ Dens E 3 v ∧ Dens E 7 w ∧
    Vx.RvL E [.ag (vS 3), .ag (vS 7), .any] [.agg v.cells.toArray, .agg w.cells.toArray, l] := by
  refine ⟨_, rfl, Vx.den_sym 0 rfl (Vx.sok_i _ _), Vx.den_sym 1 rfl (Vx.sok_i _ _), ?_⟩
  have d3 : Dens (Vx.symEV [] 1 ([.int .u8 K, .int .u8 H] ++ v.cells ++ w.cells)) 3 v := ⟨Vx.den_sym 2 rfl (Vx.sok_i _ _), Vx.den_sym 3 rfl (Vx.sok_f _), Vx.den_sym 4 rfl (Vx.sok_s _), Vx.den_sym 5 rfl (Vx.sok_i _ _)⟩
  have d7 : Dens (Vx.symEV [] 1 ([.int .u8 K, .int .u8 H] ++ v.cells ++ w.cells)) 7 w := ⟨Vx.den_sym 6 rfl (Vx.sok_i _ _), Vx.den_sym 7 rfl (Vx.sok_f _), Vx.den_sym 8 rfl (Vx.sok_s _), Vx.den_sym 9 rfl (Vx.sok_i _ _)⟩
  have any : ∀ E : Vx.Env, Vx.Rv E .any l := fun E => by
    rw [Vx.Rv]
    rcases hl with rfl | ⟨D, _, rfl⟩ <;> exact ⟨rfl, rfl⟩
  exact ⟨d3, d7, Vx.rvl_cons (by rw [Vx.Rv]; exact ⟨_, rfl, rv_vS hv d3⟩) (Vx.rvl_cons (by rw [Vx.Rv]; exact ⟨_, rfl, rv_vS hw d7⟩) (Vx.rvl_cons (any _) Vx.rvl_nil))⟩
theorem bad_C {K H : Int} {v w : V4} {l : Value} {W : World} (hv : v.ok) (hw : w.ok) (hH : 0 ≤ H ∧ H ≤ 255) (hK : 0 ≤ K ∧ K ≤ 255) (hl : LstV W l) (hsh : W.ShapedOpen Tryz.prog) {fs : Vx.Facts} (hb : badC fs = true) (hf : ∀ E : Vx.Env, Vx.den E (.sy 1) = some (.int .u8 K) → Vx.den E (.sy 2) = some (.int .u8 H) → Dens E 3 v → Dens E 7 w → Vx.Holds E fs) :
    Calls Tryz.prog 3 #[.int .u8 K, .int .u8 H, .agg v.cells.toArray, .agg w.cells.toArray, l] W fun e w' => e = .returned (.bool true) ∧ Below W.heap.size W w' := by
  obtain ⟨E, rfl, d1, d2, d3, d7, ra⟩ := bad_env (K := K) (H := H) hv hw hl
  exact Vx.closedVal cE_ok rfl (hf _ d1 d2 d3 d7) (Vx.rvl_cons (by rw [Vx.Rv]; exact ⟨d1, K, rfl, hK⟩) (Vx.rvl_cons (by rw [Vx.Rv]; exact ⟨d2, H, rfl, hH⟩) ra)) hb W (world_pos hsh)
theorem bad_K {K H : Int} {v w : V4} {l : Value} {W : World} (hv : v.ok) (hw : w.ok) (hH : 0 ≤ H ∧ H ≤ 255) (hK : 0 ≤ K ∧ K ≤ 255) (hl : LstV W l) (hsh : W.ShapedOpen Tryz.prog) {fs : Vx.Facts} (hb : badK K fs = true) (hf : ∀ E : Vx.Env, Vx.den E (.sy 2) = some (.int .u8 H) → Dens E 3 v → Dens E 7 w → Vx.Holds E fs) :
    Calls Tryz.prog 3 #[.int .u8 K, .int .u8 H, .agg v.cells.toArray, .agg w.cells.toArray, l] W fun e w' => e = .returned (.bool true) ∧ Below W.heap.size W w' := by
  obtain ⟨E, rfl, d1, d2, d3, d7, ra⟩ := bad_env (K := K) (H := H) hv hw hl
  exact Vx.closedVal cE_ok rfl (hf _ d2 d3 d7) (Vx.rvl_cons (rv_i K) (Vx.rvl_cons (by rw [Vx.Rv]; exact ⟨d2, H, rfl, hH⟩) ra)) hb W (world_pos hsh)
theorem bad_W {K H : Int} {v w : V4} {l : Value} {W : World} (hv : v.ok) (hw : w.ok) (hH : 0 ≤ H ∧ H ≤ 255) (hK : 0 ≤ K ∧ K ≤ 255) (hl : LstV W l) (hsh : W.ShapedOpen Tryz.prog) {k : Int} (hk : K = k) (hvm : v.may = true) (hwm : w.may = false) (hb : badK k [(mA 3, true), (mA 7, false)] = true) :
    Calls Tryz.prog 3 #[.int .u8 K, .int .u8 H, .agg v.cells.toArray, .agg w.cells.toArray, l] W fun e w' => e = .returned (.bool true) ∧ Below W.heap.size W w' := by
  subst hk
  exact bad_K hv hw hH hK hl hsh hb fun E _ d3 d7 => Vx.holds_cons ((den_mA d3).trans (by rw [hvm])) (Vx.holds_cons ((den_mA d7).trans (by rw [hwm])) Vx.holds_nil)
theorem walk {K H : Int} {v w : V4} {l : Value} {W : World} (hv : v.ok) (hw : w.ok) (hH : 0 ≤ H ∧ H ≤ 255) (hK : 0 ≤ K ∧ K ≤ 255) (hl : LstV W l) (hsh : W.ShapedOpen Tryz.prog) : Calls Tryz.prog 3 #[.int .u8 K, .int .u8 H, .agg v.cells.toArray, .agg w.cells.toArray, l] W fun e w' => e = .returned (.bool true) ∧ Below W.heap.size W w' := by
  cases hvm : v.may with
  | false => exact bad_C hv hw hH hK hl hsh badV fun E _ _ d3 _ => Vx.holds_cons ((den_mA d3).trans (by rw [hvm])) Vx.holds_nil
  | true =>
  by_cases h7 : 1 ≤ K ∧ K ≤ 7
  case neg =>
    refine bad_C hv hw hH hK hl hsh badA fun E d1 _ _ _ => ?_
    have key : ∀ k : Int, 1 ≤ k ∧ k ≤ 7 → Vx.den E (kF k).1 = some (.bool (kF k).2) := fun k hk => (Vx.fact_eq d1).trans (by rw [decide_eq_false (by rintro rfl; exact h7 hk)]; rfl)
    exact Vx.holds_cons (key 1 (by decide)) (Vx.holds_cons (key 2 (by decide)) (Vx.holds_cons (key 3 (by decide)) (Vx.holds_cons (key 4 (by decide)) (Vx.holds_cons (key 5 (by decide)) (Vx.holds_cons (key 6 (by decide)) (Vx.holds_cons (key 7 (by decide)) (Vx.holds_nil)))))))
  obtain h | h | h | h | h | h | h : K = 1 ∨ K = 2 ∨ K = 3 ∨ K = 4 ∨ K = 5 ∨ K = 6 ∨ K = 7 := by omega
  · subst h
    by_cases h2 : H ≤ 2
    case neg => exact bad_K hv hw hH hK hl hsh badB fun E d2 _ _ => Vx.holds_cons ((Vx.fact_le d2).trans (by rw [decide_eq_false h2])) Vx.holds_nil
    obtain h | h | h : H = 0 ∨ H = 1 ∨ H = 2 := by omega
    · subst h
      cases v5 : decide (v.k ≤ 5) with
      | true => exact law_any hv hw hH hl hsh okPb0 (fun E dv dw dh => ⟨holds_vF dv hvm (by rw [v5]; rfl), rv_i _, rv_i _⟩)
      | false => exact law_any hv hw hH hl hsh okPa0 (fun E dv dw dh => ⟨holds_vF dv hvm (by rw [v5]; rfl), rv_i _, rv_i _⟩)
    · subst h
      cases v5 : decide (v.k ≤ 5) with
      | true => exact law_any hv hw hH hl hsh okPb1 (fun E dv dw dh => ⟨holds_vF dv hvm (by rw [v5]; rfl), rv_i _, rv_i _⟩)
      | false => exact law_any hv hw hH hl hsh okPa1 (fun E dv dw dh => ⟨holds_vF dv hvm (by rw [v5]; rfl), rv_i _, rv_i _⟩)
    · subst h
      cases v5 : decide (v.k ≤ 5) with
      | true => exact law_any hv hw hH hl hsh okPb2 (fun E dv dw dh => ⟨holds_vF dv hvm (by rw [v5]; rfl), rv_i _, rv_i _⟩)
      | false => exact law_any hv hw hH hl hsh okPa2 (fun E dv dw dh => ⟨holds_vF dv hvm (by rw [v5]; rfl), rv_i _, rv_i _⟩)
  · subst h
    cases v5 : decide (v.k ≤ 5) with
    | true => exact law_any hv hw hH hl hsh okNb (fun E dv dw dh => ⟨holds_vF dv hvm (by rw [v5]; rfl), rv_i _, rv_h hH dh⟩)
    | false => exact law_any hv hw hH hl hsh okNa (fun E dv dw dh => ⟨holds_vF dv hvm (by rw [v5]; rfl), rv_i _, rv_h hH dh⟩)
  · subst h
    cases v5 : decide (v.k ≤ 5) with
    | true => exact law_any hv hw hH hl hsh okTb (fun E dv dw dh => ⟨holds_vF dv hvm (by rw [v5]; rfl), rv_i _, rv_h hH dh⟩)
    | false => exact law_any hv hw hH hl hsh okTa (fun E dv dw dh => ⟨holds_vF dv hvm (by rw [v5]; rfl), rv_i _, rv_h hH dh⟩)
  · subst h
    cases v5 : decide (v.k ≤ 5) with
    | true => exact law_any hv hw hH hl hsh okKb (fun E dv dw dh => ⟨holds_vF dv hvm (by rw [v5]; rfl), rv_i _, rv_h hH dh⟩)
    | false => exact law_any hv hw hH hl hsh okKa (fun E dv dw dh => ⟨holds_vF dv hvm (by rw [v5]; rfl), rv_i _, rv_h hH dh⟩)
  · subst h
    cases hwm : w.may with
    | false => exact bad_W hv hw hH hK hl hsh rfl hvm hwm badW5
    | true =>
    cases v5 : decide (v.k ≤ 5) with
    | true =>
      cases w5 : decide (w.k ≤ 5) with
      | true => exact law_any hv hw hH hl hsh okLbb (fun E dv dw dh => ⟨Vx.holds_app (holds_vF dv hvm (by rw [v5]; rfl)) (holds_vF dw hwm (by rw [w5]; rfl)), rv_i _, rv_h hH dh⟩)
      | false => exact law_any hv hw hH hl hsh okLba (fun E dv dw dh => ⟨Vx.holds_app (holds_vF dv hvm (by rw [v5]; rfl)) (holds_vF dw hwm (by rw [w5]; rfl)), rv_i _, rv_h hH dh⟩)
    | false =>
      cases w5 : decide (w.k ≤ 5) with
      | true => exact law_any hv hw hH hl hsh okLab (fun E dv dw dh => ⟨Vx.holds_app (holds_vF dv hvm (by rw [v5]; rfl)) (holds_vF dw hwm (by rw [w5]; rfl)), rv_i _, rv_h hH dh⟩)
      | false => exact law_any hv hw hH hl hsh okLaa (fun E dv dw dh => ⟨Vx.holds_app (holds_vF dv hvm (by rw [v5]; rfl)) (holds_vF dw hwm (by rw [w5]; rfl)), rv_i _, rv_h hH dh⟩)
  · subst h
    cases hwm : w.may with
    | false => exact bad_W hv hw hH hK hl hsh rfl hvm hwm badW6
    | true =>
    cases v5 : decide (v.k ≤ 5) with
    | true =>
      cases w5 : decide (w.k ≤ 5) with
      | true => exact law_any hv hw hH hl hsh okSbb (fun E dv dw dh => ⟨Vx.holds_app (holds_vF dv hvm (by rw [v5]; rfl)) (holds_vF dw hwm (by rw [w5]; rfl)), rv_i _, rv_h hH dh⟩)
      | false => exact law_any hv hw hH hl hsh okSba (fun E dv dw dh => ⟨Vx.holds_app (holds_vF dv hvm (by rw [v5]; rfl)) (holds_vF dw hwm (by rw [w5]; rfl)), rv_i _, rv_h hH dh⟩)
    | false =>
      cases w5 : decide (w.k ≤ 5) with
      | true => exact law_any hv hw hH hl hsh okSab (fun E dv dw dh => ⟨Vx.holds_app (holds_vF dv hvm (by rw [v5]; rfl)) (holds_vF dw hwm (by rw [w5]; rfl)), rv_i _, rv_h hH dh⟩)
      | false => exact law_any hv hw hH hl hsh okSaa (fun E dv dw dh => ⟨Vx.holds_app (holds_vF dv hvm (by rw [v5]; rfl)) (holds_vF dw hwm (by rw [w5]; rfl)), rv_i _, rv_h hH dh⟩)
  · subst h
    cases hwm : w.may with
    | false => exact bad_W hv hw hH hK hl hsh rfl hvm hwm badW7
    | true =>
    cases v5 : decide (v.k ≤ 5) with
    | true =>
      cases w5 : decide (w.k ≤ 5) with
      | true => exact law_any hv hw hH hl hsh okAbb (fun E dv dw dh => ⟨Vx.holds_app (holds_vF dv hvm (by rw [v5]; rfl)) (holds_vF dw hwm (by rw [w5]; rfl)), rv_i _, rv_h hH dh⟩)
      | false => exact law_any hv hw hH hl hsh okAba (fun E dv dw dh => ⟨Vx.holds_app (holds_vF dv hvm (by rw [v5]; rfl)) (holds_vF dw hwm (by rw [w5]; rfl)), rv_i _, rv_h hH dh⟩)
    | false =>
      cases w5 : decide (w.k ≤ 5) with
      | true => exact law_any hv hw hH hl hsh okAab (fun E dv dw dh => ⟨Vx.holds_app (holds_vF dv hvm (by rw [v5]; rfl)) (holds_vF dw hwm (by rw [w5]; rfl)), rv_i _, rv_h hH dh⟩)
      | false => exact law_any hv hw hH hl hsh okAaa (fun E dv dw dh => ⟨Vx.holds_app (holds_vF dv hvm (by rw [v5]; rfl)) (holds_vF dw hwm (by rw [w5]; rfl)), rv_i _, rv_h hH dh⟩)
/-! ### What is given, opened -/
theorem ok_slice {P : Program} {W : World} {b0 : Nat} {t e : TypeId} {a : Addr} {len cap : Nat} (hu : P.underlying t = some (.slice e)) (h : Value.okWide P W .any b0 t (.slice (some a) len cap)) : len ≤ cap ∧ (cap : Int) ≤ IntKind.i64.max ∧ a.spot = none ∧ a.block < W.heap.size := by
  unfold Value.okWide at h
  rw [hu] at h
  dsimp only at h
  unfold Cell.okWide at h
  rw [hu] at h
  dsimp only at h
  unfold Cell.ok at h
  rw [hu] at h
  obtain ⟨h1, h2, _, h3, row, cells, h4, _⟩ := h
  refine ⟨h1, h2, h3, ?_⟩
  unfold World.shape? at h4
  cases hb : W.heap[a.block]? with
  | none => rw [hb] at h4; cases h4
  | some o => exact (Array.getElem?_eq_some_iff.1 hb).1
theorem cell_at {W : World} {a : Addr} {V : Value} (h : W.cell? a = some V) : ∃ arr el fr, W.heap[a.block]? = some (.cells arr el fr) ∧ arr[a.off]? = some V := by
  unfold World.cell? at h
  split at h
  · rename_i c el fr hb
    split at h
    · cases h
    · exact ⟨c, el, fr, hb, h⟩
  · cases h
theorem add_off {a : Addr} (n : Nat) : (a.add n).off = a.off + n ∧ (a.add n).block = a.block := by
  unfold Addr.add
  by_cases e : n = 0
  · rw [if_pos e]; exact ⟨by omega, rfl⟩
  · rw [if_neg e]; exact ⟨rfl, rfl⟩
section
variable {H : Type} {enc : TypeId × Value → H}
theorem open_out {W : World} {b : Nat} {sp : Nat → Bool} {hd : Bool} {fuel : Nat} {cs : List Value} {x : DataW H × List MemPlace} (h : DataW.trod enc Tryz.prog W b sp hd fuel 35 cs = some x) :
    ∃ o : Int × V4, ((0 ≤ o.1 ∧ o.1 ≤ 255) ∧ o.2.ok) ∧ cs.length = 26 ∧ ∀ (i : Nat) (V : Value), ((.int .u8 o.1 :: o.2.cells) : List Value)[i]? = some V → cs[i]? = some V := by
  obtain ⟨xs, n, rfl, rfl, hl, hlen, hf⟩ := DataW.trod_struct Tryz.underlying35 h
  have hl : cs.length = 26 := by rw [hl]; kernel_rfl
  have f0 := hf 0 _ rfl
  have f1 := hf 1 _ rfl
  have hx : ∀ i, i < xs.length → xs[i]? = some (xs[i]!) := fun i hi => by rw [List.getElem!_eq_getElem?_getD, List.getElem?_eq_getElem hi]; rfl
  have hlen' : 2 ≤ xs.length := by rw [hlen]; exact of_decide_eq_true (by kernel_rfl)
  rw [hx 0 (by omega)] at f0
  rw [hx 1 (by omega)] at f1
  obtain ⟨k, e0, _, w0⟩ := DataW.trod_int Tryz.underlying5 f0
  obtain ⟨a1, _⟩ := Vx.flatT_ok 4 24 kindsV _ _ _ (by kernel_rfl) f1
  obtain ⟨c, y, s, r, e1, n1, x1, s1, r1⟩ := val_cells a1
  have c5 : Tryz.prog.cellsOf 5 = 1 := by kernel_rfl
  have c24 : Tryz.prog.cellsOf 24 = 4 := by kernel_rfl
  have e0 : (cs.drop 0).take 1 = [.int .u8 k] := by rw [← c5]; exact e0
  have e1 : (cs.drop 1).take 4 = [.int .u8 c, .float .f64 y, .string s, .int .i64 r] := by rw [← c24]; exact e1
  refine ⟨(k, ⟨c, y, s, r⟩), ⟨Vx.wf_int w0, n1, x1, s1, r1⟩, hl, fun i V hi => ?_⟩
  cases i with
  | zero =>
    have h0 : ((cs.drop 0).take 1)[0]? = some (.int .u8 k) := by rw [e0]; rfl
    rw [List.getElem?_take_of_lt (by decide), List.drop_zero] at h0
    cases hi; exact h0
  | succ i =>
    have hi : ([.int .u8 c, .float .f64 y, .string s, .int .i64 r] : List Value)[i]? = some V := hi
    have hi4 : i < 4 := (List.getElem?_eq_some_iff.1 hi).1
    rw [← e1, List.getElem?_take_of_lt hi4, List.getElem?_drop] at hi
    rw [Nat.add_comm i 1]; exact hi
theorem open_list {W : World} {b0 : Nat} {sp : Nat → Bool} {l : Value} {d : DataW H} {p : List MemPlace} (hval : Value.okWide Tryz.prog W .any b0 25 l) (h : DataW.Trod enc Tryz.prog W 0 sp true 25 l d p) : LstV W l := by
  obtain ⟨a0, len0, cap0, rfl⟩ := okWide_slice Tryz.underlying25 hval
  obtain ⟨fuel, hf⟩ := h
  rcases Deep.open_slice Tryz.underlying25 hf with ⟨h0, _⟩ | ⟨a, len, cap, q, n, D, Pl, h0, _, hlc, _, hq, _, hel⟩
  · have h0 : ([.slice a0 len0 cap0] : List Value) = [.slice none 0 0] := h0
    injection h0 with h0 _
    exact .inl h0
  have h0 : ([.slice a0 len0 cap0] : List Value) = [.slice (some a) len cap] := h0
  injection h0 with h0 _
  rw [h0] at hval ⊢
  obtain ⟨_, hcap, hspot, hblk⟩ := ok_slice Tryz.underlying25 hval
  have hlq : len ≤ q := by rw [hq]; split <;> omega
  have c35 : Tryz.prog.cellsOf 35 = 26 := by kernel_rfl
  have each : ∀ k, ∃ o : Int × V4, ((0 ≤ o.1 ∧ o.1 ≤ 255) ∧ o.2.ok) ∧ (len ≤ k → o = (0, z4)) ∧ (k < len → ∃ arr el fr, W.heap[a.block]? = some (.cells arr el fr) ∧ a.off + 26 * (k + 1) ≤ arr.size ∧ ∀ i V, ((.int .u8 o.1 :: o.2.cells) : List Value)[i]? = some V → arr.getD (a.off + (26 * k + i)) undef = V) := fun k => by
    by_cases hk : k < len
    · obtain ⟨cs, hc, ht⟩ := hel k (by omega)
      obtain ⟨o, ho, hlen, hcs⟩ := open_out ht
      refine ⟨o, ho, fun hh => by omega, fun _ => ?_⟩
      rw [c35] at hc
      unfold World.cells? at hc
      rw [if_pos (Nat.zero_le _)] at hc
      have cell : ∀ i V, cs[i]? = some V → ∃ arr el fr, W.heap[a.block]? = some (.cells arr el fr) ∧ arr[a.off + (26 * k + i)]? = some V := fun i V hi => by
        have h26 : i < 26 := by have := (List.getElem?_eq_some_iff.1 hi).1; omega
        have := mapM_some_get hc i i (by rw [List.getElem?_range h26])
        rw [hi, Deep.add_add] at this
        obtain ⟨arr, el, fr, g1, g2⟩ := cell_at this
        rw [(add_off _).1] at g2
        rw [(add_off _).2] at g1
        rw [show a.off + (k * 26 + i) = a.off + (26 * k + i) from by omega] at g2
        exact ⟨arr, el, fr, g1, g2⟩
      obtain ⟨V, hV⟩ : ∃ V, cs[25]? = some V := ⟨cs[25]'(by omega), List.getElem?_eq_getElem (by omega)⟩
      obtain ⟨arr, el, fr, g1, g2⟩ := cell 25 V hV
      refine ⟨arr, el, fr, g1, ?_, fun i U hi => ?_⟩
      · have := (Array.getElem?_eq_some_iff.1 g2).1
        omega
      · obtain ⟨arr', el', fr', q1, q2⟩ := cell i U (hcs i U hi)
        rw [g1] at q1
        cases q1
        rw [Array.getD_eq_getD_getElem?, q2]; rfl
    · exact ⟨(0, z4), ⟨⟨(by decide : (0 : Int) ≤ 0), (by decide : (0 : Int) ≤ 255)⟩, z4_ok⟩, fun _ => rfl, fun hh => absurd hh hk⟩
  obtain ⟨o, ho⟩ := Classical.axiomOfChoice each
  have hc : cap ≤ 9223372036854775807 := by
    have e : IntKind.i64.max = 9223372036854775807 := rfl
    omega
  refine .inr ⟨⟨o, len, cap, ⟨a.block, a.off, 0⟩⟩, ⟨fun j => (ho j).1, fun j hj => (ho j).2.1 hj, (by show len ≤ _; omega), hblk, fun k hk => (ho k).2.2 hk⟩, ?_⟩
  obtain ⟨ab, ao, asp⟩ := a
  have : asp = none := hspot
  subst this
  rfl
end
theorem lifted (os : Os) (started : os.Started) (H : Type) (enc : TypeId × Value → H) :
    ReturnsInHanded {} Tryz.checked os 3 .any (Rows.coerceEndsSpec.pre6 enc Tryz.prog Tryz.f3 Rows.coerceEndsRow.domain false) (Rows.coerceEndsSpec.post enc Tryz.prog Tryz.f3 false true false false) := by
  refine returnsInHanded_of_change_shaped (C := Tryz.checked) own started (by kernel_rfl) Tryz.func3
    (ChangeSpec.witness6 (enc := enc) (C := Tryz.checked) false ⟨#[], #[.int .u8 0, .int .u8 0, .agg #[.int .u8 0, .float .f64 0, .string ByteArray.empty, .int .i64 0], .agg #[.int .u8 0, .float .f64 0, .string ByteArray.empty, .int .i64 0], .slice none 0 0], []⟩ 8 (by kernel_rfl) (by kernel_rfl) (by kernel_rfl) (by kernel_rfl)) ?_
  intro W base args ds gs before hval0 hW hcnd _ hsh _
  have hval : ∀ (j : Nat) t v, Tryz.f3.params[j]? = some t → args[j]? = some v → Value.okWide Tryz.prog W .any base t v := hval0
  have hW' := hW
  obtain ⟨p, q, hA0, hV, rfl, hfz, hnd⟩ := hW
  have hA : DataW.TrodAll enc Tryz.prog W 0 (fun _ => true) true Tryz.f3.params.toList args.toList ds p := hA0
  rw [Tryz.params3] at hA hval
  obtain ⟨v0, r0, d0, s0, p0, q0, e0, rfl, rfl, h0, hA⟩ := trodAll_cons hA
  obtain ⟨v1, r1, d1, s1, p1, q1, rfl, rfl, rfl, h1, hA⟩ := trodAll_cons hA
  obtain ⟨v2, r2, d2, s2, p2, q2, rfl, rfl, rfl, h2, hA⟩ := trodAll_cons hA
  obtain ⟨v3, r3, d3, s3, p3, q3, rfl, rfl, rfl, h3, hA⟩ := trodAll_cons hA
  obtain ⟨v4, r4, d4, s4, p4, q4, rfl, rfl, rfl, h4, hA⟩ := trodAll_cons hA
  obtain ⟨rfl, rfl, rfl⟩ := trodAll_nil hA
  obtain rfl : args = #[v0, v1, v2, v3, v4] := by apply Array.ext'; exact e0
  obtain ⟨k0, rfl, rfl, rfl, w0⟩ := open_int Tryz.underlying5 (hval 0 5 _ rfl rfl) h0
  obtain ⟨k1, rfl, rfl, rfl, w1⟩ := open_int Tryz.underlying5 (hval 1 5 _ rfl rfl) h1
  obtain ⟨cs, rfl, hcs, rfl⟩ := Vx.open_flat (d := 4) Tryz.underlying24 (by kernel_rfl) (hval 2 24 _ rfl rfl) h2
  obtain ⟨cs', rfl, hcs', rfl⟩ := Vx.open_flat (d := 4) Tryz.underlying24 (by kernel_rfl) (hval 3 24 _ rfl rfl) h3
  obtain ⟨c, x, s, r, hvc, n1, x1, y1, z1⟩ := val_cells hcs
  obtain ⟨c', x', s', r', hwc, n2, x2, y2, z2⟩ := val_cells hcs'
  have hlist := open_list (hval 4 25 _ rfl rfl) h4
  obtain ⟨rfl, rfl⟩ := trodVars_none hV
  simp only [List.append_nil, List.nil_append] at hW'
  have hlt : ∀ y ∈ p4, y.block < W.heap.size := fun y hy => hW'.lt y hy
  have hw := walk (v := ⟨c, x, s, r⟩) (w := ⟨c', x', s', r'⟩) ⟨n1, x1, y1, z1⟩ ⟨n2, x2, y2, z2⟩ (Vx.wf_int w1) (Vx.wf_int w0) hlist hsh
  have ev : (⟨c, x, s, r⟩ : V4).cells = cs := hvc.symm
  have ew : (⟨c', x', s', r'⟩ : V4).cells = cs' := hwc.symm
  rw [ev, ew] at hw
  refine hw.mono fun e W' ⟨he, hg⟩ => ?_
  subst he
  have hlaid : laidOutB Tryz.prog = true := by kernel_rfl
  have hr : Tryz.prog.readableRec 24 = true := by kernel_rfl
  have hr5 : Tryz.prog.readableRec 5 = true := by kernel_rfl
  have hr25 : Tryz.prog.readableRec 25 = true := by kernel_rfl
  have hrow : 24 < Tryz.prog.types.size := of_decide_eq_true (by kernel_rfl)
  have hrow5 : 5 < Tryz.prog.types.size := of_decide_eq_true (by kernel_rfl)
  have hrow25 : 25 < Tryz.prog.types.size := of_decide_eq_true (by kernel_rfl)
  exact ⟨_, rfl, Vx.post_below (pa := p4) (pv := []) hW' (fun _ _ _ => (trodAll_cons_mk (shut_bool Tryz.underlying4 _) trodAll_mk0))
    (fun sp hsp => by
      have a4 := trodAll_cons_mk (WideElems.Trod_stays (sp' := sp) hlaid hr25 hrow25 h4 (fun y hy => hg.same (hlt y hy)) (fun y hy => hsp y hy)) trodAll_mk0
      rw [List.append_nil] at a4
      exact trodAll_cons_mk (WideElems.Trod_stays hlaid hr5 hrow5 h0 (fun _ hx => by cases hx) (fun _ hx => by cases hx)) (trodAll_cons_mk (WideElems.Trod_stays hlaid hr5 hrow5 h1 (fun _ hx => by cases hx) (fun _ hx => by cases hx))
        (trodAll_cons_mk (WideElems.Trod_stays hlaid hr hrow h2 (fun _ hx => by cases hx) (fun _ hx => by cases hx)) (trodAll_cons_mk (WideElems.Trod_stays hlaid hr hrow h3 (fun _ hx => by cases hx) (fun _ hx => by cases hx)) a4))))
    (fun _ _ => rfl) (List.append_nil _).symm hg (ok_one (by kernel_rfl) rfl (okWide_bool_mk Tryz.underlying4 _))⟩
theorem over : Rows.coerceEndsRow.holds Tryz.pinned (OpenSpec.ofChange Rows.coerceEndsSpec) :=
  OpenClaim.holds_of_wide 3 Tryz.f3 rfl rfl rfl rfl rfl rfl rfl ⟨rfl, rfl, rfl, rfl, rfl⟩ rfl rfl rfl rfl rfl (by kernel_rfl) Tryz.func3 (by kernel_rfl)
    (of_decide_eq_true (by kernel_rfl)) (by unfold Func.isWrapper; first | (rw [if_pos (by decide +kernel)]; kernel_rfl) | (rw [if_neg (by decide +kernel)]; exact ⟨rfl, rfl⟩))
    (fun os started H enc _ => lifted os started H enc)
end Go.Proofs.YtaecedlhiclkdaaGreat.En
namespace Go.Proofs.YtaecedlhiclkdaaGreat.coerceEnds
theorem proved : Rows.CoerceEndsSaid :=
  En.over
end Go.Proofs.YtaecedlhiclkdaaGreat.coerceEnds
