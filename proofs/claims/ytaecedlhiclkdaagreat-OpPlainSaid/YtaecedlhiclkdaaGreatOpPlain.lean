/- The law OpPlain of bailifflaw19 holds: the given function answers true for any two values, and turns nothing. No condition. -/
import Derived.Test.YtaecedlhiclkdaaGreatRows
import Derived.Test.YtaecedlhiclkdaaGreatOpB
import Derived.WalkKit
import Derived.Handy
import Derived.HandedShaped
import Derived.Test.YtaecedlhiclkdaaGreatOpR0
import Derived.Test.YtaecedlhiclkdaaGreatOpR1
import Derived.Test.YtaecedlhiclkdaaGreatOpR2
import Derived.Test.YtaecedlhiclkdaaGreatOpR3
import Derived.Test.YtaecedlhiclkdaaGreatOpR4
import Derived.Test.YtaecedlhiclkdaaGreatOpR5
import Derived.Test.YtaecedlhiclkdaaGreatOpR6
import Derived.Test.YtaecedlhiclkdaaGreatOpR7
import Derived.Test.YtaecedlhiclkdaaGreatOpR8
import Derived.Test.YtaecedlhiclkdaaGreatOpR9
import Derived.Test.YtaecedlhiclkdaaGreatOpR10
import Derived.Test.YtaecedlhiclkdaaGreatOpR11
import Derived.Test.YtaecedlhiclkdaaGreatOpR12
import Derived.Test.YtaecedlhiclkdaaGreatOpR13
import Derived.Test.YtaecedlhiclkdaaGreatOpR14
import Derived.Test.YtaecedlhiclkdaaGreatOpR15
namespace Go.Proofs.YtaecedlhiclkdaaGreat.Opl
open Go Vx Con RowKit
set_option linter.unusedVariables false
set_option linter.constructorNameAsVariable false
set_option maxRecDepth 100000

/-- a symbol's key: some number -/
theorem symKey (n : Int) (hn : -9223372036854775808 ≤ n ∧ n ≤ 9223372036854775807) (w : World) : Calls P 125 #[.int .i64 n] w fun e w' => (∃ m : Int, -9223372036854775808 ≤ m ∧ m ≤ 9223372036854775807 ∧ e = .returned (.agg #[.string ByteArray.empty, .int .i64 m])) ∧ Below w.heap.size w w' := by
  go_enter Tryz.func125, Tryz.ntmps125
  go_wp2
  all_goals go_returns
  all_goals exact ⟨⟨_, by first | decide | (simp only [wrap64]; omega), by first | decide | (simp only [wrap64]; omega), rfl⟩, (Below.refl w.heap.size w).alloc (Nat.le_refl _) _⟩
noncomputable def symK : Ct := fun args h n k => match args with
  | [.x (.i .i64) _] => has4 h (forceN (Nat.succ n) fun m => k (.ag [.s 0 0, .x (.i .i64) (.sy n)]) h m)
  | _ => false
theorem symK_ok : CtOK P 125 symK := by
  intro args ARGS E h nxt w k he ra hr
  unfold symK at he
  split at he <;> try (cases he; done)
  rename_i e0
  obtain ⟨hs, he⟩ := has4_ok he hr
  rw [forceN_eq] at he
  rw [RvL] at ra
  obtain ⟨V, vs, e1, r1, ra⟩ := ra
  rw [RvL] at ra
  rw [Rv] at r1
  obtain ⟨_, n, rfl, hn⟩ := r1
  have hA : ARGS = #[.int .i64 n] := by apply Array.ext'; rw [e1, ra]
  subst hA
  refine (symKey n hn w).mono ?_
  rintro e w' ⟨⟨m, h1, h2, rfl⟩, hb⟩
  have hs' : 0 < w'.heap.size := by have := hb.size; omega
  refine ⟨_, rfl, _, h, nxt + 1, addE E nxt (.int .i64 m), ?_, (hr.below hb).add _ hs', (Goes.below hb).trans ((hr.below hb).goes_add _), he⟩
  exact rv_ag (rvl_cons (by rw [Rv]; rfl) (rvl_cons (by rw [Rv]; exact ⟨den_add (sok_i _ _), _, rfl, h1, h2⟩) rvl_nil))
noncomputable def SL2 : Specs := fun g => match g with
  | 125 => some symK
  | g => SL g
theorem SL2_ok : SpecOK P SL2 := by
  intro g C hC
  unfold SL2 at hC
  split at hC
  · cases hC; exact symK_ok
  · exact SL_ok _ C hC
noncomputable def DR2 : DrawF := evDraw PP XT (run SL2 40)
theorem DR2_ok : DrawOK P DR2 := evDraw_ok mixed XT_ok _ (run_ok SL2_ok 40)
noncomputable def round2 (a i j k : Nat) : Bool := setF (fs i 6 ++ fs j 7) (startH GL 6) fun h => roundB P (run SL2 40) XT DR2 Tryz.f4.ntmps cl h (cans a i j k) (atB 6 28 (cans a i j (Nat.succ k))) (retT P Tryz.f4)
theorem r2_6_19 : round2 34 2 6 19 = true := by kernel_rfl
theorem r3_6_19 : round2 34 3 6 19 = true := by kernel_rfl
theorem r4_6_19 : round2 32 4 6 19 = true := by kernel_rfl
theorem r5_6_19 : round2 32 5 6 19 = true := by kernel_rfl
theorem r6_6_19 : round2 32 6 6 19 = true := by kernel_rfl

/-! ### The loop, each round by contracts of its own -/
theorem loop_ok2 {P : Program} {calls : Nat → CallF} {ext : Exts} {draws : Nat → DrawF} (hcalls : ∀ k, CallOK P (calls k)) (hext : ExtOK P ext) (hdraws : ∀ k, DrawOK P (draws k)) {nt : Nat} {E0 : Env} {h0 : Nat → Heap} {m F K : Nat} {w0 : World} {kr : S} {cl : Code} {cans : Nat → Vx.Can}
    (h1 : 1 ≤ F) (hr0 : ∀ k, HR E0 (h0 k) m w0 ∧ (∀ b, ¬ fp E0 (h0 k) b) ∧ flr (h0 k) = F) (hn : loopsOf cl = [])
    (hit : ∀ k, k < K → roundB P (calls k) ext (draws k) nt cl (h0 k) (cans k) (atB F m (cans (k + 1))) kr = true) (hlast : roundB P (calls K) ext (draws K) nt cl (h0 K) (cans K) noK kr = true)
    (kn : S) (kx : Nat → S) (E : Env) (regs : Regs) (h : Heap) (nxt : Nat) (a : Act) (w : World) (he : atB F m (cans 0) regs h nxt = true) (st : St [] E regs h nxt nt a w) (cm : Vx.Calm w0.heap.size w0 E h w) (hE : E0.le E) (hF : flr h = F) :
    (Code.loop cl).wp P (LeavesB w0.heap.size w0 E0 F nt kn kx kr) a w := by
  refine wp_loop_rounds (K + 1) ?_
  have key : ∀ (n k : Nat), k + n = K → ∀ (E : Env) (regs : Regs) (h : Heap) (nxt : Nat) (a : Act) (w : World), atB F m (cans k) regs h nxt = true → St [] E regs h nxt nt a w → Vx.Calm w0.heap.size w0 E h w → E0.le E → flr h = F →
      Code.rounds P cl (LeavesB w0.heap.size w0 E0 F nt kn kx kr) (n + 1) a w := by
    intro n
    induction n with
    | zero =>
      intro k hk E regs h nxt a w he st cm hE hF
      obtain rfl : k = K := by omega
      obtain ⟨st1, cm1, hF1⟩ := head h1 (hr0 k).1 (hr0 k).2.1 (hr0 k).2.2 he st cm hE hF
      have hl := hlast
      unfold roundB at hl
      rw [rowsK_eq] at hl
      rw [rounds_succ]
      refine wp_mono (evCodeJ_ok (hcalls k) hext (hdraws k) cl (fun l hl => by rw [hn] at hl; cases hl) _ _ E _ _ _ a w hl st1 cm1 hE hF1) ?_
      intro e a' w' hh
      obtain ⟨E', regs', h', nxt', s1, s2, s3, s4, hk⟩ := hh
      cases e with
      | normal => cases hk
      | exit i => cases hk
      | ret => exact ⟨E', regs', h', nxt', s1, s2, s3, s4, hk⟩
      | goto l => exact hk.elim
      | panic l => exact hk.elim
      | outgrown => exact hk.elim
    | succ n ih =>
      intro k hk E regs h nxt a w he st cm hE hF
      obtain ⟨st1, cm1, hF1⟩ := head h1 (hr0 k).1 (hr0 k).2.1 (hr0 k).2.2 he st cm hE hF
      have hl := hit k (by omega)
      unfold roundB at hl
      rw [rowsK_eq] at hl
      rw [rounds_succ]
      refine wp_mono (evCodeJ_ok (hcalls k) hext (hdraws k) cl (fun l hl => by rw [hn] at hl; cases hl) _ _ E _ _ _ a w hl st1 cm1 hE hF1) ?_
      intro e a' w' hh
      obtain ⟨E', regs', h', nxt', s1, s2, s3, s4, hk'⟩ := hh
      cases e with
      | normal => exact ih (k + 1) (by omega) E' regs' h' nxt' a' w' hk' s1 s2 s3 s4
      | exit i => cases hk'
      | ret => exact ⟨E', regs', h', nxt', s1, s2, s3, s4, hk'⟩
      | goto l => exact hk'.elim
      | panic l => exact hk'.elim
      | outgrown => exact hk'.elim
  exact key K 0 (by omega) E regs h nxt a w he st cm hE hF

theorem lawJ2 {P : Program} {call : CallF} {ext : Exts} {draw : DrawF} (hcall : CallOK P call) (hext : ExtOK P ext) (hdraw : DrawOK P draw) {calls : Nat → CallF} {draws : Nat → DrawF} (hcalls : ∀ k, CallOK P (calls k)) (hdraws : ∀ k, DrawOK P (draws k)) {g : FuncId} {fn : Func} {c cl : Code} (hfn : P.funcs[g]? = some fn) (hb : fn.body = some c) (hc : loopsOf c = [cl]) (hn : loopsOf cl = [])
    {args : List AV} {ARGS : Array Value} {E0 : Env} {h0 : Heap} {h0s : Nat → Heap} {m F K : Nat} {w0 : World} {cans : Nat → Vx.Can} (ra : RvL E0 args ARGS.toList) (hle : args.length ≤ fn.ntmps)
    (h1 : 1 ≤ F) (hr0 : HR E0 h0 m w0) (nf0 : ∀ k, ¬ fp E0 h0 k) (hF0 : flr h0 = F) (hr0s : ∀ k, HR E0 (h0s k) m w0 ∧ (∀ b, ¬ fp E0 (h0s k) b) ∧ flr (h0s k) = F)
    (hfirst : evCodeJ P call ext draw fn.ntmps (atB F m (cans 0)) c (retT P fn) (fun _ => noK) (retT P fn) (wrLs args big 0) h0 m = true)
    (hit : ∀ k, k < K → roundB P (calls k) ext (draws k) fn.ntmps cl (h0s k) (cans k) (atB F m (cans (k + 1))) (retT P fn) = true) (hlast : roundB P (calls K) ext (draws K) fn.ntmps cl (h0s K) (cans K) noK (retT P fn) = true) :
    Calls P g ARGS w0 fun e w' => e = .returned (.bool true) ∧ Go.RowKit.Below w0.heap.size w0 w' := by
  have st := st_enter ra hle hr0
  have cm0 : Vx.Calm w0.heap.size w0 E0 h0 w0 := ⟨Go.RowKit.Below.refl _ _, Nat.le_refl _, fun k _ => nf0 k⟩
  refine calls_of_wp hfn hb (wp_mono (evCodeJ_ok hcall hext hdraw (B := w0.heap.size) (w0 := w0) (E0 := E0) (F := F) (kr := retT P fn) c (fun l hl => ?_) _ _ E0 _ h0 m _ w0 hfirst st cm0 (Env.le_refl _) hF0) ?_)
  · rw [hc] at hl
    obtain rfl : l = cl := by simpa using hl
    exact fun kn kx E regs h nxt a w he st cm hE hF => loop_ok2 hcalls hext hdraws h1 hr0s hn hit hlast kn kx E regs h nxt a w he st cm hE hF
  · intro e a' w' hl
    obtain ⟨E', regs', h', nxt', st', cm', hE', hF', hk⟩ := hl
    have fin : retT P fn regs' h' nxt' = true → a'.defers = [] ∧ ∃ v, (results fn a'.tmps).run P w' = .ok v w' ∧ (Ending.returned v = .returned (.bool true) ∧ Go.RowKit.Below w0.heap.size w0 w') := by
      intro hk
      obtain ⟨v, V, h1, h2, h3⟩ := evRes_ok hk st'
      obtain ⟨x, _, rfl, _, _, hx⟩ := condK_ok h3 h2 st'.heap
      rcases hx with ⟨rfl, _⟩ | ⟨_, hx⟩
      · exact ⟨st'.defers, _, h1, rfl, cm'.below⟩
      · cases hx
    cases e with
    | normal => exact fin hk
    | ret => exact fin hk
    | exit i => cases hk
    | goto l => exact hk.elim
    | panic l => exact hk.elim
    | outgrown => exact hk.elim

end Go.Proofs.YtaecedlhiclkdaaGreat.Opl
namespace Go.Proofs.YtaecedlhiclkdaaGreat.Opl
open Go.ChangeShapes Go.WideShapes Go.ChangeAt Go.RowKit
set_option linter.unusedVariables false
set_option linter.constructorNameAsVariable false
set_option maxRecDepth 100000

theorem own : ownKnob Tryz.prog.godebug = none := by kernel_rfl
/-! ### How the last round parts -/
theorem cmp_swap (A B : Int) : compare B A = (compare A B).swap := by
  rcases Int.lt_trichotomy A B with h | h | h
  · rw [Vx.cmp_lt h, Vx.cmp_gt h]; rfl
  · rw [h, (Vx.icmp_eq B B).2 rfl]; rfl
  · rw [Vx.cmp_lt h, Vx.cmp_gt h]; rfl
theorem datum_swap (a b : Ieee.Datum) : b.order a = (a.order b).map Ordering.swap := by
  cases a with
  | nan s f => cases b <;> rfl
  | infinity s => cases b with
    | nan t f => rfl
    | infinity t => cases s <;> cases t <;> rfl
    | number t n j => cases s <;> rfl
  | number s m i => cases b with
    | nan t f => rfl
    | infinity t => cases t <;> rfl
    | number t n j => rw [Vx.order_numbers, Vx.order_numbers, Int.min_comm j i, cmp_swap]; rfl
theorem order_swap (x y : Nat) : FloatKind.f64.format.order y x = (FloatKind.f64.format.order x y).map Ordering.swap := datum_swap _ _
theorem num_some {a b : Ieee.Datum} (ha : a.order a = some .eq) (hb : b.order b = some .eq) : a.order b ≠ none := by
  cases a <;> cases b <;> simp_all [Ieee.Datum.order]
theorem den_lss {E : Vx.Env} {a b : Vx.SE} {x y : Nat} (ha : Vx.den E a = some (.float .f64 x)) (hb : Vx.den E b = some (.float .f64 y)) : Vx.den E (.cmp .lss a b) = some (.bool (FloatKind.f64.format.order x y == some .lt)) := by
  simp only [Vx.den, ha, hb, Vx.cmpV, Vx.cmpF, Option.map_some]
theorem fE_of {E : Vx.Env} {a b : Vx.SE} {x y : Nat} (ha : Vx.den E a = some (.float .f64 x)) (hb : Vx.den E b = some (.float .f64 y)) (o : Ordering) (h : FloatKind.f64.format.order x y = some o) : Vx.Holds E (fE a b (o == .eq) (o == .lt) (o == .gt)) := by
  have h2 : FloatKind.f64.format.order y x = some o.swap := by rw [order_swap, h]; rfl
  refine Vx.holds_cons ((Vx.den_feq ha hb).trans ?_) (Vx.holds_cons ((den_lss ha hb).trans ?_) (Vx.holds_cons ((den_lss hb ha).trans ?_) Vx.holds_nil))
  · unfold Vx.feq; rw [h]; cases o <;> rfl
  · rw [h]; cases o <;> rfl
  · rw [h2]; cases o <;> rfl
theorem order3 {E : Vx.Env} {a b : Vx.SE} {x y : Nat} (ha : Vx.den E a = some (.float .f64 x)) (hb : Vx.den E b = some (.float .f64 y)) (nx : Vx.feq x x = true) (ny : Vx.feq y y = true) :
    Vx.Holds E (fE a b false true false) ∨ Vx.Holds E (fE a b true false false) ∨ Vx.Holds E (fE a b false false true) := by
  cases ho : FloatKind.f64.format.order x y with
  | none => exact absurd ho (num_some (Mod.feq_order nx) (Mod.feq_order ny))
  | some o =>
    cases o with
    | lt => exact .inl (fE_of ha hb .lt ho)
    | eq => exact .inr (.inl (fE_of ha hb .eq ho))
    | gt => exact .inr (.inr (fE_of ha hb .gt ho))
theorem hN {E : Vx.Env} {a : Vx.SE} {x : Nat} {b : Bool} (ha : Vx.den E a = some (.float .f64 x)) (h : Vx.feq x x = b) : Vx.den E (fN a b).1 = some (.bool (fN a b).2) := (Vx.den_feq ha ha).trans (by rw [h]; rfl)
theorem hR {E : Vx.Env} {n : Nat} {s : ByteArray} (ha : Vx.den E (.sy n) = some (.string s)) : ∃ b, Vx.den E (fR n b).1 = some (.bool (fR n b).2) := ⟨_, Vx.fact_eq (Vx.den_fn (c := 6) ha rfl)⟩
theorem hrd {E : Vx.Env} {n : Nat} {s : ByteArray} (ha : Vx.den E (.sy n) = some (.string s)) : ∃ x, Vx.den E (rd n) = some (.float .f64 x) := ⟨_, Vx.den_fn (c := 5) ha rfl⟩
theorem hc0 {E : Vx.Env} (i : Nat) : ∃ x, Vx.den E (cst i) = some (.float .f64 x) ∧ Vx.feq x x = true := by
  unfold cst
  split
  · exact ⟨_, rfl, by kernel_rfl⟩
  · exact ⟨_, rfl, by kernel_rfl⟩
theorem less_tri : ∀ (x y : List UInt8), (Op.bytesLess x y = true ∧ Op.bytesLess y x = false ∧ x ≠ y) ∨ (x = y ∧ Op.bytesLess x y = false ∧ Op.bytesLess y x = false) ∨ (Op.bytesLess x y = false ∧ Op.bytesLess y x = true ∧ x ≠ y)
  | [], [] => .inr (.inl ⟨rfl, rfl, rfl⟩)
  | [], b :: y => .inl ⟨rfl, rfl, by simp⟩
  | a :: x, [] => .inr (.inr ⟨rfl, rfl, by simp⟩)
  | a :: x, b :: y => by
    unfold Op.bytesLess
    rcases Nat.lt_trichotomy a.toNat b.toNat with h | h | h
    · have h1 : a < b := UInt8.lt_iff_toNat_lt.2 h
      have h2 : ¬ b < a := fun hh => by have := UInt8.lt_iff_toNat_lt.1 hh; omega
      have h3 : a ≠ b := fun hh => by rw [hh] at h; omega
      left; simp [h1, h2, h3, Ne.symm h3]
    · obtain rfl := UInt8.toNat_inj.1 h
      have h2 : ¬ a < a := fun hh => by have := UInt8.lt_iff_toNat_lt.1 hh; omega
      rcases less_tri x y with h | h | h
      · left; simp [h2, h.1, h.2.1, h.2.2]
      · right; left; simp [h2, h.1]; rw [← h.1]; exact h.1 ▸ h.2.1
      · right; right; simp [h2, h.1, h.2.1, h.2.2]
    · have h1 : b < a := UInt8.lt_iff_toNat_lt.2 h
      have h2 : ¬ a < b := fun hh => by have := UInt8.lt_iff_toNat_lt.1 hh; omega
      have h3 : a ≠ b := fun hh => by rw [hh] at h; omega
      right; right; simp [h1, h2, h3]
theorem str3 {E : Vx.Env} {a b : Vx.SE} {s t : ByteArray} (ha : Vx.den E a = some (.string s)) (hb : Vx.den E b = some (.string t)) :
    Vx.Holds E (fE a b false true false) ∨ Vx.Holds E (fE a b true false false) ∨ Vx.Holds E (fE a b false false true) := by
  have he : Vx.den E (.cmp .eql a b) = some (.bool (s.toList == t.toList)) := by simp only [Vx.den, ha, hb, Vx.cmpV, Vx.cmpS, Option.map_some]
  have h1 : Vx.den E (.cmp .lss a b) = some (.bool (Op.bytesLess s.toList t.toList)) := by simp only [Vx.den, ha, hb, Vx.cmpV, Vx.cmpS, Option.map_some]
  have h2 : Vx.den E (.cmp .lss b a) = some (.bool (Op.bytesLess t.toList s.toList)) := by simp only [Vx.den, ha, hb, Vx.cmpV, Vx.cmpS, Option.map_some]
  rcases less_tri s.toList t.toList with ⟨k1, k2, k3⟩ | ⟨k3, k1, k2⟩ | ⟨k1, k2, k3⟩
  · exact .inl (Vx.holds_cons (he.trans (by rw [beq_false_of_ne k3])) (Vx.holds_cons (h1.trans (by rw [k1])) (Vx.holds_cons (h2.trans (by rw [k2])) Vx.holds_nil)))
  · exact .inr (.inl (Vx.holds_cons (he.trans (by rw [k3]; simp)) (Vx.holds_cons (h1.trans (by rw [k1])) (Vx.holds_cons (h2.trans (by rw [k2])) Vx.holds_nil))))
  · exact .inr (.inr (Vx.holds_cons (he.trans (by rw [beq_false_of_ne k3])) (Vx.holds_cons (h1.trans (by rw [k1])) (Vx.holds_cons (h2.trans (by rw [k2])) Vx.holds_nil))))
/-- what a form's symbol stands for -/
def symIs (E : Vx.Env) (i n : Nat) : Prop := match i with
  | 4 => ∃ x, Vx.den E (.sy n) = some (.float .f64 x)
  | 5 => ∃ s, Vx.den E (.sy n) = some (.string s)
  | _ => True
def Ends (a i j : Nat) : Prop := ∀ E : Vx.Env, symIs E i 6 → symIs E j 7 → ∃ more, Vx.Holds E more ∧ last more a i j = true
theorem e0_0 : Ends 36 0 0 := by
  intro E h6 h7
  exact ⟨[], Vx.holds_nil, l0_0_0⟩
theorem e0_1 : Ends 36 0 1 := by
  intro E h6 h7
  exact ⟨[], Vx.holds_nil, l0_1_0⟩
theorem e0_2 : Ends 36 0 2 := by
  intro E h6 h7
  exact ⟨[], Vx.holds_nil, l0_2_0⟩
theorem e0_3 : Ends 36 0 3 := by
  intro E h6 h7
  exact ⟨[], Vx.holds_nil, l0_3_0⟩
theorem e0_4 : Ends 34 0 4 := by
  intro E h6 h7
  exact ⟨[], Vx.holds_nil, l0_4_0⟩
theorem e0_5 : Ends 34 0 5 := by
  intro E h6 h7
  exact ⟨[], Vx.holds_nil, l0_5_0⟩
theorem e0_6 : Ends 34 0 6 := by
  intro E h6 h7
  exact ⟨[], Vx.holds_nil, l0_6_0⟩
theorem e1_0 : Ends 36 1 0 := by
  intro E h6 h7
  exact ⟨[], Vx.holds_nil, l1_0_0⟩
theorem e1_1 : Ends 36 1 1 := by
  intro E h6 h7
  exact ⟨[], Vx.holds_nil, l1_1_0⟩
theorem e1_2 : Ends 36 1 2 := by
  intro E h6 h7
  exact ⟨[], Vx.holds_nil, l1_2_0⟩
theorem e1_3 : Ends 36 1 3 := by
  intro E h6 h7
  exact ⟨[], Vx.holds_nil, l1_3_0⟩
theorem e1_4 : Ends 34 1 4 := by
  intro E h6 h7
  obtain ⟨x7, d7⟩ := h7
  obtain ⟨y6, g6, m6⟩ := hc0 (E := E) 1
  have g7 := d7
  cases m7 : Vx.feq x7 x7
  · exact ⟨_, Vx.holds_cons (hN g7 m7) Vx.holds_nil, l1_4_0⟩
  rcases order3 g6 g7 m6 m7 with h | h | h
  · exact ⟨_, Vx.holds_append (Vx.holds_cons (hN g7 m7) (Vx.holds_nil)) h, l1_4_1⟩
  · exact ⟨_, Vx.holds_append (Vx.holds_cons (hN g7 m7) (Vx.holds_nil)) h, l1_4_2⟩
  · exact ⟨_, Vx.holds_append (Vx.holds_cons (hN g7 m7) (Vx.holds_nil)) h, l1_4_3⟩
theorem e1_5 : Ends 34 1 5 := by
  intro E h6 h7
  obtain ⟨x7, d7⟩ := h7
  obtain ⟨y6, g6, m6⟩ := hc0 (E := E) 1
  obtain ⟨y7, g7⟩ := hrd d7
  obtain ⟨b7, f7⟩ := hR d7
  cases b7
  · exact ⟨_, Vx.holds_cons f7 Vx.holds_nil, l1_5_0⟩
  cases m7 : Vx.feq y7 y7
  · exact ⟨_, Vx.holds_cons f7 (Vx.holds_cons (hN g7 m7) Vx.holds_nil), l1_5_1⟩
  rcases order3 g6 g7 m6 m7 with h | h | h
  · exact ⟨_, Vx.holds_append (Vx.holds_cons f7 (Vx.holds_cons (hN g7 m7) (Vx.holds_nil))) h, l1_5_2⟩
  · exact ⟨_, Vx.holds_append (Vx.holds_cons f7 (Vx.holds_cons (hN g7 m7) (Vx.holds_nil))) h, l1_5_3⟩
  · exact ⟨_, Vx.holds_append (Vx.holds_cons f7 (Vx.holds_cons (hN g7 m7) (Vx.holds_nil))) h, l1_5_4⟩
theorem e1_6 : Ends 34 1 6 := by
  intro E h6 h7
  exact ⟨[], Vx.holds_nil, l1_6_0⟩
theorem e2_0 : Ends 36 2 0 := by
  intro E h6 h7
  exact ⟨[], Vx.holds_nil, l2_0_0⟩
theorem e2_1 : Ends 36 2 1 := by
  intro E h6 h7
  exact ⟨[], Vx.holds_nil, l2_1_0⟩
theorem e2_2 : Ends 36 2 2 := by
  intro E h6 h7
  exact ⟨[], Vx.holds_nil, l2_2_0⟩
theorem e2_3 : Ends 36 2 3 := by
  intro E h6 h7
  exact ⟨[], Vx.holds_nil, l2_3_0⟩
theorem e2_4 : Ends 34 2 4 := by
  intro E h6 h7
  obtain ⟨x7, d7⟩ := h7
  obtain ⟨y6, g6, m6⟩ := hc0 (E := E) 2
  have g7 := d7
  cases m7 : Vx.feq x7 x7
  · exact ⟨_, Vx.holds_cons (hN g7 m7) Vx.holds_nil, l2_4_0⟩
  rcases order3 g6 g7 m6 m7 with h | h | h
  · exact ⟨_, Vx.holds_append (Vx.holds_cons (hN g7 m7) (Vx.holds_nil)) h, l2_4_1⟩
  · exact ⟨_, Vx.holds_append (Vx.holds_cons (hN g7 m7) (Vx.holds_nil)) h, l2_4_2⟩
  · exact ⟨_, Vx.holds_append (Vx.holds_cons (hN g7 m7) (Vx.holds_nil)) h, l2_4_3⟩
theorem e2_5 : Ends 34 2 5 := by
  intro E h6 h7
  obtain ⟨x7, d7⟩ := h7
  obtain ⟨y6, g6, m6⟩ := hc0 (E := E) 2
  obtain ⟨y7, g7⟩ := hrd d7
  obtain ⟨b7, f7⟩ := hR d7
  cases b7
  · exact ⟨_, Vx.holds_cons f7 Vx.holds_nil, l2_5_0⟩
  cases m7 : Vx.feq y7 y7
  · exact ⟨_, Vx.holds_cons f7 (Vx.holds_cons (hN g7 m7) Vx.holds_nil), l2_5_1⟩
  rcases order3 g6 g7 m6 m7 with h | h | h
  · exact ⟨_, Vx.holds_append (Vx.holds_cons f7 (Vx.holds_cons (hN g7 m7) (Vx.holds_nil))) h, l2_5_2⟩
  · exact ⟨_, Vx.holds_append (Vx.holds_cons f7 (Vx.holds_cons (hN g7 m7) (Vx.holds_nil))) h, l2_5_3⟩
  · exact ⟨_, Vx.holds_append (Vx.holds_cons f7 (Vx.holds_cons (hN g7 m7) (Vx.holds_nil))) h, l2_5_4⟩
theorem e2_6 : Ends 34 2 6 := by
  intro E h6 h7
  exact ⟨[], Vx.holds_nil, l2_6_0⟩
theorem e3_0 : Ends 36 3 0 := by
  intro E h6 h7
  exact ⟨[], Vx.holds_nil, l3_0_0⟩
theorem e3_1 : Ends 36 3 1 := by
  intro E h6 h7
  exact ⟨[], Vx.holds_nil, l3_1_0⟩
theorem e3_2 : Ends 36 3 2 := by
  intro E h6 h7
  exact ⟨[], Vx.holds_nil, l3_2_0⟩
theorem e3_3 : Ends 36 3 3 := by
  intro E h6 h7
  exact ⟨[], Vx.holds_nil, l3_3_0⟩
theorem e3_4 : Ends 34 3 4 := by
  intro E h6 h7
  obtain ⟨x7, d7⟩ := h7
  obtain ⟨y6, g6, m6⟩ := hc0 (E := E) 3
  have g7 := d7
  cases m7 : Vx.feq x7 x7
  · exact ⟨_, Vx.holds_cons (hN g7 m7) Vx.holds_nil, l3_4_0⟩
  rcases order3 g6 g7 m6 m7 with h | h | h
  · exact ⟨_, Vx.holds_append (Vx.holds_cons (hN g7 m7) (Vx.holds_nil)) h, l3_4_1⟩
  · exact ⟨_, Vx.holds_append (Vx.holds_cons (hN g7 m7) (Vx.holds_nil)) h, l3_4_2⟩
  · exact ⟨_, Vx.holds_append (Vx.holds_cons (hN g7 m7) (Vx.holds_nil)) h, l3_4_3⟩
theorem e3_5 : Ends 34 3 5 := by
  intro E h6 h7
  obtain ⟨x7, d7⟩ := h7
  obtain ⟨y6, g6, m6⟩ := hc0 (E := E) 3
  obtain ⟨y7, g7⟩ := hrd d7
  obtain ⟨b7, f7⟩ := hR d7
  cases b7
  · exact ⟨_, Vx.holds_cons f7 Vx.holds_nil, l3_5_0⟩
  cases m7 : Vx.feq y7 y7
  · exact ⟨_, Vx.holds_cons f7 (Vx.holds_cons (hN g7 m7) Vx.holds_nil), l3_5_1⟩
  rcases order3 g6 g7 m6 m7 with h | h | h
  · exact ⟨_, Vx.holds_append (Vx.holds_cons f7 (Vx.holds_cons (hN g7 m7) (Vx.holds_nil))) h, l3_5_2⟩
  · exact ⟨_, Vx.holds_append (Vx.holds_cons f7 (Vx.holds_cons (hN g7 m7) (Vx.holds_nil))) h, l3_5_3⟩
  · exact ⟨_, Vx.holds_append (Vx.holds_cons f7 (Vx.holds_cons (hN g7 m7) (Vx.holds_nil))) h, l3_5_4⟩
theorem e3_6 : Ends 34 3 6 := by
  intro E h6 h7
  exact ⟨[], Vx.holds_nil, l3_6_0⟩
theorem e4_0 : Ends 34 4 0 := by
  intro E h6 h7
  exact ⟨[], Vx.holds_nil, l4_0_0⟩
theorem e4_1 : Ends 34 4 1 := by
  intro E h6 h7
  obtain ⟨x6, d6⟩ := h6
  have g6 := d6
  obtain ⟨y7, g7, m7⟩ := hc0 (E := E) 1
  cases m6 : Vx.feq x6 x6
  · exact ⟨_, Vx.holds_cons (hN g6 m6) Vx.holds_nil, l4_1_0⟩
  rcases order3 g6 g7 m6 m7 with h | h | h
  · exact ⟨_, Vx.holds_append (Vx.holds_cons (hN g6 m6) (Vx.holds_nil)) h, l4_1_1⟩
  · exact ⟨_, Vx.holds_append (Vx.holds_cons (hN g6 m6) (Vx.holds_nil)) h, l4_1_2⟩
  · exact ⟨_, Vx.holds_append (Vx.holds_cons (hN g6 m6) (Vx.holds_nil)) h, l4_1_3⟩
theorem e4_2 : Ends 34 4 2 := by
  intro E h6 h7
  obtain ⟨x6, d6⟩ := h6
  have g6 := d6
  obtain ⟨y7, g7, m7⟩ := hc0 (E := E) 2
  cases m6 : Vx.feq x6 x6
  · exact ⟨_, Vx.holds_cons (hN g6 m6) Vx.holds_nil, l4_2_0⟩
  rcases order3 g6 g7 m6 m7 with h | h | h
  · exact ⟨_, Vx.holds_append (Vx.holds_cons (hN g6 m6) (Vx.holds_nil)) h, l4_2_1⟩
  · exact ⟨_, Vx.holds_append (Vx.holds_cons (hN g6 m6) (Vx.holds_nil)) h, l4_2_2⟩
  · exact ⟨_, Vx.holds_append (Vx.holds_cons (hN g6 m6) (Vx.holds_nil)) h, l4_2_3⟩
theorem e4_3 : Ends 34 4 3 := by
  intro E h6 h7
  obtain ⟨x6, d6⟩ := h6
  have g6 := d6
  obtain ⟨y7, g7, m7⟩ := hc0 (E := E) 3
  cases m6 : Vx.feq x6 x6
  · exact ⟨_, Vx.holds_cons (hN g6 m6) Vx.holds_nil, l4_3_0⟩
  rcases order3 g6 g7 m6 m7 with h | h | h
  · exact ⟨_, Vx.holds_append (Vx.holds_cons (hN g6 m6) (Vx.holds_nil)) h, l4_3_1⟩
  · exact ⟨_, Vx.holds_append (Vx.holds_cons (hN g6 m6) (Vx.holds_nil)) h, l4_3_2⟩
  · exact ⟨_, Vx.holds_append (Vx.holds_cons (hN g6 m6) (Vx.holds_nil)) h, l4_3_3⟩
theorem e4_4 : Ends 32 4 4 := by
  intro E h6 h7
  obtain ⟨x6, d6⟩ := h6
  obtain ⟨x7, d7⟩ := h7
  have g6 := d6
  have g7 := d7
  cases m6 : Vx.feq x6 x6
  · exact ⟨_, Vx.holds_cons (hN g6 m6) Vx.holds_nil, l4_4_0⟩
  cases m7 : Vx.feq x7 x7
  · exact ⟨_, Vx.holds_cons (hN g6 m6) (Vx.holds_cons (hN g7 m7) Vx.holds_nil), l4_4_1⟩
  rcases order3 g6 g7 m6 m7 with h | h | h
  · exact ⟨_, Vx.holds_append (Vx.holds_cons (hN g6 m6) (Vx.holds_cons (hN g7 m7) (Vx.holds_nil))) h, l4_4_2⟩
  · exact ⟨_, Vx.holds_append (Vx.holds_cons (hN g6 m6) (Vx.holds_cons (hN g7 m7) (Vx.holds_nil))) h, l4_4_3⟩
  · exact ⟨_, Vx.holds_append (Vx.holds_cons (hN g6 m6) (Vx.holds_cons (hN g7 m7) (Vx.holds_nil))) h, l4_4_4⟩
theorem e4_5 : Ends 32 4 5 := by
  intro E h6 h7
  obtain ⟨x6, d6⟩ := h6
  obtain ⟨x7, d7⟩ := h7
  have g6 := d6
  obtain ⟨y7, g7⟩ := hrd d7
  obtain ⟨b7, f7⟩ := hR d7
  cases b7
  · exact ⟨_, Vx.holds_cons f7 Vx.holds_nil, l4_5_0⟩
  cases m6 : Vx.feq x6 x6
  · exact ⟨_, Vx.holds_cons f7 (Vx.holds_cons (hN g6 m6) Vx.holds_nil), l4_5_1⟩
  cases m7 : Vx.feq y7 y7
  · exact ⟨_, Vx.holds_cons f7 (Vx.holds_cons (hN g6 m6) (Vx.holds_cons (hN g7 m7) Vx.holds_nil)), l4_5_2⟩
  rcases order3 g6 g7 m6 m7 with h | h | h
  · exact ⟨_, Vx.holds_append (Vx.holds_cons f7 (Vx.holds_cons (hN g6 m6) (Vx.holds_cons (hN g7 m7) (Vx.holds_nil)))) h, l4_5_3⟩
  · exact ⟨_, Vx.holds_append (Vx.holds_cons f7 (Vx.holds_cons (hN g6 m6) (Vx.holds_cons (hN g7 m7) (Vx.holds_nil)))) h, l4_5_4⟩
  · exact ⟨_, Vx.holds_append (Vx.holds_cons f7 (Vx.holds_cons (hN g6 m6) (Vx.holds_cons (hN g7 m7) (Vx.holds_nil)))) h, l4_5_5⟩
theorem e4_6 : Ends 32 4 6 := by
  intro E h6 h7
  exact ⟨[], Vx.holds_nil, l4_6_0⟩
theorem e5_0 : Ends 34 5 0 := by
  intro E h6 h7
  exact ⟨[], Vx.holds_nil, l5_0_0⟩
theorem e5_1 : Ends 34 5 1 := by
  intro E h6 h7
  obtain ⟨x6, d6⟩ := h6
  obtain ⟨y6, g6⟩ := hrd d6
  obtain ⟨b6, f6⟩ := hR d6
  cases b6
  · exact ⟨_, Vx.holds_cons f6 Vx.holds_nil, l5_1_0⟩
  obtain ⟨y7, g7, m7⟩ := hc0 (E := E) 1
  cases m6 : Vx.feq y6 y6
  · exact ⟨_, Vx.holds_cons f6 (Vx.holds_cons (hN g6 m6) Vx.holds_nil), l5_1_1⟩
  rcases order3 g6 g7 m6 m7 with h | h | h
  · exact ⟨_, Vx.holds_append (Vx.holds_cons f6 (Vx.holds_cons (hN g6 m6) (Vx.holds_nil))) h, l5_1_2⟩
  · exact ⟨_, Vx.holds_append (Vx.holds_cons f6 (Vx.holds_cons (hN g6 m6) (Vx.holds_nil))) h, l5_1_3⟩
  · exact ⟨_, Vx.holds_append (Vx.holds_cons f6 (Vx.holds_cons (hN g6 m6) (Vx.holds_nil))) h, l5_1_4⟩
theorem e5_2 : Ends 34 5 2 := by
  intro E h6 h7
  obtain ⟨x6, d6⟩ := h6
  obtain ⟨y6, g6⟩ := hrd d6
  obtain ⟨b6, f6⟩ := hR d6
  cases b6
  · exact ⟨_, Vx.holds_cons f6 Vx.holds_nil, l5_2_0⟩
  obtain ⟨y7, g7, m7⟩ := hc0 (E := E) 2
  cases m6 : Vx.feq y6 y6
  · exact ⟨_, Vx.holds_cons f6 (Vx.holds_cons (hN g6 m6) Vx.holds_nil), l5_2_1⟩
  rcases order3 g6 g7 m6 m7 with h | h | h
  · exact ⟨_, Vx.holds_append (Vx.holds_cons f6 (Vx.holds_cons (hN g6 m6) (Vx.holds_nil))) h, l5_2_2⟩
  · exact ⟨_, Vx.holds_append (Vx.holds_cons f6 (Vx.holds_cons (hN g6 m6) (Vx.holds_nil))) h, l5_2_3⟩
  · exact ⟨_, Vx.holds_append (Vx.holds_cons f6 (Vx.holds_cons (hN g6 m6) (Vx.holds_nil))) h, l5_2_4⟩
theorem e5_3 : Ends 34 5 3 := by
  intro E h6 h7
  obtain ⟨x6, d6⟩ := h6
  obtain ⟨y6, g6⟩ := hrd d6
  obtain ⟨b6, f6⟩ := hR d6
  cases b6
  · exact ⟨_, Vx.holds_cons f6 Vx.holds_nil, l5_3_0⟩
  obtain ⟨y7, g7, m7⟩ := hc0 (E := E) 3
  cases m6 : Vx.feq y6 y6
  · exact ⟨_, Vx.holds_cons f6 (Vx.holds_cons (hN g6 m6) Vx.holds_nil), l5_3_1⟩
  rcases order3 g6 g7 m6 m7 with h | h | h
  · exact ⟨_, Vx.holds_append (Vx.holds_cons f6 (Vx.holds_cons (hN g6 m6) (Vx.holds_nil))) h, l5_3_2⟩
  · exact ⟨_, Vx.holds_append (Vx.holds_cons f6 (Vx.holds_cons (hN g6 m6) (Vx.holds_nil))) h, l5_3_3⟩
  · exact ⟨_, Vx.holds_append (Vx.holds_cons f6 (Vx.holds_cons (hN g6 m6) (Vx.holds_nil))) h, l5_3_4⟩
theorem e5_4 : Ends 32 5 4 := by
  intro E h6 h7
  obtain ⟨x6, d6⟩ := h6
  obtain ⟨x7, d7⟩ := h7
  obtain ⟨y6, g6⟩ := hrd d6
  obtain ⟨b6, f6⟩ := hR d6
  cases b6
  · exact ⟨_, Vx.holds_cons f6 Vx.holds_nil, l5_4_0⟩
  have g7 := d7
  cases m6 : Vx.feq y6 y6
  · exact ⟨_, Vx.holds_cons f6 (Vx.holds_cons (hN g6 m6) Vx.holds_nil), l5_4_1⟩
  cases m7 : Vx.feq x7 x7
  · exact ⟨_, Vx.holds_cons f6 (Vx.holds_cons (hN g6 m6) (Vx.holds_cons (hN g7 m7) Vx.holds_nil)), l5_4_2⟩
  rcases order3 g6 g7 m6 m7 with h | h | h
  · exact ⟨_, Vx.holds_append (Vx.holds_cons f6 (Vx.holds_cons (hN g6 m6) (Vx.holds_cons (hN g7 m7) (Vx.holds_nil)))) h, l5_4_3⟩
  · exact ⟨_, Vx.holds_append (Vx.holds_cons f6 (Vx.holds_cons (hN g6 m6) (Vx.holds_cons (hN g7 m7) (Vx.holds_nil)))) h, l5_4_4⟩
  · exact ⟨_, Vx.holds_append (Vx.holds_cons f6 (Vx.holds_cons (hN g6 m6) (Vx.holds_cons (hN g7 m7) (Vx.holds_nil)))) h, l5_4_5⟩
theorem e5_5 : Ends 32 5 5 := by
  intro E h6 h7
  obtain ⟨s, d6⟩ := h6
  obtain ⟨s', d7⟩ := h7
  rcases str3 d6 d7 with h | h | h
  · exact ⟨_, h, l5_5_0⟩
  · exact ⟨_, h, l5_5_1⟩
  · exact ⟨_, h, l5_5_2⟩
theorem e5_6 : Ends 32 5 6 := by
  intro E h6 h7
  exact ⟨[], Vx.holds_nil, l5_6_0⟩
theorem e6_0 : Ends 34 6 0 := by
  intro E h6 h7
  exact ⟨[], Vx.holds_nil, l6_0_0⟩
theorem e6_1 : Ends 34 6 1 := by
  intro E h6 h7
  exact ⟨[], Vx.holds_nil, l6_1_0⟩
theorem e6_2 : Ends 34 6 2 := by
  intro E h6 h7
  exact ⟨[], Vx.holds_nil, l6_2_0⟩
theorem e6_3 : Ends 34 6 3 := by
  intro E h6 h7
  exact ⟨[], Vx.holds_nil, l6_3_0⟩
theorem e6_4 : Ends 32 6 4 := by
  intro E h6 h7
  exact ⟨[], Vx.holds_nil, l6_4_0⟩
theorem e6_5 : Ends 32 6 5 := by
  intro E h6 h7
  exact ⟨[], Vx.holds_nil, l6_5_0⟩
theorem e6_6 : Ends 32 6 6 := by
  intro E h6 h7
  exact ⟨[], Vx.holds_nil, l6_6_0⟩

/-! ### The start -/
noncomputable def hBase (fs : Vx.Facts) : Vx.Heap := Vx.T.set (.facts fs) (Vx.startH GL 6) Vx.fplace
theorem setF_eq (fs : Vx.Facts) (k : Vx.Heap → Bool) : Vx.setF fs (Vx.startH GL 6) k = k (hBase fs) := by
  have e : Vx.T.get .gone (Vx.startH GL 6) Vx.fplace = .gone := by kernel_rfl
  have e2 : Nat.ble (Vx.flr (Vx.startH GL 6)) Vx.fplace = true := by kernel_rfl
  unfold Vx.setF
  rw [e]
  show Vx.bc (Nat.ble (Vx.flr (Vx.startH GL 6)) Vx.fplace) (Vx.T.setK (.facts fs) (Vx.startH GL 6) Vx.fplace k) false = _
  rw [e2, Vx.T.setK_eq]; rfl
theorem base_ok {E : Vx.Env} {w : World} {fs : Vx.Facts} (hr : Vx.HR E (Vx.startH GL 6) 28 w) (hf : Vx.Holds E fs) : Vx.HR E (hBase fs) 28 w ∧ (∀ k, ¬ Vx.fp E (hBase fs) k) ∧ Vx.flr (hBase fs) = 6 := by
  have he : Vx.setF fs (Vx.startH GL 6) (fun h => @decide (h = hBase fs) (Classical.propDecidable _)) = true := by
    rw [setF_eq]; exact @decide_eq_true _ (Classical.propDecidable _) rfl
  obtain ⟨h1, k1, hr1, fk⟩ := Vx.setF_ok he hr hf
  obtain rfl := @of_decide_eq_true _ (Classical.propDecidable _) k1
  have z := Vx.startH_zero GL 6
  have fl : Vx.flr (Vx.startH GL 6) = 6 := by unfold Vx.flr; rw [z]
  refine ⟨hr1, ?_, fk.flr.trans fl⟩
  rintro k ⟨i, L, a1, a2, _, _⟩
  rw [fk.flr, fl] at a1
  rw [fk.live] at a2
  cases i with
  | zero => omega
  | succ i =>
    rcases Vx.startH_get GL 6 i with h | ⟨p, hp, e, h⟩
    · rw [h] at a2; cases a2
    · obtain rfl : p = (4, Vx.tabAVs 20 8) := by simpa [GL] using hp
      dsimp only at e
      omega
def Rounds (a i j : Nat) : Prop := first a i j = true ∧ (∀ k, k < 19 → round a i j k = true) ∧ (round a i j 19 = true ∨ round2 a i j 19 = true) ∧ Ends a i j
theorem law_ij {a i j : Nat} (H : Rounds a i j) {E : Vx.Env} {ARGS : Array Value} {w : World} (hr : Vx.HR E (Vx.startH GL 6) 28 w) (hf : Vx.Holds E (fs i 6 ++ fs j 7)) (ra : Vx.RvL E [Vx.formAV i 6, Vx.formAV j 7] ARGS.toList) (h6 : symIs E i 6) (h7 : symIs E j 7) :
    Calls Tryz.prog 4 ARGS w fun e w' => e = .returned (.bool true) ∧ Below w.heap.size w w' := by
  obtain ⟨more, hm, hl⟩ := H.2.2.2 E h6 h7
  obtain ⟨calls, draws, hcalls, hdraws, h19⟩ : ∃ (calls : Vx.CallF) (draws : Vx.DrawF), Vx.CallOK Tryz.prog calls ∧ Vx.DrawOK Tryz.prog draws ∧ Vx.roundB Tryz.prog calls Vx.XT draws Tryz.f4.ntmps cl (hBase (fs i 6 ++ fs j 7)) (cans a i j 19) (Vx.atB 6 28 (cans a i j 20)) (Vx.retT Tryz.prog Tryz.f4) = true := by
    rcases H.2.2.1 with h | h
    · unfold round roundJ at h
      rw [setF_eq] at h
      exact ⟨_, _, Vx.run_ok SL_ok 40, DR_ok, h⟩
    · unfold round2 at h
      rw [setF_eq] at h
      exact ⟨_, _, Vx.run_ok SL2_ok 40, DR2_ok, h⟩
  have b0 := base_ok hr hf
  have b1 := base_ok hr (Vx.holds_append hm hf)
  have h1 := H.1
  unfold first firstJ at h1
  rw [setF_eq] at h1
  unfold last roundJ at hl
  rw [setF_eq] at hl
  refine lawJ2 (Vx.run_ok SL_ok 40) Vx.XT_ok DR_ok (calls := fun k => if k = 19 then calls else Vx.run SL 40) (draws := fun k => if k = 19 then draws else DR) (fun k => by split; exact hcalls; exact Vx.run_ok SL_ok 40) (fun k => by split; exact hdraws; exact DR_ok) Tryz.func4 hb hc hn (h0 := hBase (fs i 6 ++ fs j 7)) (h0s := fun k => if k < 20 then hBase (fs i 6 ++ fs j 7) else hBase (more ++ (fs i 6 ++ fs j 7))) (K := 20) (cans := cans a i j) ra (by show 2 ≤ _; exact of_decide_eq_true (by kernel_rfl)) (by omega : 1 ≤ 6) b0.1 b0.2.1 b0.2.2 (fun k => ?_) h1 (fun k hk => ?_) ?_
  · by_cases hk : k < 20
    · rw [if_pos hk]; exact b0
    · rw [if_neg hk]; exact b1
  · rw [if_pos hk]
    by_cases h9 : k = 19
    · subst h9
      rw [if_pos rfl, if_pos rfl]
      exact h19
    · rw [if_neg h9, if_neg h9]
      have := H.2.1 k (by omega)
      unfold round roundJ at this
      rw [setF_eq] at this
      exact this
  · rw [if_neg (by omega), if_neg (by omega), if_neg (by omega)]
    exact hl
theorem q0_0 : Rounds 36 0 0 := ⟨f0_0, fun k hk => (show Vx.AllFrom (fun k => round 36 0 0 k = true) 0 19 from ⟨r0_0_0, r0_0_1, r0_0_2, r0_0_3, r0_0_4, r0_0_5, r0_0_6, r0_0_7, r0_0_8, r0_0_9, r0_0_10, r0_0_11, r0_0_12, r0_0_13, r0_0_14, r0_0_15, r0_0_16, r0_0_17, r0_0_18, trivial⟩).get k (Nat.zero_le _) (by omega), .inl r0_0_19, e0_0⟩
theorem q0_1 : Rounds 36 0 1 := ⟨f0_1, fun k hk => (show Vx.AllFrom (fun k => round 36 0 1 k = true) 0 19 from ⟨r0_1_0, r0_1_1, r0_1_2, r0_1_3, r0_1_4, r0_1_5, r0_1_6, r0_1_7, r0_1_8, r0_1_9, r0_1_10, r0_1_11, r0_1_12, r0_1_13, r0_1_14, r0_1_15, r0_1_16, r0_1_17, r0_1_18, trivial⟩).get k (Nat.zero_le _) (by omega), .inl r0_1_19, e0_1⟩
theorem q0_2 : Rounds 36 0 2 := ⟨f0_2, fun k hk => (show Vx.AllFrom (fun k => round 36 0 2 k = true) 0 19 from ⟨r0_2_0, r0_2_1, r0_2_2, r0_2_3, r0_2_4, r0_2_5, r0_2_6, r0_2_7, r0_2_8, r0_2_9, r0_2_10, r0_2_11, r0_2_12, r0_2_13, r0_2_14, r0_2_15, r0_2_16, r0_2_17, r0_2_18, trivial⟩).get k (Nat.zero_le _) (by omega), .inl r0_2_19, e0_2⟩
theorem q0_3 : Rounds 36 0 3 := ⟨f0_3, fun k hk => (show Vx.AllFrom (fun k => round 36 0 3 k = true) 0 19 from ⟨r0_3_0, r0_3_1, r0_3_2, r0_3_3, r0_3_4, r0_3_5, r0_3_6, r0_3_7, r0_3_8, r0_3_9, r0_3_10, r0_3_11, r0_3_12, r0_3_13, r0_3_14, r0_3_15, r0_3_16, r0_3_17, r0_3_18, trivial⟩).get k (Nat.zero_le _) (by omega), .inl r0_3_19, e0_3⟩
theorem q0_4 : Rounds 34 0 4 := ⟨f0_4, fun k hk => (show Vx.AllFrom (fun k => round 34 0 4 k = true) 0 19 from ⟨r0_4_0, r0_4_1, r0_4_2, r0_4_3, r0_4_4, r0_4_5, r0_4_6, r0_4_7, r0_4_8, r0_4_9, r0_4_10, r0_4_11, r0_4_12, r0_4_13, r0_4_14, r0_4_15, r0_4_16, r0_4_17, r0_4_18, trivial⟩).get k (Nat.zero_le _) (by omega), .inl r0_4_19, e0_4⟩
theorem q0_5 : Rounds 34 0 5 := ⟨f0_5, fun k hk => (show Vx.AllFrom (fun k => round 34 0 5 k = true) 0 19 from ⟨r0_5_0, r0_5_1, r0_5_2, r0_5_3, r0_5_4, r0_5_5, r0_5_6, r0_5_7, r0_5_8, r0_5_9, r0_5_10, r0_5_11, r0_5_12, r0_5_13, r0_5_14, r0_5_15, r0_5_16, r0_5_17, r0_5_18, trivial⟩).get k (Nat.zero_le _) (by omega), .inl r0_5_19, e0_5⟩
theorem q0_6 : Rounds 34 0 6 := ⟨f0_6, fun k hk => (show Vx.AllFrom (fun k => round 34 0 6 k = true) 0 19 from ⟨r0_6_0, r0_6_1, r0_6_2, r0_6_3, r0_6_4, r0_6_5, r0_6_6, r0_6_7, r0_6_8, r0_6_9, r0_6_10, r0_6_11, r0_6_12, r0_6_13, r0_6_14, r0_6_15, r0_6_16, r0_6_17, r0_6_18, trivial⟩).get k (Nat.zero_le _) (by omega), .inl r0_6_19, e0_6⟩
theorem q1_0 : Rounds 36 1 0 := ⟨f1_0, fun k hk => (show Vx.AllFrom (fun k => round 36 1 0 k = true) 0 19 from ⟨r1_0_0, r1_0_1, r1_0_2, r1_0_3, r1_0_4, r1_0_5, r1_0_6, r1_0_7, r1_0_8, r1_0_9, r1_0_10, r1_0_11, r1_0_12, r1_0_13, r1_0_14, r1_0_15, r1_0_16, r1_0_17, r1_0_18, trivial⟩).get k (Nat.zero_le _) (by omega), .inl r1_0_19, e1_0⟩
theorem q1_1 : Rounds 36 1 1 := ⟨f1_1, fun k hk => (show Vx.AllFrom (fun k => round 36 1 1 k = true) 0 19 from ⟨r1_1_0, r1_1_1, r1_1_2, r1_1_3, r1_1_4, r1_1_5, r1_1_6, r1_1_7, r1_1_8, r1_1_9, r1_1_10, r1_1_11, r1_1_12, r1_1_13, r1_1_14, r1_1_15, r1_1_16, r1_1_17, r1_1_18, trivial⟩).get k (Nat.zero_le _) (by omega), .inl r1_1_19, e1_1⟩
theorem q1_2 : Rounds 36 1 2 := ⟨f1_2, fun k hk => (show Vx.AllFrom (fun k => round 36 1 2 k = true) 0 19 from ⟨r1_2_0, r1_2_1, r1_2_2, r1_2_3, r1_2_4, r1_2_5, r1_2_6, r1_2_7, r1_2_8, r1_2_9, r1_2_10, r1_2_11, r1_2_12, r1_2_13, r1_2_14, r1_2_15, r1_2_16, r1_2_17, r1_2_18, trivial⟩).get k (Nat.zero_le _) (by omega), .inl r1_2_19, e1_2⟩
theorem q1_3 : Rounds 36 1 3 := ⟨f1_3, fun k hk => (show Vx.AllFrom (fun k => round 36 1 3 k = true) 0 19 from ⟨r1_3_0, r1_3_1, r1_3_2, r1_3_3, r1_3_4, r1_3_5, r1_3_6, r1_3_7, r1_3_8, r1_3_9, r1_3_10, r1_3_11, r1_3_12, r1_3_13, r1_3_14, r1_3_15, r1_3_16, r1_3_17, r1_3_18, trivial⟩).get k (Nat.zero_le _) (by omega), .inl r1_3_19, e1_3⟩
theorem q1_4 : Rounds 34 1 4 := ⟨f1_4, fun k hk => (show Vx.AllFrom (fun k => round 34 1 4 k = true) 0 19 from ⟨r1_4_0, r1_4_1, r1_4_2, r1_4_3, r1_4_4, r1_4_5, r1_4_6, r1_4_7, r1_4_8, r1_4_9, r1_4_10, r1_4_11, r1_4_12, r1_4_13, r1_4_14, r1_4_15, r1_4_16, r1_4_17, r1_4_18, trivial⟩).get k (Nat.zero_le _) (by omega), .inl r1_4_19, e1_4⟩
theorem q1_5 : Rounds 34 1 5 := ⟨f1_5, fun k hk => (show Vx.AllFrom (fun k => round 34 1 5 k = true) 0 19 from ⟨r1_5_0, r1_5_1, r1_5_2, r1_5_3, r1_5_4, r1_5_5, r1_5_6, r1_5_7, r1_5_8, r1_5_9, r1_5_10, r1_5_11, r1_5_12, r1_5_13, r1_5_14, r1_5_15, r1_5_16, r1_5_17, r1_5_18, trivial⟩).get k (Nat.zero_le _) (by omega), .inl r1_5_19, e1_5⟩
theorem q1_6 : Rounds 34 1 6 := ⟨f1_6, fun k hk => (show Vx.AllFrom (fun k => round 34 1 6 k = true) 0 19 from ⟨r1_6_0, r1_6_1, r1_6_2, r1_6_3, r1_6_4, r1_6_5, r1_6_6, r1_6_7, r1_6_8, r1_6_9, r1_6_10, r1_6_11, r1_6_12, r1_6_13, r1_6_14, r1_6_15, r1_6_16, r1_6_17, r1_6_18, trivial⟩).get k (Nat.zero_le _) (by omega), .inl r1_6_19, e1_6⟩
theorem q2_0 : Rounds 36 2 0 := ⟨f2_0, fun k hk => (show Vx.AllFrom (fun k => round 36 2 0 k = true) 0 19 from ⟨r2_0_0, r2_0_1, r2_0_2, r2_0_3, r2_0_4, r2_0_5, r2_0_6, r2_0_7, r2_0_8, r2_0_9, r2_0_10, r2_0_11, r2_0_12, r2_0_13, r2_0_14, r2_0_15, r2_0_16, r2_0_17, r2_0_18, trivial⟩).get k (Nat.zero_le _) (by omega), .inl r2_0_19, e2_0⟩
theorem q2_1 : Rounds 36 2 1 := ⟨f2_1, fun k hk => (show Vx.AllFrom (fun k => round 36 2 1 k = true) 0 19 from ⟨r2_1_0, r2_1_1, r2_1_2, r2_1_3, r2_1_4, r2_1_5, r2_1_6, r2_1_7, r2_1_8, r2_1_9, r2_1_10, r2_1_11, r2_1_12, r2_1_13, r2_1_14, r2_1_15, r2_1_16, r2_1_17, r2_1_18, trivial⟩).get k (Nat.zero_le _) (by omega), .inl r2_1_19, e2_1⟩
theorem q2_2 : Rounds 36 2 2 := ⟨f2_2, fun k hk => (show Vx.AllFrom (fun k => round 36 2 2 k = true) 0 19 from ⟨r2_2_0, r2_2_1, r2_2_2, r2_2_3, r2_2_4, r2_2_5, r2_2_6, r2_2_7, r2_2_8, r2_2_9, r2_2_10, r2_2_11, r2_2_12, r2_2_13, r2_2_14, r2_2_15, r2_2_16, r2_2_17, r2_2_18, trivial⟩).get k (Nat.zero_le _) (by omega), .inl r2_2_19, e2_2⟩
theorem q2_3 : Rounds 36 2 3 := ⟨f2_3, fun k hk => (show Vx.AllFrom (fun k => round 36 2 3 k = true) 0 19 from ⟨r2_3_0, r2_3_1, r2_3_2, r2_3_3, r2_3_4, r2_3_5, r2_3_6, r2_3_7, r2_3_8, r2_3_9, r2_3_10, r2_3_11, r2_3_12, r2_3_13, r2_3_14, r2_3_15, r2_3_16, r2_3_17, r2_3_18, trivial⟩).get k (Nat.zero_le _) (by omega), .inl r2_3_19, e2_3⟩
theorem q2_4 : Rounds 34 2 4 := ⟨f2_4, fun k hk => (show Vx.AllFrom (fun k => round 34 2 4 k = true) 0 19 from ⟨r2_4_0, r2_4_1, r2_4_2, r2_4_3, r2_4_4, r2_4_5, r2_4_6, r2_4_7, r2_4_8, r2_4_9, r2_4_10, r2_4_11, r2_4_12, r2_4_13, r2_4_14, r2_4_15, r2_4_16, r2_4_17, r2_4_18, trivial⟩).get k (Nat.zero_le _) (by omega), .inl r2_4_19, e2_4⟩
theorem q2_5 : Rounds 34 2 5 := ⟨f2_5, fun k hk => (show Vx.AllFrom (fun k => round 34 2 5 k = true) 0 19 from ⟨r2_5_0, r2_5_1, r2_5_2, r2_5_3, r2_5_4, r2_5_5, r2_5_6, r2_5_7, r2_5_8, r2_5_9, r2_5_10, r2_5_11, r2_5_12, r2_5_13, r2_5_14, r2_5_15, r2_5_16, r2_5_17, r2_5_18, trivial⟩).get k (Nat.zero_le _) (by omega), .inl r2_5_19, e2_5⟩
theorem q2_6 : Rounds 34 2 6 := ⟨f2_6, fun k hk => (show Vx.AllFrom (fun k => round 34 2 6 k = true) 0 19 from ⟨r2_6_0, r2_6_1, r2_6_2, r2_6_3, r2_6_4, r2_6_5, r2_6_6, r2_6_7, r2_6_8, r2_6_9, r2_6_10, r2_6_11, r2_6_12, r2_6_13, r2_6_14, r2_6_15, r2_6_16, r2_6_17, r2_6_18, trivial⟩).get k (Nat.zero_le _) (by omega), .inr r2_6_19, e2_6⟩
theorem q3_0 : Rounds 36 3 0 := ⟨f3_0, fun k hk => (show Vx.AllFrom (fun k => round 36 3 0 k = true) 0 19 from ⟨r3_0_0, r3_0_1, r3_0_2, r3_0_3, r3_0_4, r3_0_5, r3_0_6, r3_0_7, r3_0_8, r3_0_9, r3_0_10, r3_0_11, r3_0_12, r3_0_13, r3_0_14, r3_0_15, r3_0_16, r3_0_17, r3_0_18, trivial⟩).get k (Nat.zero_le _) (by omega), .inl r3_0_19, e3_0⟩
theorem q3_1 : Rounds 36 3 1 := ⟨f3_1, fun k hk => (show Vx.AllFrom (fun k => round 36 3 1 k = true) 0 19 from ⟨r3_1_0, r3_1_1, r3_1_2, r3_1_3, r3_1_4, r3_1_5, r3_1_6, r3_1_7, r3_1_8, r3_1_9, r3_1_10, r3_1_11, r3_1_12, r3_1_13, r3_1_14, r3_1_15, r3_1_16, r3_1_17, r3_1_18, trivial⟩).get k (Nat.zero_le _) (by omega), .inl r3_1_19, e3_1⟩
theorem q3_2 : Rounds 36 3 2 := ⟨f3_2, fun k hk => (show Vx.AllFrom (fun k => round 36 3 2 k = true) 0 19 from ⟨r3_2_0, r3_2_1, r3_2_2, r3_2_3, r3_2_4, r3_2_5, r3_2_6, r3_2_7, r3_2_8, r3_2_9, r3_2_10, r3_2_11, r3_2_12, r3_2_13, r3_2_14, r3_2_15, r3_2_16, r3_2_17, r3_2_18, trivial⟩).get k (Nat.zero_le _) (by omega), .inl r3_2_19, e3_2⟩
theorem q3_3 : Rounds 36 3 3 := ⟨f3_3, fun k hk => (show Vx.AllFrom (fun k => round 36 3 3 k = true) 0 19 from ⟨r3_3_0, r3_3_1, r3_3_2, r3_3_3, r3_3_4, r3_3_5, r3_3_6, r3_3_7, r3_3_8, r3_3_9, r3_3_10, r3_3_11, r3_3_12, r3_3_13, r3_3_14, r3_3_15, r3_3_16, r3_3_17, r3_3_18, trivial⟩).get k (Nat.zero_le _) (by omega), .inl r3_3_19, e3_3⟩
theorem q3_4 : Rounds 34 3 4 := ⟨f3_4, fun k hk => (show Vx.AllFrom (fun k => round 34 3 4 k = true) 0 19 from ⟨r3_4_0, r3_4_1, r3_4_2, r3_4_3, r3_4_4, r3_4_5, r3_4_6, r3_4_7, r3_4_8, r3_4_9, r3_4_10, r3_4_11, r3_4_12, r3_4_13, r3_4_14, r3_4_15, r3_4_16, r3_4_17, r3_4_18, trivial⟩).get k (Nat.zero_le _) (by omega), .inl r3_4_19, e3_4⟩
theorem q3_5 : Rounds 34 3 5 := ⟨f3_5, fun k hk => (show Vx.AllFrom (fun k => round 34 3 5 k = true) 0 19 from ⟨r3_5_0, r3_5_1, r3_5_2, r3_5_3, r3_5_4, r3_5_5, r3_5_6, r3_5_7, r3_5_8, r3_5_9, r3_5_10, r3_5_11, r3_5_12, r3_5_13, r3_5_14, r3_5_15, r3_5_16, r3_5_17, r3_5_18, trivial⟩).get k (Nat.zero_le _) (by omega), .inl r3_5_19, e3_5⟩
theorem q3_6 : Rounds 34 3 6 := ⟨f3_6, fun k hk => (show Vx.AllFrom (fun k => round 34 3 6 k = true) 0 19 from ⟨r3_6_0, r3_6_1, r3_6_2, r3_6_3, r3_6_4, r3_6_5, r3_6_6, r3_6_7, r3_6_8, r3_6_9, r3_6_10, r3_6_11, r3_6_12, r3_6_13, r3_6_14, r3_6_15, r3_6_16, r3_6_17, r3_6_18, trivial⟩).get k (Nat.zero_le _) (by omega), .inr r3_6_19, e3_6⟩
theorem q4_0 : Rounds 34 4 0 := ⟨f4_0, fun k hk => (show Vx.AllFrom (fun k => round 34 4 0 k = true) 0 19 from ⟨r4_0_0, r4_0_1, r4_0_2, r4_0_3, r4_0_4, r4_0_5, r4_0_6, r4_0_7, r4_0_8, r4_0_9, r4_0_10, r4_0_11, r4_0_12, r4_0_13, r4_0_14, r4_0_15, r4_0_16, r4_0_17, r4_0_18, trivial⟩).get k (Nat.zero_le _) (by omega), .inl r4_0_19, e4_0⟩
theorem q4_1 : Rounds 34 4 1 := ⟨f4_1, fun k hk => (show Vx.AllFrom (fun k => round 34 4 1 k = true) 0 19 from ⟨r4_1_0, r4_1_1, r4_1_2, r4_1_3, r4_1_4, r4_1_5, r4_1_6, r4_1_7, r4_1_8, r4_1_9, r4_1_10, r4_1_11, r4_1_12, r4_1_13, r4_1_14, r4_1_15, r4_1_16, r4_1_17, r4_1_18, trivial⟩).get k (Nat.zero_le _) (by omega), .inl r4_1_19, e4_1⟩
theorem q4_2 : Rounds 34 4 2 := ⟨f4_2, fun k hk => (show Vx.AllFrom (fun k => round 34 4 2 k = true) 0 19 from ⟨r4_2_0, r4_2_1, r4_2_2, r4_2_3, r4_2_4, r4_2_5, r4_2_6, r4_2_7, r4_2_8, r4_2_9, r4_2_10, r4_2_11, r4_2_12, r4_2_13, r4_2_14, r4_2_15, r4_2_16, r4_2_17, r4_2_18, trivial⟩).get k (Nat.zero_le _) (by omega), .inl r4_2_19, e4_2⟩
theorem q4_3 : Rounds 34 4 3 := ⟨f4_3, fun k hk => (show Vx.AllFrom (fun k => round 34 4 3 k = true) 0 19 from ⟨r4_3_0, r4_3_1, r4_3_2, r4_3_3, r4_3_4, r4_3_5, r4_3_6, r4_3_7, r4_3_8, r4_3_9, r4_3_10, r4_3_11, r4_3_12, r4_3_13, r4_3_14, r4_3_15, r4_3_16, r4_3_17, r4_3_18, trivial⟩).get k (Nat.zero_le _) (by omega), .inl r4_3_19, e4_3⟩
theorem q4_4 : Rounds 32 4 4 := ⟨f4_4, fun k hk => (show Vx.AllFrom (fun k => round 32 4 4 k = true) 0 19 from ⟨r4_4_0, r4_4_1, r4_4_2, r4_4_3, r4_4_4, r4_4_5, r4_4_6, r4_4_7, r4_4_8, r4_4_9, r4_4_10, r4_4_11, r4_4_12, r4_4_13, r4_4_14, r4_4_15, r4_4_16, r4_4_17, r4_4_18, trivial⟩).get k (Nat.zero_le _) (by omega), .inl r4_4_19, e4_4⟩
theorem q4_5 : Rounds 32 4 5 := ⟨f4_5, fun k hk => (show Vx.AllFrom (fun k => round 32 4 5 k = true) 0 19 from ⟨r4_5_0, r4_5_1, r4_5_2, r4_5_3, r4_5_4, r4_5_5, r4_5_6, r4_5_7, r4_5_8, r4_5_9, r4_5_10, r4_5_11, r4_5_12, r4_5_13, r4_5_14, r4_5_15, r4_5_16, r4_5_17, r4_5_18, trivial⟩).get k (Nat.zero_le _) (by omega), .inl r4_5_19, e4_5⟩
theorem q4_6 : Rounds 32 4 6 := ⟨f4_6, fun k hk => (show Vx.AllFrom (fun k => round 32 4 6 k = true) 0 19 from ⟨r4_6_0, r4_6_1, r4_6_2, r4_6_3, r4_6_4, r4_6_5, r4_6_6, r4_6_7, r4_6_8, r4_6_9, r4_6_10, r4_6_11, r4_6_12, r4_6_13, r4_6_14, r4_6_15, r4_6_16, r4_6_17, r4_6_18, trivial⟩).get k (Nat.zero_le _) (by omega), .inr r4_6_19, e4_6⟩
theorem q5_0 : Rounds 34 5 0 := ⟨f5_0, fun k hk => (show Vx.AllFrom (fun k => round 34 5 0 k = true) 0 19 from ⟨r5_0_0, r5_0_1, r5_0_2, r5_0_3, r5_0_4, r5_0_5, r5_0_6, r5_0_7, r5_0_8, r5_0_9, r5_0_10, r5_0_11, r5_0_12, r5_0_13, r5_0_14, r5_0_15, r5_0_16, r5_0_17, r5_0_18, trivial⟩).get k (Nat.zero_le _) (by omega), .inl r5_0_19, e5_0⟩
theorem q5_1 : Rounds 34 5 1 := ⟨f5_1, fun k hk => (show Vx.AllFrom (fun k => round 34 5 1 k = true) 0 19 from ⟨r5_1_0, r5_1_1, r5_1_2, r5_1_3, r5_1_4, r5_1_5, r5_1_6, r5_1_7, r5_1_8, r5_1_9, r5_1_10, r5_1_11, r5_1_12, r5_1_13, r5_1_14, r5_1_15, r5_1_16, r5_1_17, r5_1_18, trivial⟩).get k (Nat.zero_le _) (by omega), .inl r5_1_19, e5_1⟩
theorem q5_2 : Rounds 34 5 2 := ⟨f5_2, fun k hk => (show Vx.AllFrom (fun k => round 34 5 2 k = true) 0 19 from ⟨r5_2_0, r5_2_1, r5_2_2, r5_2_3, r5_2_4, r5_2_5, r5_2_6, r5_2_7, r5_2_8, r5_2_9, r5_2_10, r5_2_11, r5_2_12, r5_2_13, r5_2_14, r5_2_15, r5_2_16, r5_2_17, r5_2_18, trivial⟩).get k (Nat.zero_le _) (by omega), .inl r5_2_19, e5_2⟩
theorem q5_3 : Rounds 34 5 3 := ⟨f5_3, fun k hk => (show Vx.AllFrom (fun k => round 34 5 3 k = true) 0 19 from ⟨r5_3_0, r5_3_1, r5_3_2, r5_3_3, r5_3_4, r5_3_5, r5_3_6, r5_3_7, r5_3_8, r5_3_9, r5_3_10, r5_3_11, r5_3_12, r5_3_13, r5_3_14, r5_3_15, r5_3_16, r5_3_17, r5_3_18, trivial⟩).get k (Nat.zero_le _) (by omega), .inl r5_3_19, e5_3⟩
theorem q5_4 : Rounds 32 5 4 := ⟨f5_4, fun k hk => (show Vx.AllFrom (fun k => round 32 5 4 k = true) 0 19 from ⟨r5_4_0, r5_4_1, r5_4_2, r5_4_3, r5_4_4, r5_4_5, r5_4_6, r5_4_7, r5_4_8, r5_4_9, r5_4_10, r5_4_11, r5_4_12, r5_4_13, r5_4_14, r5_4_15, r5_4_16, r5_4_17, r5_4_18, trivial⟩).get k (Nat.zero_le _) (by omega), .inl r5_4_19, e5_4⟩
theorem q5_5 : Rounds 32 5 5 := ⟨f5_5, fun k hk => (show Vx.AllFrom (fun k => round 32 5 5 k = true) 0 19 from ⟨r5_5_0, r5_5_1, r5_5_2, r5_5_3, r5_5_4, r5_5_5, r5_5_6, r5_5_7, r5_5_8, r5_5_9, r5_5_10, r5_5_11, r5_5_12, r5_5_13, r5_5_14, r5_5_15, r5_5_16, r5_5_17, r5_5_18, trivial⟩).get k (Nat.zero_le _) (by omega), .inl r5_5_19, e5_5⟩
theorem q5_6 : Rounds 32 5 6 := ⟨f5_6, fun k hk => (show Vx.AllFrom (fun k => round 32 5 6 k = true) 0 19 from ⟨r5_6_0, r5_6_1, r5_6_2, r5_6_3, r5_6_4, r5_6_5, r5_6_6, r5_6_7, r5_6_8, r5_6_9, r5_6_10, r5_6_11, r5_6_12, r5_6_13, r5_6_14, r5_6_15, r5_6_16, r5_6_17, r5_6_18, trivial⟩).get k (Nat.zero_le _) (by omega), .inr r5_6_19, e5_6⟩
theorem q6_0 : Rounds 34 6 0 := ⟨f6_0, fun k hk => (show Vx.AllFrom (fun k => round 34 6 0 k = true) 0 19 from ⟨r6_0_0, r6_0_1, r6_0_2, r6_0_3, r6_0_4, r6_0_5, r6_0_6, r6_0_7, r6_0_8, r6_0_9, r6_0_10, r6_0_11, r6_0_12, r6_0_13, r6_0_14, r6_0_15, r6_0_16, r6_0_17, r6_0_18, trivial⟩).get k (Nat.zero_le _) (by omega), .inl r6_0_19, e6_0⟩
theorem q6_1 : Rounds 34 6 1 := ⟨f6_1, fun k hk => (show Vx.AllFrom (fun k => round 34 6 1 k = true) 0 19 from ⟨r6_1_0, r6_1_1, r6_1_2, r6_1_3, r6_1_4, r6_1_5, r6_1_6, r6_1_7, r6_1_8, r6_1_9, r6_1_10, r6_1_11, r6_1_12, r6_1_13, r6_1_14, r6_1_15, r6_1_16, r6_1_17, r6_1_18, trivial⟩).get k (Nat.zero_le _) (by omega), .inl r6_1_19, e6_1⟩
theorem q6_2 : Rounds 34 6 2 := ⟨f6_2, fun k hk => (show Vx.AllFrom (fun k => round 34 6 2 k = true) 0 19 from ⟨r6_2_0, r6_2_1, r6_2_2, r6_2_3, r6_2_4, r6_2_5, r6_2_6, r6_2_7, r6_2_8, r6_2_9, r6_2_10, r6_2_11, r6_2_12, r6_2_13, r6_2_14, r6_2_15, r6_2_16, r6_2_17, r6_2_18, trivial⟩).get k (Nat.zero_le _) (by omega), .inl r6_2_19, e6_2⟩
theorem q6_3 : Rounds 34 6 3 := ⟨f6_3, fun k hk => (show Vx.AllFrom (fun k => round 34 6 3 k = true) 0 19 from ⟨r6_3_0, r6_3_1, r6_3_2, r6_3_3, r6_3_4, r6_3_5, r6_3_6, r6_3_7, r6_3_8, r6_3_9, r6_3_10, r6_3_11, r6_3_12, r6_3_13, r6_3_14, r6_3_15, r6_3_16, r6_3_17, r6_3_18, trivial⟩).get k (Nat.zero_le _) (by omega), .inl r6_3_19, e6_3⟩
theorem q6_4 : Rounds 32 6 4 := ⟨f6_4, fun k hk => (show Vx.AllFrom (fun k => round 32 6 4 k = true) 0 19 from ⟨r6_4_0, r6_4_1, r6_4_2, r6_4_3, r6_4_4, r6_4_5, r6_4_6, r6_4_7, r6_4_8, r6_4_9, r6_4_10, r6_4_11, r6_4_12, r6_4_13, r6_4_14, r6_4_15, r6_4_16, r6_4_17, r6_4_18, trivial⟩).get k (Nat.zero_le _) (by omega), .inl r6_4_19, e6_4⟩
theorem q6_5 : Rounds 32 6 5 := ⟨f6_5, fun k hk => (show Vx.AllFrom (fun k => round 32 6 5 k = true) 0 19 from ⟨r6_5_0, r6_5_1, r6_5_2, r6_5_3, r6_5_4, r6_5_5, r6_5_6, r6_5_7, r6_5_8, r6_5_9, r6_5_10, r6_5_11, r6_5_12, r6_5_13, r6_5_14, r6_5_15, r6_5_16, r6_5_17, r6_5_18, trivial⟩).get k (Nat.zero_le _) (by omega), .inl r6_5_19, e6_5⟩
theorem q6_6 : Rounds 32 6 6 := ⟨f6_6, fun k hk => (show Vx.AllFrom (fun k => round 32 6 6 k = true) 0 19 from ⟨r6_6_0, r6_6_1, r6_6_2, r6_6_3, r6_6_4, r6_6_5, r6_6_6, r6_6_7, r6_6_8, r6_6_9, r6_6_10, r6_6_11, r6_6_12, r6_6_13, r6_6_14, r6_6_15, r6_6_16, r6_6_17, r6_6_18, trivial⟩).get k (Nat.zero_le _) (by omega), .inr r6_6_19, e6_6⟩
theorem pairs (i j : Nat) (hi : i < 7) (hj : j < 7) : ∃ a, Rounds a i j :=
  match i, j, hi, hj with
  | 0, 0, _, _ => ⟨_, q0_0⟩
  | 0, 1, _, _ => ⟨_, q0_1⟩
  | 0, 2, _, _ => ⟨_, q0_2⟩
  | 0, 3, _, _ => ⟨_, q0_3⟩
  | 0, 4, _, _ => ⟨_, q0_4⟩
  | 0, 5, _, _ => ⟨_, q0_5⟩
  | 0, 6, _, _ => ⟨_, q0_6⟩
  | 1, 0, _, _ => ⟨_, q1_0⟩
  | 1, 1, _, _ => ⟨_, q1_1⟩
  | 1, 2, _, _ => ⟨_, q1_2⟩
  | 1, 3, _, _ => ⟨_, q1_3⟩
  | 1, 4, _, _ => ⟨_, q1_4⟩
  | 1, 5, _, _ => ⟨_, q1_5⟩
  | 1, 6, _, _ => ⟨_, q1_6⟩
  | 2, 0, _, _ => ⟨_, q2_0⟩
  | 2, 1, _, _ => ⟨_, q2_1⟩
  | 2, 2, _, _ => ⟨_, q2_2⟩
  | 2, 3, _, _ => ⟨_, q2_3⟩
  | 2, 4, _, _ => ⟨_, q2_4⟩
  | 2, 5, _, _ => ⟨_, q2_5⟩
  | 2, 6, _, _ => ⟨_, q2_6⟩
  | 3, 0, _, _ => ⟨_, q3_0⟩
  | 3, 1, _, _ => ⟨_, q3_1⟩
  | 3, 2, _, _ => ⟨_, q3_2⟩
  | 3, 3, _, _ => ⟨_, q3_3⟩
  | 3, 4, _, _ => ⟨_, q3_4⟩
  | 3, 5, _, _ => ⟨_, q3_5⟩
  | 3, 6, _, _ => ⟨_, q3_6⟩
  | 4, 0, _, _ => ⟨_, q4_0⟩
  | 4, 1, _, _ => ⟨_, q4_1⟩
  | 4, 2, _, _ => ⟨_, q4_2⟩
  | 4, 3, _, _ => ⟨_, q4_3⟩
  | 4, 4, _, _ => ⟨_, q4_4⟩
  | 4, 5, _, _ => ⟨_, q4_5⟩
  | 4, 6, _, _ => ⟨_, q4_6⟩
  | 5, 0, _, _ => ⟨_, q5_0⟩
  | 5, 1, _, _ => ⟨_, q5_1⟩
  | 5, 2, _, _ => ⟨_, q5_2⟩
  | 5, 3, _, _ => ⟨_, q5_3⟩
  | 5, 4, _, _ => ⟨_, q5_4⟩
  | 5, 5, _, _ => ⟨_, q5_5⟩
  | 5, 6, _, _ => ⟨_, q5_6⟩
  | 6, 0, _, _ => ⟨_, q6_0⟩
  | 6, 1, _, _ => ⟨_, q6_1⟩
  | 6, 2, _, _ => ⟨_, q6_2⟩
  | 6, 3, _, _ => ⟨_, q6_3⟩
  | 6, 4, _, _ => ⟨_, q6_4⟩
  | 6, 5, _, _ => ⟨_, q6_5⟩
  | 6, 6, _, _ => ⟨_, q6_6⟩
theorem light (i j : Nat) (hi : i < 10) (hj : j < 10) (h : 6 < i ∨ 6 < j) : G i j = true :=
  match i, j, hi, hj, h with
  | 0, 7, _, _, _ => g0_7
  | 0, 8, _, _, _ => g0_8
  | 0, 9, _, _, _ => g0_9
  | 1, 7, _, _, _ => g1_7
  | 1, 8, _, _, _ => g1_8
  | 1, 9, _, _, _ => g1_9
  | 2, 7, _, _, _ => g2_7
  | 2, 8, _, _, _ => g2_8
  | 2, 9, _, _, _ => g2_9
  | 3, 7, _, _, _ => g3_7
  | 3, 8, _, _, _ => g3_8
  | 3, 9, _, _, _ => g3_9
  | 4, 7, _, _, _ => g4_7
  | 4, 8, _, _, _ => g4_8
  | 4, 9, _, _, _ => g4_9
  | 5, 7, _, _, _ => g5_7
  | 5, 8, _, _, _ => g5_8
  | 5, 9, _, _, _ => g5_9
  | 6, 7, _, _, _ => g6_7
  | 6, 8, _, _, _ => g6_8
  | 6, 9, _, _, _ => g6_9
  | 7, 0, _, _, _ => g7_0
  | 7, 1, _, _, _ => g7_1
  | 7, 2, _, _, _ => g7_2
  | 7, 3, _, _, _ => g7_3
  | 7, 4, _, _, _ => g7_4
  | 7, 5, _, _, _ => g7_5
  | 7, 6, _, _, _ => g7_6
  | 7, 7, _, _, _ => g7_7
  | 7, 8, _, _, _ => g7_8
  | 7, 9, _, _, _ => g7_9
  | 8, 0, _, _, _ => g8_0
  | 8, 1, _, _, _ => g8_1
  | 8, 2, _, _, _ => g8_2
  | 8, 3, _, _, _ => g8_3
  | 8, 4, _, _, _ => g8_4
  | 8, 5, _, _, _ => g8_5
  | 8, 6, _, _, _ => g8_6
  | 8, 7, _, _, _ => g8_7
  | 8, 8, _, _, _ => g8_8
  | 8, 9, _, _, _ => g8_9
  | 9, 0, _, _, _ => g9_0
  | 9, 1, _, _, _ => g9_1
  | 9, 2, _, _, _ => g9_2
  | 9, 3, _, _, _ => g9_3
  | 9, 4, _, _, _ => g9_4
  | 9, 5, _, _, _ => g9_5
  | 9, 6, _, _, _ => g9_6
  | 9, 7, _, _, _ => g9_7
  | 9, 8, _, _, _ => g9_8
  | 9, 9, _, _, _ => g9_9
theorem world_pos {W : World} (h : W.ShapedOpen Tryz.prog) : 0 < W.heap.size := by
  have e : ∃ z t, ((begin Tryz.prog (fun _ _ => 0) default).world.heap[0]?).bind Obj.row? = some (z, t) := by
    have e1 : (((begin Tryz.prog (fun _ _ => 0) default).world.heap[0]?).bind Obj.row?).isSome = true := by kernel_rfl
    cases h0 : ((begin Tryz.prog (fun _ _ => 0) default).world.heap[0]?).bind Obj.row? with
    | none => rw [h0] at e1; cases e1
    | some p => exact ⟨p.1, p.2, rfl⟩
  obtain ⟨z, t, e⟩ := e
  exact Vx.heap_pos h (of_decide_eq_true (by kernel_rfl)) e
/-- the table's cells, whatever they are -/
theorem table {W : World} (h : W.ShapedOpen Tryz.prog) : ∃ (arr : Array Value) (el : TypeId) (fr : Nat × Nat) (zs : List Int), W.heap[4]? = some (.cells arr el fr) ∧ arr.toList.take 20 = zs.map (Value.int .u64) ∧ zs.length = 20 ∧ ∀ z ∈ zs, 0 ≤ z ∧ z ≤ 18446744073709551615 := by
  have e : ∃ z, ((begin Tryz.prog (fun _ _ => 0) default).world.heap[4]?).bind Obj.row? = some (z, 232) ∧ z.size = 20 := by
    have e1 : (match ((begin Tryz.prog (fun _ _ => 0) default).world.heap[4]?).bind Obj.row? with | some (z, t) => Nat.beq z.size 20 && Nat.beq t 232 | none => false) = true := by kernel_rfl
    cases h0 : ((begin Tryz.prog (fun _ _ => 0) default).world.heap[4]?).bind Obj.row? with
    | none => rw [h0] at e1; cases e1
    | some p =>
      rw [h0] at e1
      obtain ⟨z, t⟩ := p
      have e1 : (Nat.beq z.size 20 && Nat.beq t 232) = true := e1
      rw [Bool.and_eq_true] at e1
      exact ⟨z, by rw [Nat.eq_of_beq_eq_true e1.2], Nat.eq_of_beq_eq_true e1.1⟩
  obtain ⟨z, e, hz⟩ := e
  obtain ⟨cs, hh, hs, hr⟩ := h.1 4 z 232 (of_decide_eq_true (by kernel_rfl)) e
  obtain ⟨ts, hts, _, hall⟩ := hr (by kernel_rfl)
  have ec : Tryz.prog.cellTypes Tryz.prog.depth 232 = some (List.replicate 20 115) := by kernel_rfl
  rw [ec] at hts
  cases hts
  have hsz : cs.size = 20 := by rw [hs, hz]
  have hc : ∀ i (hi : i < cs.size), ∃ n : Int, cs[i] = .int .u64 n ∧ 0 ≤ n ∧ n ≤ 18446744073709551615 := fun i hi => by
    obtain ⟨u, hu, hok⟩ := hall i cs[i] (by simp [hi])
    have : u = 115 := by
      have h1 := List.mem_of_getElem? hu
      exact (List.mem_replicate.1 h1).2
    subst this
    unfold Cell.ok at hok
    rw [Tryz.underlying115] at hok
    cases hv : cs[i] <;> rw [hv] at hok <;> simp at hok
    case int k' n =>
      obtain ⟨rfl, hn⟩ := hok
      exact ⟨n, rfl, hn⟩
  have hl : ∀ (l : List Value), (∀ v ∈ l, ∃ n : Int, v = .int .u64 n ∧ 0 ≤ n ∧ n ≤ 18446744073709551615) → ∃ zs : List Int, l = zs.map (Value.int .u64) ∧ ∀ z ∈ zs, 0 ≤ z ∧ z ≤ 18446744073709551615 := by
    intro l
    induction l with
    | nil => exact fun _ => ⟨[], rfl, fun z hz => by cases hz⟩
    | cons v l ih =>
      intro hv
      obtain ⟨n, rfl, hn⟩ := hv v (by simp)
      obtain ⟨zs, rfl, hzs⟩ := ih fun v hv' => hv v (by simp [hv'])
      refine ⟨n :: zs, rfl, fun z hz => ?_⟩
      rcases List.mem_cons.1 hz with rfl | hz
      · exact hn
      · exact hzs z hz
  obtain ⟨zs, hzs, hb⟩ := hl cs.toList fun v hv => by
    obtain ⟨i, hi, rfl⟩ := List.getElem_of_mem hv
    exact hc i (by simpa using hi)
  refine ⟨cs, _, _, zs, hh, ?_, ?_, hb⟩
  · rw [← hzs, List.take_of_length_le (by simp; omega)]
  · have := congrArg List.length hzs
    simp at this; omega
theorem val_cells {cs : List Value} (h : Vx.All2 Vx.leafOk kindsV cs) : ∃ (c : Int) (x : Nat) (s : ByteArray) (r : Int), cs = [.int .u8 c, .float .f64 x, .string s, .int .i64 r] ∧ (0 ≤ c ∧ c ≤ 255) ∧ x < 18446744073709551616 ∧ (s.size : Int) ≤ 9223372036854775807 ∧ (-9223372036854775808 ≤ r ∧ r ≤ 9223372036854775807) := by
  obtain ⟨v0, cs1, e0, h0, k1⟩ := Vx.all2_cons h
  obtain ⟨v1, cs2, e1, h1, k2⟩ := Vx.all2_cons k1
  obtain ⟨v2, cs3, e2, h2, k3⟩ := Vx.all2_cons k2
  obtain ⟨v3, cs4, e3, h3, k4⟩ := Vx.all2_cons k3
  have e4 : cs4 = [] := by cases cs4 with | nil => rfl | cons => exact k4.elim
  obtain ⟨c, rfl, w0⟩ := h0
  obtain ⟨x, rfl, w1⟩ := h1
  obtain ⟨s, rfl, w2⟩ := h2
  obtain ⟨r, rfl, w3⟩ := h3
  exact ⟨c, x, s, r, by rw [e0, e1, e2, e3, e4], Vx.wf_int w0, Vx.wf_f64 w1, by have : s.size ≤ 9223372036854775807 := w2; omega, Vx.wf_int w3⟩
theorem sym_ok {i : Nat} {S V : Value} (h : Vx.formOK i S V) : Vx.symOK S := by
  unfold Vx.formOK at h
  split at h
  · rw [h.1]; exact Vx.sok_i _ _
  · rw [h.1]; exact Vx.sok_i _ _
  · rw [h.1]; exact Vx.sok_i _ _
  · rw [h.1]; exact Vx.sok_i _ _
  · obtain ⟨x, rfl, _⟩ := h; exact Vx.sok_f _
  · obtain ⟨s, rfl, _⟩ := h; exact Vx.sok_s _
  · obtain ⟨r, _, rfl, _⟩ := h; exact Vx.sok_i _ _
theorem sym_is {E : Vx.Env} {i n : Nat} {S V : Value} (h : Vx.formOK i S V) (hd : Vx.den E (.sy n) = some S) : symIs E i n := by
  unfold symIs
  split
  · obtain ⟨x, rfl, _⟩ := h; exact ⟨x, hd⟩
  · obtain ⟨s, rfl, _⟩ := h; exact ⟨s, hd⟩
  · trivial
theorem walk (v w1 : List Value) (hv : Vx.All2 Vx.leafOk kindsV v) (hw : Vx.All2 Vx.leafOk kindsV w1) (w : World) (hsh : w.ShapedOpen Tryz.prog) :
    Calls Tryz.prog 4 #[.agg v.toArray, .agg w1.toArray] w fun e w' => e = .returned (.bool true) ∧ Below w.heap.size w w' := by
  have hs := world_pos hsh
  obtain ⟨c, x, s, r, hvc, n1, x1, s1, r1⟩ := val_cells hv
  obtain ⟨c', x', s', r', hwc, n2, x2, s2, r2⟩ := val_cells hw
  have lv : Vx.RvL (Vx.symEV [] 1 [.int .u8 c, .float .f64 x, .string s, .int .i64 r, .int .u8 c', .float .f64 x', .string s', .int .i64 r']) [.ag (Vx.leafAVs kindsV 1), .ag (Vx.leafAVs kindsV 5)] [.agg v.toArray, .agg w1.toArray] := by
    rw [hvc] at hv ⊢
    rw [hwc] at hw ⊢
    refine Vx.rvl_cons (Vx.rv_ag (Vx.leaves_rv 0 ?_ hv)) (Vx.rvl_cons (Vx.rv_ag (Vx.leaves_rv 4 ?_ hw)) Vx.rvl_nil)
    · intro i z hi
      match i, hi with
      | 0, hi => cases hi; rfl
      | 1, hi => cases hi; rfl
      | 2, hi => cases hi; rfl
      | 3, hi => cases hi; rfl
    · intro i z hi
      match i, hi with
      | 0, hi => cases hi; rfl
      | 1, hi => cases hi; rfl
      | 2, hi => cases hi; rfl
      | 3, hi => cases hi; rfl
  have d1 : Vx.den (Vx.symEV [] 1 [.int .u8 c, .float .f64 x, .string s, .int .i64 r, .int .u8 c', .float .f64 x', .string s', .int .i64 r']) m1 = some (.bool (Vx.mayV c x s r)) :=
    Vx.den_may (Vx.den_sym 0 rfl (Vx.sok_i _ _)) (Vx.den_sym 1 rfl (Vx.sok_f _)) (Vx.den_sym 2 rfl (Vx.sok_s _)) (Vx.den_sym 3 rfl (Vx.sok_i _ _))
  have d2 : Vx.den (Vx.symEV [] 1 [.int .u8 c, .float .f64 x, .string s, .int .i64 r, .int .u8 c', .float .f64 x', .string s', .int .i64 r']) m2 = some (.bool (Vx.mayV c' x' s' r')) :=
    Vx.den_may (Vx.den_sym 4 rfl (Vx.sok_i _ _)) (Vx.den_sym 5 rfl (Vx.sok_f _)) (Vx.den_sym 6 rfl (Vx.sok_s _)) (Vx.den_sym 7 rfl (Vx.sok_i _ _))
  cases h1 : Vx.mayV c x s r
  · exact Vx.closedVal (Vx.run_ok SL_ok 40) rfl (Vx.holds_cons (d1.trans (by rw [h1])) Vx.holds_nil) lv b1 w hs
  cases h2 : Vx.mayV c' x' s' r'
  · exact Vx.closedVal (Vx.run_ok SL_ok 40) rfl (Vx.holds_cons (d1.trans (by rw [h1])) (Vx.holds_cons (d2.trans (by rw [h2])) Vx.holds_nil)) lv b2 w hs
  obtain ⟨i, S, hi, fi⟩ := Vx.forms n1.1 x1 r1.2 h1
  obtain ⟨j, S', hj, fj⟩ := Vx.forms n2.1 x2 r2.2 h2
  obtain ⟨arr, el, fr, zs, hb, htake, hlen, hz⟩ := table hsh
  rw [hvc, hwc]
  obtain ⟨a1, a2⟩ := Vx.form_ok' (gl := GL) (n0 := 6) (Vs := S :: S' :: zs.map (Value.int .u64)) 0 hi fi rfl
  obtain ⟨b1, b2⟩ := Vx.form_ok' (gl := GL) (n0 := 6) (Vs := S :: S' :: zs.map (Value.int .u64)) 1 hj fj rfl
  have s6 : Vx.den (Vx.symEV GL 6 (S :: S' :: zs.map (Value.int .u64))) (.sy 6) = some S := Vx.den_sym (n0 := 6) 0 rfl (sym_ok fi)
  have s7 : Vx.den (Vx.symEV GL 6 (S :: S' :: zs.map (Value.int .u64))) (.sy 7) = some S' := Vx.den_sym (n0 := 6) 1 rfl (sym_ok fj)
  have a3 := fs_ok (E := Vx.symEV GL 6 (S :: S' :: zs.map (Value.int .u64))) (n := 6) fi s6 a2
  have b3 := fs_ok (E := Vx.symEV GL 6 (S :: S' :: zs.map (Value.int .u64))) (n := 7) fj s7 b2
  have a4 : Vx.Rv (Vx.symEV GL 6 (S :: S' :: zs.map (Value.int .u64))) (Vx.formAV i 6) (.agg #[.int .u8 c, .float .f64 x, .string s, .int .i64 r]) := a1
  have b4 : Vx.Rv (Vx.symEV GL 6 (S :: S' :: zs.map (Value.int .u64))) (Vx.formAV j 7) (.agg #[.int .u8 c', .float .f64 x', .string s', .int .i64 r']) := b1
  have hw0 : ∀ p ∈ GL, ∃ arr el fr, w.heap[p.1]? = some (.cells arr el fr) ∧ Vx.RvL (Vx.symEV GL 6 (S :: S' :: zs.map (Value.int .u64))) p.2 (arr.toList.take p.2.length) := by
    intro p hp
    obtain rfl : p = (4, Vx.tabAVs 20 8) := by simpa [GL] using hp
    refine ⟨arr, el, fr, hb, ?_⟩
    have ht := Vx.tab_rv (gl := GL) (n0 := 6) (Vs := S :: S' :: zs.map (Value.int .u64)) 20 2 zs hlen (fun i z hi => by
      rw [show 2 + i = i + 1 + 1 by omega, List.getElem?_cons_succ, List.getElem?_cons_succ, List.getElem?_map, hi]; rfl) hz
    show Vx.RvL _ (Vx.tabAVs 20 8) (arr.toList.take 20)
    rw [htake]
    exact ht
  by_cases hij : i < 7 ∧ j < 7
  · have hr : Vx.HR (Vx.symEV GL 6 (S :: S' :: zs.map (Value.int .u64))) (Vx.startH GL 6) 28 w := by
      have := Vx.symG_ok (m := 22) (Ls := (S :: S' :: zs.map (Value.int .u64)).map Vx.spotOf) (gl := GL) (n0 := 6) (by kernel_rfl) (by kernel_rfl) (by kernel_rfl) hw0 (by simp [hlen]) (fun L hL => by obtain ⟨V, _, rfl⟩ := List.mem_map.1 hL; exact Vx.spot_blk V) hs
      exact this
    have k6 : symIs (Vx.symEV GL 6 (S :: S' :: zs.map (Value.int .u64))) i 6 := sym_is fi s6
    have k7 : symIs (Vx.symEV GL 6 (S :: S' :: zs.map (Value.int .u64))) j 7 := sym_is fj s7
    obtain ⟨a, H⟩ := pairs i j hij.1 hij.2
    exact law_ij H hr (Vx.holds_append a3 b3) (Vx.rvl_cons a4 (Vx.rvl_cons b4 Vx.rvl_nil)) k6 k7
  · have hG : Vx.setF (fs i 6 ++ fs j 7) (Vx.startH GL 6) (fun h => Vx.run SL 40 4 [Vx.formAV i 6, Vx.formAV j 7] h 28 (fun v h _ => Vx.finT v h)) = true := light i j hi hj (by omega)
    exact Vx.closedValG (Vx.run_ok SL_ok 40) (gl := GL) (n0 := 6) (nn := 28) (by kernel_rfl) (by kernel_rfl) (by kernel_rfl) (by simp [hlen]) (Vx.holds_append a3 b3) (Vx.rvl_cons a4 (Vx.rvl_cons b4 Vx.rvl_nil)) hG w hs hw0

theorem lifted (os : Os) (started : os.Started) (H : Type) (enc : TypeId × Value → H) :
    ReturnsInHanded {} Tryz.checked os 4 .any (Rows.opPlainSpec.pre6 enc Tryz.prog Tryz.f4 Rows.opPlainRow.domain false) (Rows.opPlainSpec.post enc Tryz.prog Tryz.f4 false true false false) := by
  refine returnsInHanded_of_change_shaped (C := Tryz.checked) own started (by kernel_rfl) Tryz.func4
    (ChangeSpec.witness6 (enc := enc) (C := Tryz.checked) false ⟨#[], #[.agg #[.int .u8 0, .float .f64 0, .string ByteArray.empty, .int .i64 0], .agg #[.int .u8 0, .float .f64 0, .string ByteArray.empty, .int .i64 0]], []⟩ 8 (by kernel_rfl) (by kernel_rfl) (by kernel_rfl) (by kernel_rfl)) ?_
  intro W base args ds gs before hval0 hW hcnd _ hsh _
  have hval : ∀ (j : Nat) t v, Tryz.f4.params[j]? = some t → args[j]? = some v → Value.okWide Tryz.prog W .any base t v := hval0
  have hW' := hW
  obtain ⟨p, q, hA0, hV, rfl, hfz, hnd⟩ := hW
  have hA : DataW.TrodAll enc Tryz.prog W 0 (fun _ => true) true Tryz.f4.params.toList args.toList ds p := hA0
  rw [Tryz.params4] at hA hval
  obtain ⟨v0, v1, d0, d1, p0, p1, rfl, rfl, rfl, h0, h1⟩ := trodAll_two hA
  obtain ⟨cs, rfl, hcs, rfl⟩ := Vx.open_flat (d := 4) Tryz.underlying24 (by kernel_rfl) (hval 0 24 _ rfl rfl) h0
  obtain ⟨cs', rfl, hcs', rfl⟩ := Vx.open_flat (d := 4) Tryz.underlying24 (by kernel_rfl) (hval 1 24 _ rfl rfl) h1
  obtain ⟨rfl, rfl⟩ := trodVars_none hV
  simp only [List.append_nil] at hW'
  refine (walk cs cs' hcs hcs' W hsh).mono fun e W' ⟨he, hg⟩ => ?_
  subst he
  have hlaid : laidOutB Tryz.prog = true := by kernel_rfl
  have hr : Tryz.prog.readableRec 24 = true := by kernel_rfl
  have hrow : 24 < Tryz.prog.types.size := of_decide_eq_true (by kernel_rfl)
  exact ⟨_, rfl, Vx.post_below (pa := []) (pv := []) hW' (fun _ _ _ => (trodAll_cons_mk (shut_bool Tryz.underlying4 _) trodAll_mk0))
    (fun sp _ => trodAll_cons_mk (WideElems.Trod_stays hlaid hr hrow h0 (fun _ hx => by cases hx) (fun _ hx => by cases hx)) (trodAll_cons_mk (WideElems.Trod_stays hlaid hr hrow h1 (fun _ hx => by cases hx) (fun _ hx => by cases hx)) trodAll_mk0)) (fun _ _ => rfl) rfl
    hg (ok_one (by kernel_rfl) rfl (okWide_bool_mk Tryz.underlying4 _))⟩

theorem over : Rows.opPlainRow.holds Tryz.pinned (OpenSpec.ofChange Rows.opPlainSpec) :=
  OpenClaim.holds_of_wide 4 Tryz.f4 rfl rfl rfl rfl rfl rfl rfl ⟨rfl, rfl, rfl, rfl, rfl⟩ rfl rfl rfl rfl rfl (by kernel_rfl) Tryz.func4 (by kernel_rfl)
    (of_decide_eq_true (by kernel_rfl)) (by unfold Func.isWrapper; first | (rw [if_pos (by decide +kernel)]; kernel_rfl) | (rw [if_neg (by decide +kernel)]; exact ⟨rfl, rfl⟩))
    (fun os started H enc _ => lifted os started H enc)
end Go.Proofs.YtaecedlhiclkdaaGreat.Opl
namespace Go.Proofs.YtaecedlhiclkdaaGreat.opPlain
theorem proved : Rows.OpPlainSaid :=
  Opl.over
end Go.Proofs.YtaecedlhiclkdaaGreat.opPlain
