/- OpPlain: what is taken by contract, and the runs. No condition. -/
import Derived.Test.YtaecedlhiclkdaaGreatCon
import Derived.Test.YtaecedlhiclkdaaGreatRead
import Derived.Test.YtaecedlhiclkdaaGreatFmt
import Derived.Test.YtaecedlhiclkdaaGreatMod
import Derived.Test.YtaecedlhiclkdaaGreatSpecs
import Derived.Test.YtaecedlhiclkdaaGreatVxZh
namespace Go.Proofs.YtaecedlhiclkdaaGreat.Opl
open Go Vx Con
set_option linter.unusedVariables false
set_option linter.constructorNameAsVariable false
set_option maxRecDepth 100000

/-! ### Some float, or an error -/
noncomputable def fltB (v : AV) : Bool := match v with
  | .x .f _ => true
  | .f .f64 n => Nat.ble (Nat.succ n) 18446744073709551616
  | .nan => true
  | _ => false
theorem fltB_ok {E : Env} {v : AV} {V : Value} (h : fltB v = true) (r : Rv E v V) : ∃ x, V = .float .f64 x ∧ x < 18446744073709551616 := by
  unfold fltB at h
  split at h <;> try (cases h; done)
  · rw [Rv] at r; exact r.2
  · rw [Rv] at r; exact ⟨_, r, Nat.le_of_ble_eq_true h⟩
  · rw [Rv] at r; obtain ⟨x, rfl, hx⟩ := r; exact ⟨x, rfl, hx.2⟩
noncomputable def alt3 (k : K) (h : Heap) (n : Nat) : Bool :=
  bc (forceN (Nat.succ n) fun m => k (.tu [.x .f (.sy n), .i .i64 0]) h m) (bc (k (.tu [.f .f64 0, .i .i64 10]) h n) (k (.tu [.f .f64 0, .i .i64 2]) h n) false) false
noncomputable def has4 (h : Heap) (b : Bool) : Bool := match T.get .gone h 5 with
  | .glob _ _ _ => b
  | _ => false
theorem has4_ok {E : Env} {h : Heap} {nxt : Nat} {w : World} {b : Bool} (he : has4 h b = true) (hr : HR E h nxt w) : 0 < w.heap.size ∧ b = true := by
  unfold has4 at he
  split at he <;> try (cases he; done)
  rename_i g0 m c hg
  have ho := hr.obj 5
  rw [hg] at ho
  obtain ⟨L, arr, el, fr, _, _, hb, _, _⟩ := ho
  have := (Array.getElem?_eq_some_iff.1 hb).1
  exact ⟨by omega, he⟩
noncomputable def altC : Ct := fun args h n k => match args with
  | [a, b] => has4 h (bc (fltB a) (bc (fltB b) (alt3 k h n) false) false)
  | _ => false
noncomputable def altB : Ct := fun args h n k => match args with
  | [.i .u8 _, a, b] => has4 h (bc (fltB a) (bc (fltB b) (alt3 k h n) false) false)
  | _ => false
theorem alt_end {E : Env} {h : Heap} {n : Nat} {w w' : World} {k : K} {e : Ending} (hr : HR E h n w) (hs : 0 < w.heap.size) (he : alt3 k h n = true) (ho : Mod.NumOut w e w') : ∃ V, e = .returned V ∧ Gives E h w k V w' := by
  obtain ⟨h1, he⟩ := bc_and he
  obtain ⟨h2, h3⟩ := bc_and he
  rw [forceN_eq] at h1
  obtain ⟨ho, hb⟩ := ho
  have hs' : 0 < w'.heap.size := by have := hb.size; omega
  rcases ho with ⟨z, hz, rfl⟩ | rfl | rfl
  · refine ⟨_, rfl, _, h, n + 1, addE E n (.float .f64 z), ?_, (hr.below hb).add _ hs', (Goes.below hb).trans ((hr.below hb).goes_add _), h1⟩
    rw [Rv]
    exact ⟨_, rfl, rvl_cons (by rw [Rv]; exact ⟨den_add (sok_f _), _, rfl, hz⟩) (rvl_cons (by rw [Rv]) rvl_nil)⟩
  · exact ⟨_, rfl, _, h, n, E, by rw [Rv]; exact ⟨_, rfl, rvl_cons (by rw [Rv]) (rvl_cons (by rw [Rv]) rvl_nil)⟩, hr.below hb, Goes.below hb, h2⟩
  · exact ⟨_, rfl, _, h, n, E, by rw [Rv]; exact ⟨_, rfl, rvl_cons (by rw [Rv]) (rvl_cons (by rw [Rv]) rvl_nil)⟩, hr.below hb, Goes.below hb, h3⟩
theorem altC_ok {g : FuncId} (H : ∀ (x y : Nat) (w : World), x < 18446744073709551616 → y < 18446744073709551616 → 0 < w.heap.size → Calls P g #[.float .f64 x, .float .f64 y] w (Mod.NumOut w)) : CtOK P g altC := by
  intro args ARGS E h nxt w k he ra hr
  unfold altC at he
  split at he <;> try (cases he; done)
  rename_i a b
  obtain ⟨hs, he⟩ := has4_ok he hr
  obtain ⟨ha, he⟩ := bc_and he
  obtain ⟨hb, he⟩ := bc_and he
  rw [RvL] at ra
  obtain ⟨V, vs, e1, r1, ra⟩ := ra
  rw [RvL] at ra
  obtain ⟨U, us, e2, r2, ra⟩ := ra
  rw [RvL] at ra
  obtain ⟨x, rfl, hx⟩ := fltB_ok ha r1
  obtain ⟨y, rfl, hy⟩ := fltB_ok hb r2
  have hA : ARGS = #[.float .f64 x, .float .f64 y] := by apply Array.ext'; rw [e1, e2, ra]
  subst hA
  exact (H x y w hx hy hs).mono fun e w' ho => alt_end hr hs he ho
theorem altB_ok {g : FuncId} (H : ∀ (op : Int) (x y : Nat) (w : World), x < 18446744073709551616 → y < 18446744073709551616 → 0 < w.heap.size → Calls P g #[.int .u8 op, .float .f64 x, .float .f64 y] w (Mod.NumOut w)) : CtOK P g altB := by
  intro args ARGS E h nxt w k he ra hr
  unfold altB at he
  split at he <;> try (cases he; done)
  rename_i op a b
  obtain ⟨hs, he⟩ := has4_ok he hr
  obtain ⟨ha, he⟩ := bc_and he
  obtain ⟨hb, he⟩ := bc_and he
  rw [RvL] at ra
  obtain ⟨O, os, e0, r0, ra⟩ := ra
  rw [RvL] at ra
  obtain ⟨V, vs, e1, r1, ra⟩ := ra
  rw [RvL] at ra
  obtain ⟨U, us, e2, r2, ra⟩ := ra
  rw [RvL] at ra
  rw [Rv] at r0
  obtain ⟨x, rfl, hx⟩ := fltB_ok ha r1
  obtain ⟨y, rfl, hy⟩ := fltB_ok hb r2
  subst r0
  have hA : ARGS = #[.int .u8 op, .float .f64 x, .float .f64 y] := by apply Array.ext'; rw [e0, e1, e2, ra]
  subst hA
  exact (H op x y w hx hy hs).mono fun e w' ho => alt_end hr hs he ho

/-- a condition that is answered is decided -/
noncomputable def litC (C : Ct) : Ct := fun args h n k => C args h n fun v h n => match v with
  | .x .b e => condK (.x .b e) h (fun h => k (.b true) h n) (fun h => k (.b false) h n)
  | v => k v h n
theorem litC_ok {g : FuncId} {C : Ct} (hC : CtOK P g C) : CtOK P g (litC C) := by
  intro args ARGS E h nxt w k he ra hr
  refine (hC args ARGS E h nxt w _ he ra hr).mono ?_
  rintro e w' ⟨V, rfl, v, h', n', E', rv, hr', gs, hk⟩
  dsimp only at hk
  split at hk
  · obtain ⟨x, h1, rfl, hr1, fk, hx⟩ := condK_ok hk rv hr'
    rcases hx with ⟨rfl, hx⟩ | ⟨rfl, hx⟩
    · exact ⟨_, rfl, .b true, h1, n', E', by rw [Rv], hr1, gs.trans fk.goes, hx⟩
    · exact ⟨_, rfl, .b false, h1, n', E', by rw [Rv], hr1, gs.trans fk.goes, hx⟩
  · exact ⟨_, rfl, v, h', n', E', rv, hr', gs, hk⟩
theorem alive0 : c0 11 [] (T.full .gone 20) 1 (fun v _ _ => match v with | .b y => (y == true) | _ => false) = true := by kernel_rfl
theorem alive (w : World) : Calls P 11 #[] w fun e w' => e = .returned (.bool true) ∧ RowKit.Below w.heap.size w w' := closed c0_ok alive0 w
noncomputable def aliveC : Ct := fun args h nxt k => match args with
  | [] => k (.b true) h nxt
  | _ => false
theorem aliveC_ok : CtOK P 11 aliveC := by
  apply ctExpr
  intro args ARGS E h nxt w k he ra hr
  unfold aliveC at he
  split at he <;> try (cases he; done)
  have hA : ARGS = #[] := by
    apply Array.ext'
    rw [RvL] at ra
    exact ra
  subst hA
  exact ⟨.b true, h, .bool true, he, by rw [Rv], hr, Fk.refl h, alive w⟩
noncomputable def SL : Specs := fun g => match g with
  | 11 => some aliveC
  | 13 => some (Vx.rowC 9 Specs.lits 31)
  | 160 => some (orC readC (runC c0 160))
  | 194 => some (orC (fmtC 4) (runC c0 194))
  | 22 => some (litC (runC c2 22))
  | 31 => some (renC 4 (runC c2 31))
  | 32 => some (renC 4 (runC c2 32))
  | 75 => some altC
  | 76 => some altC
  | 77 => some altC
  | 78 => some altB
  | g => S2 g
theorem SL_ok : SpecOK P SL := by
  intro g C hC
  unfold SL at hC
  split at hC
  · cases hC; exact aliveC_ok
  · cases hC; exact Specs.sp_ok 13 _ rfl
  · cases hC; exact orC_ok (readC_ok Read.read) (runC_ok c0_ok 160)
  · cases hC; exact orC_ok (fmtC_ok Fmt.fmt) (runC_ok c0_ok 194)
  · cases hC; exact litC_ok (runC_ok c2_ok 22)
  · cases hC; exact renC_ok (runC_ok c2_ok 31)
  · cases hC; exact renC_ok (runC_ok c2_ok 32)
  · cases hC; exact altC_ok Mod.mulC
  · cases hC; exact altC_ok Mod.divC
  · cases hC; exact altC_ok Mod.remC
  · cases hC; exact altB_ok Mod.bitsC
  · exact S2_ok _ C hC
noncomputable def GL : List (Nat × List AV) := [(4, tabAVs 20 8)]
/-- what is known of a form's symbol; a text's worth may be -/
noncomputable def fs (i n : Nat) : Facts := match i with
  | 5 => (.fn 7 (.fn 5 (.sy n)), true) :: formFs 5 n
  | i => formFs i n
theorem fs_ok {E : Env} {i n : Nat} {S V : Value} (h : formOK i S V) (hd : den E (.sy n) = some S) (hf : Holds E (formFs i n)) : Holds E (fs i n) := by
  unfold fs
  split
  · obtain ⟨s, rfl, _, _⟩ := h
    refine holds_cons (((den_fn (c := 7) (den_fn (c := 5) hd rfl) rfl)).trans ?_) hf
    rw [read_may]
  · exact hf
noncomputable def GF (more : Facts) (i j : Nat) : Bool := setF (more ++ (fs i 6 ++ fs j 7)) (startH GL 6) (fun h => run SL 40 4 [formAV i 6, formAV j 7] h 28 (fun v h _ => finT v h))
noncomputable def G (i j : Nat) : Bool := GF [] i j
def kindsV : List TypeDesc := [.int .u8, .float .f64, .string, .int .i64]
noncomputable def B (fs : Facts) : Bool := setF fs (startH [] 1) (fun h => run SL 40 4 [.ag (leafAVs kindsV 1), .ag (leafAVs kindsV 5)] h 9 (fun v h _ => finT v h))
noncomputable def m1 : SE := .fn 10 (packV (.sy 1) (.sy 2) (.sy 3) (.sy 4))
noncomputable def m2 : SE := .fn 10 (packV (.sy 5) (.sy 6) (.sy 7) (.sy 8))
/-! ### The law's own code -/
noncomputable def cF : Code := match Tryz.f4.body with
  | some c => c
  | none => .skip
noncomputable def cl : Code := (loopsOf cF).headD .skip
noncomputable def DR : DrawF := evDraw PP XT (run SL 40)
theorem DR_ok : DrawOK P DR := evDraw_ok mixed XT_ok _ (run_ok SL_ok 40)
theorem hb : Tryz.f4.body = some cF := by kernel_rfl
theorem hc : loopsOf cF = [cl] := by kernel_rfl
theorem hn : loopsOf cl = [] := by kernel_rfl
noncomputable def firstJ (J : S) (fs : Facts) (i j : Nat) : Bool := setF fs (startH GL 6) fun h => evCodeJ P (run SL 40) XT DR Tryz.f4.ntmps J cF (retT P Tryz.f4) (fun _ => noK) (retT P Tryz.f4) (wrLs [formAV i 6, formAV j 7] big 0) h 28
noncomputable def cellsOf (v : AV) : List AV := match v with
  | .ag l => l
  | _ => []
/-- the loop's heads: the names' row at a -/
noncomputable def cans (a i j k : Nat) : Vx.Can := ⟨[(2, .p 28 0), (3, .p 29 0), (4, .b false), (5, .b true), (6, .so a 0 31 0), (7, .i .i64 (Int.ofNat k))],
  [(28, ⟨4, ⟨0, some 24, true⟩, 4, cellsOf (formAV i 6)⟩), (29, ⟨4, ⟨0, some 24, true⟩, 4, cellsOf (formAV j 7)⟩), (a, ⟨31, ⟨0, some 9, true⟩, 1, Specs.lits⟩)], Nat.add 40 (Nat.mul 2000 k)⟩
noncomputable def roundJ (fs : Facts) (c : Vx.Can) (kn : S) : Bool := setF fs (startH GL 6) fun h => roundB P (run SL 40) XT DR Tryz.f4.ntmps cl h c kn (retT P Tryz.f4)
noncomputable def first (a i j : Nat) : Bool := firstJ (atB 6 28 (cans a i j 0)) (fs i 6 ++ fs j 7) i j
noncomputable def round (a i j k : Nat) : Bool := roundJ (fs i 6 ++ fs j 7) (cans a i j k) (atB 6 28 (cans a i j (Nat.succ k)))
noncomputable def last (more : Facts) (a i j : Nat) : Bool := roundJ (more ++ (fs i 6 ++ fs j 7)) (cans a i j 20) noK
/-! facts by which the last round parts -/
noncomputable def fE (a b : SE) (x y z : Bool) : Facts := [(.cmp .eql a b, x), (.cmp .lss a b, y), (.cmp .lss b a, z)]
noncomputable def fN (a : SE) (b : Bool) : SE × Bool := (.cmp .eql a a, b)
noncomputable def fR (n : Nat) (b : Bool) : SE × Bool := (.cmp .eql (.fn 6 (.sy n)) (.li .i64 0), b)
noncomputable def rd (n : Nat) : SE := .fn 5 (.sy n)
noncomputable def cst (i : Nat) : SE := match i with
  | 3 => .lf 0x3ff0000000000000
  | _ => .lf 0
end Go.Proofs.YtaecedlhiclkdaaGreat.Opl
