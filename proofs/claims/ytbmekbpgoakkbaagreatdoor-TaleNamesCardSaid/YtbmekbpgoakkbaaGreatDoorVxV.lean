/- New blocks: operations that push just one, whatever the memory is. No condition. -/
import Derived.Test.YtbmekbpgoakkbaaGreatDoorVxU
import Derived.Test.YtbmekbpgoakkbaaGreatDoorVxL
set_option linter.unusedVariables false
set_option linter.unusedSimpArgs false
set_option linter.constructorNameAsVariable false
set_option linter.unusedSectionVars false
namespace Go.Proofs.YtbmekbpgoakkbaaGreatDoor.Vx
open Go

theorem alloc_run {P : Program} {t : TypeId} {i : TypeInfo} {z : Value} (hi : P.info? t = some i) (hz : i.zero = some z) (w : World) :
    (Instr.alloc t true (.tuple #[])).run P w = .ok (.pointer (some ⟨w.heap.size, 0, none⟩)) { w with heap := w.heap.push (.cells z.cells t (0, 0)) } := by
  simp [Instr.alloc, run_zeroValue' hi hz, newVar, newRow]

/-- the operation pushes one block, the same in all worlds; the evaluator has its new object -/
def NewR (P : Program) (s : Sem Value) (E : Env) (h : Heap) (nxt : Nat) (k : K) : Prop :=
  ∃ (v : AV) (ao : AO) (V0 : Nat → Value) (obj : Obj) (room : Nat), Cold obj ∧ (∀ w, s.run P w = .ok (V0 w.heap.size) { w with heap := w.heap.push obj }) ∧ k v (T.set ao h nxt) (nxt + 1) = true ∧
    ∀ (E' : Env) (b : Nat), E.le E' → E' nxt = some ⟨b, 0, room⟩ → Rv E' v (V0 b) ∧ ∀ w : World, w.heap[b]? = some obj → RO E' w nxt ao

theorem newCells_at {wd : Nat} {l : List AV} {n : Nat} {h : Heap} {nxt : Nat} {k : Heap → Nat → Bool} (el : TypeId) (hk : newCells wd l n ⟨0, some el, true⟩ h nxt k = true) {E : Env} {cells : Array Value} (room : Nat)
    (hn : n ≤ l.length) (hl : ∃ vs, RvL E l vs ∧ (∀ j, j < n → vs.getD j undef = cells.getD j undef)) (hsz : n ≤ cells.size) :
    ∃ ao, k (T.set ao h nxt) (nxt + 1) = true ∧ ∀ (E' : Env) (b : Nat), E.le E' → E' nxt = some ⟨b, 0, room⟩ → ∀ w : World, w.heap[b]? = some (.cells cells el (0, 0)) → RO E' w nxt ao := by
  unfold newCells at hk
  rw [wrC_eq, T.setK_eq, forceN_eq] at hk
  obtain ⟨vs, hl, hvs⟩ := hl
  refine ⟨_, hk, fun E' b hle hb w hw => ⟨⟨b, 0, room⟩, cells, el, hb, hw, by simpa using hsz, Esz.ok_new _ _ _ _ _, fun j hj => ?_⟩⟩
  have := (wrCs_new wd l vs hl j (by omega)).mono hle
  rw [hvs j hj] at this
  simpa using this

theorem evAlloc_new {P : Program} {t : TypeId} {h : Heap} {nxt : Nat} {k : K} (E : Env) (he : evAlloc P t h nxt k = true) : NewR P (Instr.alloc t true (.tuple #[])) E h nxt k := by
  unfold evAlloc at he
  split at he <;> try (cases he; done)
  rename_i i hi
  split at he <;> try (cases he; done)
  rename_i z hz
  unfold evBox at he
  obtain ⟨l, hl, _, he⟩ := cellsK_ok he (absV_ok E z)
  rw [forceN_eq] at he
  have hlen := hl.length
  obtain ⟨ao, h1, h2⟩ := newCells_at (E := E) (cells := z.cells) t he 0 (Nat.le_refl _) ⟨_, hl, fun j _ => by simp⟩ (by simp at hlen; omega)
  exact ⟨_, ao, fun b => .pointer (some ⟨b, 0, none⟩), _, 0, cold_cells _ _, fun w => alloc_run hi hz w, h1, fun E' b hle hb => ⟨by rw [Rv]; exact ⟨_, hb, rfl⟩, h2 E' b hle hb⟩⟩

theorem evBuildSlice_new {P : Program} {t : TypeId} {len : Nat} {parts : List (Nat × AV)} {vs : Array (Nat × Value)} {h : Heap} {nxt : Nat} {k : K} {E : Env} (he : evBuildSlice P t len parts h nxt k = true) (rp : RvP E parts vs.toList) :
    NewR P (Instr.buildSlice t len vs) E h nxt k := by
  unfold evBuildSlice at he
  split at he <;> try (cases he; done)
  rename_i el hu
  split at he <;> try (cases he; done)
  rename_i i hi
  split at he <;> try (cases he; done)
  rename_i z hz
  obtain ⟨hs, he⟩ := bc_and he
  obtain ⟨h1, he⟩ := bc_and he
  obtain ⟨h2, he⟩ := bc_and he
  have hs := Nat.eq_of_beq_eq_true hs
  have h1 := Nat.le_of_ble_eq_true h1
  have h2 := Nat.le_of_ble_eq_true h2
  have hzz := zeros_ok (E := E) (z := z.cells) (by omega) len
  obtain ⟨l, arr, g1, g2, g3, g4⟩ := fillK_ok parts he rp (arr := (Array.range (len * z.cells.size)).map (z.cells[· % z.cells.size]!)) hzz
  rw [forceN_eq] at g4
  have hlen := g3.length
  have hsz : arr.size = len * i.size := by rw [g2]; simp [hs]
  obtain ⟨ao, k1, k2⟩ := newCells_at (E := E) (cells := arr) el g4 0 (by simp at hlen; show len * i.size ≤ l.length; omega) ⟨_, g3, fun j _ => by simp⟩ (Nat.le_of_eq hsz.symm)
  refine ⟨_, ao, fun b => .slice (some ⟨b, 0, none⟩) len len, _, 0, cold_cells arr el, fun w => ?_, k1, fun E' b hle hb => ⟨by rw [Rv]; exact ⟨_, hb, rfl⟩, k2 E' b hle hb⟩⟩
  have hle : ¬ (len * i.size > 2 ^ 24) := by omega
  rw [hs] at g1
  simp only [Instr.buildSlice, Sem.run_bind, run_underlying' hu, Result.andThen_ok, run_sizeOf' hi, hle, if_false, Sem.run_pure]
  by_cases hzero : len * i.size = 0
  · have hl0 : len = 0 := by rcases Nat.mul_eq_zero.1 hzero with e | e <;> omega
    subst hl0
    have : ((Array.range (0 * i.size)).map (z.cells[· % i.size]!)) = #[] := by simp
    rw [this] at g1
    simp only [Nat.zero_mul, if_true, Sem.run_bind, Sem.run_pure, Result.andThen_ok]
    have e0 : ((Array.range 0).map ((#[] : Array Value)[· % (#[] : Array Value).size]!)) = #[] := by simp
    rw [e0, g1]
    simp [newRow]
  · simp only [hzero, if_false, Sem.run_bind, run_zeroValue' hi hz, Result.andThen_ok, Sem.run_pure, hs, g1]
    simp [newRow]

theorem evMakeSlice_new {P : Program} {t : TypeId} {ln cp : AV} {LN CP : Value} {h : Heap} {nxt : Nat} {k : K} {E : Env} (he : evMakeSlice P t ln cp h nxt k = true) (rl : Rv E ln LN) (rc : Rv E cp CP) :
    NewR P (Instr.makeSlice t LN CP) E h nxt k := by
  cases ln <;> simp only [evMakeSlice, Bool.false_eq_true] at he
  rename_i ka a
  cases cp <;> simp only [Bool.false_eq_true] at he
  rename_i kb b
  rw [Rv] at rl rc; subst rl; subst rc
  obtain ⟨len, ea, he1⟩ := natOf_ok he
  obtain ⟨cap, eb, he2⟩ := natOf_ok he1
  subst ea; subst eb
  clear he he1
  have he := he2
  clear he2
  split at he <;> try (cases he; done)
  rename_i el hu
  split at he <;> try (cases he; done)
  rename_i i hi
  split at he <;> try (cases he; done)
  rename_i z hz
  obtain ⟨hs, he⟩ := bc_and he
  obtain ⟨h1, he⟩ := bc_and he
  obtain ⟨h2, he⟩ := bc_and he
  obtain ⟨h3, he⟩ := bc_and he
  obtain ⟨h4, he⟩ := bc_and he
  have hs := Nat.eq_of_beq_eq_true hs
  have h1 := Nat.le_of_ble_eq_true h1
  have h2 := Nat.le_of_ble_eq_true h2
  have h3 := Nat.le_of_ble_eq_true h3
  have h4 := Nat.le_of_ble_eq_true h4
  rw [forceL_eq, forceN_eq] at he
  have hzz := zeros_ok (E := E) (z := z.cells) (by omega) cap
  rw [hs] at hzz
  have hlen := hzz.length
  obtain ⟨ao, k1, k2⟩ := newCells_at (E := E) (cells := (Array.range (cap * i.size)).map (z.cells[· % i.size]!)) el he 0 (by simp at hlen; show cap * i.size ≤ _; omega) ⟨_, hzz, fun j _ => by rw [List.getD_eq_getElem?_getD, Array.getD_eq_getD_getElem?, Array.getElem?_toList]⟩ (by show cap * i.size ≤ _; simp)
  refine ⟨_, ao, fun b => .slice (some ⟨b, 0, none⟩) len cap, _, 0, cold_cells _ el, fun w => ?_, k1, fun E' b hle hb => ⟨by rw [Rv]; exact ⟨_, hb, rfl⟩, k2 E' b hle hb⟩⟩
  have hb : ¬ ((i.bytes : Int) * (cap : Int) > 2 ^ 48) := by
    have := Nat.mul_le_mul h4 h3
    have e : ((i.bytes : Int) * (cap : Int)) = ((i.bytes * cap : Nat) : Int) := by simp
    rw [e]; omega
  have hc : ¬ ((cap : Int) < 0) := by omega
  have hl : ¬ ((len : Int) < 0) := by omega
  have hlc : ¬ ((len : Int) > (cap : Int)) := by omega
  simp only [Instr.makeSlice, Sem.run_bind, run_underlying' hu, Result.andThen_ok, asInt, asIntOf, Sem.run_pure, run_typeInfo' hi, wrap64_small (show len ≤ 16777216 by omega), wrap64_small h3]
  simp only [hc, hl, hlc, hb, decide_false, Bool.or_false, Bool.false_eq_true, if_false, Int.toNat_natCast, Sem.run_bind, run_askRoom, Result.andThen_ok, run_sizeOf' hi]
  by_cases hzero : cap * i.size = 0
  · have hl0 : cap = 0 := by rcases Nat.mul_eq_zero.1 hzero with e | e <;> omega
    subst hl0
    have e0 : Array.range (0 * i.size) = #[] := by simp
    rw [e0]
    simp [newRow]
  · simp only [hzero, if_false, Sem.run_bind, run_zeroValue' hi hz, Result.andThen_ok, Sem.run_pure, hs]
    simp [newRow]

theorem evMakeMap_new {P : Program} {t : TypeId} {h : Heap} {nxt : Nat} {k : K} (E : Env) (he : evMakeMap h nxt k = true) : NewR P (Instr.makeMap t none) E h nxt k := by
  unfold evMakeMap at he
  rw [T.setK_eq, forceN_eq] at he
  refine ⟨_, _, fun b => .map (some b), .map #[] 0, 0, (by rintro c e f h; cases h), fun w => by simp [Instr.makeMap], he, fun E' b hle hb => ⟨by rw [Rv]; exact ⟨_, hb, rfl⟩, fun w hw => ⟨_, #[], hb, hw, rfl⟩⟩⟩

/-- the operations that push one block -/
noncomputable def evNew (P : Program) (op : Op) (regs : Regs) (h : Heap) (nxt : Nat) (k : K) : Bool := match op with
  | .alloc t => evAlloc P t h nxt k
  | .buildSlice t n ps => opdsP regs ps.toList fun l => evBuildSlice P t n l h nxt k
  | .makeSlice t l c => opd regs l fun l => opd regs c fun c => evMakeSlice P t l c h nxt k
  | .makeMap _ none => evMakeMap h nxt k
  | .binOp .quo _ x y _ => opd regs x fun x => opd regs y fun y => (match x with
    | .f .f64 a => (match y with
      | .f .f64 b => evFloat .quo a b fun v => k v h nxt
      | _ => false)
    | _ => false)
  | _ => false

/-- a value that may be drawn: whatever the memory is, it comes, and it is as the evaluator says -/
def NewVO (P : Program) (s : Sem Next) (E : Env) (h : Heap) (nxt : Nat) (k : K) : Prop :=
  ∃ v : AV, k v h nxt = true ∧ ∀ w : World, (∃ V w', s.run P w = .ok (.value V) w' ∧ (w' = w ∨ w' = { w with drawn := w.drawn + 1 })) ∧ ∀ V w', s.run P w = .ok (.value V) w' → Rv E v V

theorem evFloat_any {P : Program} {a b : Nat} {k : AV → Bool} (he : evFloat .quo a b k = true) (E : Env) :
    ∃ v, k v = true ∧ ∀ w : World, ∃ V w', (Op.floatArith .quo .f64 a b).run P w = .ok V w' ∧ (w' = w ∨ w' = { w with drawn := w.drawn + 1 }) ∧ Rv E v V := by
  unfold evFloat at he
  simp only at he
  unfold Op.floatArith
  simp only
  cases hd : FloatKind.f64.format.div a b with
  | some r =>
    rw [hd] at he
    simp only [forceN_eq] at he
    exact ⟨_, he, fun w => ⟨.float .f64 r, w, rfl, .inl rfl, by rw [Rv]⟩⟩
  | none =>
    rw [hd] at he
    refine ⟨_, he, fun w => ⟨.float .f64 ((Question.nanBits .f64 a b).cut (w.tape w.drawn (.nanBits .f64 a b))), _, ?_, .inr rfl, ?_⟩⟩
    · simp [Question.forced]
    · rw [Rv]; exact ⟨_, rfl, nan_cut _ _ _⟩

def NewO (P : Program) (s : Sem Next) (E : Env) (h : Heap) (nxt : Nat) (k : K) : Prop :=
  ∃ (v : AV) (ao : AO) (V0 : Nat → Value) (obj : Obj) (room : Nat), Cold obj ∧ (∀ w, s.run P w = .ok (.value (V0 w.heap.size)) { w with heap := w.heap.push obj }) ∧ k v (T.set ao h nxt) (nxt + 1) = true ∧
    ∀ (E' : Env) (b : Nat), E.le E' → E' nxt = some ⟨b, 0, room⟩ → Rv E' v (V0 b) ∧ ∀ w : World, w.heap[b]? = some obj → RO E' w nxt ao

theorem NewO.of {P : Program} {s : Sem Value} {E : Env} {h : Heap} {nxt : Nat} {k : K} (hh : NewR P s E h nxt k) : NewO P (do pure (.value (← s))) E h nxt k := by
  obtain ⟨v, ao, V0, obj, room, h1, h2, h3⟩ := hh
  exact ⟨v, ao, V0, obj, room, h1, fun w => by simp [h2 w], h3⟩

theorem evNew_ok {P : Program} {o : Oper} {regs : Regs} {a : Act} {h : Heap} {nxt : Nat} {k : K} {E : Env} (he : evNew P o.op regs h nxt k = true) (r : Rr E regs a.tmps) : NewO P (execOp a.eval o) E h nxt k ∨ NewVO P (execOp a.eval o) E h nxt k := by
  unfold evNew at he
  split at he
  · rename_i hop
    unfold execOp; simp only [hop]
    exact .inl (.of (evAlloc_new E he))
  · rename_i hop
    unfold execOp; simp only [hop]
    obtain ⟨l, hl, he⟩ := opdsP_ok r _ he
    exact .inl (.of (evBuildSlice_new he (by simpa using hl)))
  · rename_i hop
    unfold execOp; simp only [hop]
    obtain ⟨v, hv, he⟩ := opd_ok he r
    obtain ⟨u, hu, he⟩ := opd_ok he r
    exact .inl (.of (evMakeSlice_new he hv hu))
  · rename_i hop
    unfold execOp; simp only [hop]
    exact .inl (.of (evMakeMap_new E he))
  · rename_i t x y yt hop
    unfold execOp; simp only [hop]
    obtain ⟨v, hv, he⟩ := opd_ok he r
    obtain ⟨u, hu, he⟩ := opd_ok he r
    split at he <;> try (cases he; done)
    rename_i a1 _
    split at he <;> try (cases he; done)
    rename_i b1
    rw [Rv] at hv hu
    obtain ⟨v, hk, hall⟩ := evFloat_any (P := P) he E
    refine .inr ⟨v, hk, fun w => ?_⟩
    obtain ⟨V, w', h1, h2, h3⟩ := hall w
    have hg : (eqGuard .quo t x y (.float .f64 a1) (.float .f64 b1)).run P w = .ok () w := eqGuard_free (by simp) (by simp)
    have hrun : (do pure (.value (← opRun P .quo t x y (a.eval x) (a.eval y))) : Sem Next).run P w = .ok (.value V) w' := by
      rw [hv, hu]
      have : (binOp .quo t (.float .f64 a1) (.float .f64 b1)).run P w = .ok V w' := by rw [← h1]; simp [binOp]
      simp [opRun, hg, this]
    refine ⟨⟨V, w', hrun, h2⟩, fun V2 w2 h4 => ?_⟩
    have h4' := hrun.symm.trans h4
    cases h4'
    exact h3
  · cases he
end Go.Proofs.YtbmekbpgoakkbaaGreatDoor.Vx
