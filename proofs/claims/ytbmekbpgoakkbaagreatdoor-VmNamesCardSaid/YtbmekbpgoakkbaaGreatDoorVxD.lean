/- More operations of the evaluator: new memory, aggregates, numbers, strings, comparisons, append. No condition. -/
import Derived.Test.YtbmekbpgoakkbaaGreatDoorVxC
set_option linter.unusedVariables false
set_option linter.unusedSimpArgs false
set_option linter.constructorNameAsVariable false
set_option linter.unusedSectionVars false
namespace Go.Proofs.YtbmekbpgoakkbaaGreatDoor.Vx
open Go

section
variable {E : Env} {h : Heap} {nxt : Nat} {w : World}

/-- what an operation that makes memory leaves -/
def Made' (P : Program) (s : Sem Value) (E : Env) (h : Heap) (w : World) (k : K) : Prop :=
  ∃ v h' nxt' E' w' V, s.run P w = .ok V w' ∧ Rv E' v V ∧ HR E' h' nxt' w' ∧ Goes E h w E' h' w' ∧ k v h' nxt' = true

theorem Made'.same {P : Program} {s : Sem Value} {k : K} {v : AV} {V : Value} (hr : HR E h nxt w) (e : s.run P w = .ok V w) (r : Rv E v V) (hk : k v h nxt = true) : Made' P s E h w k :=
  ⟨v, h, nxt, E, w, V, e, r, hr, Goes.refl _ _ _, hk⟩

/-! #### box, alloc -/
noncomputable def evBox (el : TypeId) (v : AV) (h : Heap) (nxt : Nat) (k : K) : Bool :=
  cellsK v fun l => forceN (List.length l) fun n => newCells n l n ⟨0, some el, true⟩ h nxt (k (.p nxt 0))

theorem evBox_ok {P : Program} {el : TypeId} {v : AV} {V : Value} {k : K} (he : evBox el v h nxt k = true) (hv : Rv E v V) (hr : HR E h nxt w) : Made' P (Instr.box el V) E h w k := by
  obtain ⟨l, hl, _, he⟩ := cellsK_ok he hv
  rw [forceN_eq] at he
  have hlen := hl.length
  obtain ⟨h', E', e1, e2, e3, e4⟩ := newCells_ok (room := 0) (cells := V.cells) (el := el) he hr (Nat.le_refl _) ⟨_, hl, fun j _ => by simp⟩ (by simp at hlen; omega) (Esz.ok_new _ _ _ _ _)
  refine ⟨_, h', _, E', _, .pointer (some ⟨w.heap.size, 0, none⟩), ?_, by rw [Rv]; exact ⟨_, e1, rfl⟩, e2, e3, e4⟩
  simp [Instr.box, newVar, newRow]

noncomputable def evAlloc (P : Program) (t : TypeId) (h : Heap) (nxt : Nat) (k : K) : Bool := match P.info? t with
  | some i => match i.zero with
    | some z => evBox t (absV z) h nxt k
    | none => false
  | none => false

theorem evAlloc_ok {P : Program} {t : TypeId} {k : K} (he : evAlloc P t h nxt k = true) (hr : HR E h nxt w) : Made' P (Instr.alloc t true (.tuple #[])) E h w k := by
  unfold evAlloc at he
  split at he <;> try (cases he; done)
  rename_i i hi
  split at he <;> try (cases he; done)
  rename_i z hz
  obtain ⟨v, h', nxt', E', w', V, e1, e2⟩ := evBox_ok (P := P) (el := t) he (absV_ok E z) hr
  refine ⟨v, h', nxt', E', w', V, ?_, e2⟩
  have : (Instr.alloc t true (.tuple #[])).run P w = (Instr.box t z).run P w := by
    simp [Instr.alloc, Instr.box, run_zeroValue' hi hz]
  rw [this]; exact e1

/-! #### aggregates -/
theorem putL_toList : ∀ (vs : List Value) (arr : Array Value) (off : Nat), off + vs.length ≤ arr.size → (putL arr off vs).toList = arr.toList.take off ++ (vs ++ arr.toList.drop (off + vs.length))
  | [], arr, off, _ => by simp [putL]
  | v :: vs, arr, off, hn => by
    simp only [List.length_cons] at hn
    rw [putL, putL_toList vs _ _ (by simp; omega), Array.toList_setIfInBounds]
    apply List.ext_getElem?
    intro j
    simp only [List.getElem?_append, List.length_take, List.length_set, Array.length_toList, List.length_cons, List.getElem?_take, List.getElem?_set, List.getElem?_drop]
    rcases Nat.lt_trichotomy j off with hj | hj | hj
    · have h1 : j < min (off + 1) arr.size := by omega
      have h2 : j < min off arr.size := by omega
      have h3 : ¬ (off = j) := by omega
      have h4 : j < off + 1 := by omega
      simp [h1, h2, h3, h4, hj]
    · subst hj
      have h1 : j < min (j + 1) arr.size := by omega
      have h2 : ¬ (j < min j arr.size) := by omega
      have h5 : j - min j arr.size = 0 := by omega
      have h6 : j < arr.size := by omega
      simp [h1, h2, h5, h6]
    · have h5 : min (off + 1) arr.size = off + 1 := by omega
      have h6 : min off arr.size = off := by omega
      obtain ⟨d, rfl⟩ : ∃ d, j = off + 1 + d := ⟨j - (off + 1), by omega⟩
      have h1 : ¬ (off + 1 + d < off + 1) := by omega
      have h2 : ¬ (off + 1 + d < off) := by omega
      have h7 : off + 1 + d - off = d + 1 := by omega
      have h8 : off + 1 + d - (off + 1) = d := by omega
      rw [h5, h6, if_neg h1, if_neg h2, h7, h8, List.getElem?_cons_succ]
      by_cases hd : d < vs.length
      · rw [if_pos hd, if_pos (by omega)]
      · rw [if_neg hd, if_neg (by omega), if_neg (by omega)]
        congr 1
        omega

theorem foldl_put (vs : List Value) : ∀ (arr : Array Value) (off : Nat), vs.toArray.zipIdx.foldl (fun cs (c, j) => cs.setIfInBounds (off + j) c) arr = putL arr off vs := by
  intro arr off
  rw [← Array.foldl_toList]
  have : ∀ (vs : List Value) (arr : Array Value) (s : Nat), (vs.zipIdx s).foldl (fun cs (p : Value × Nat) => cs.setIfInBounds (off + p.2) p.1) arr = putL arr (off + s) vs := by
    intro vs
    induction vs with
    | nil => intro arr s; rfl
    | cons v vs ih => intro arr s; simp only [List.zipIdx_cons, List.foldl_cons, putL]; rw [ih]; rfl
  simpa using this vs arr 0

/-- a list laid over another one from off on -/
noncomputable def overK (l cells : List AV) (off : Nat) (k : List AV → Bool) : Bool :=
  forceL (List.take off cells ++ (l ++ List.drop (off + List.length l) cells)) k

theorem overK_ok {l cells : List AV} {vs : List Value} {arr : Array Value} {off : Nat} {k : List AV → Bool} (he : overK l cells off k = true) (hl : RvL E l vs) (hc : RvL E cells arr.toList) (hn : off + vs.length ≤ arr.size) :
    ∃ cells', RvL E cells' (putL arr off vs).toList ∧ k cells' = true := by
  unfold overK at he
  rw [forceL_eq] at he
  refine ⟨_, ?_, he⟩
  rw [putL_toList _ _ _ hn, hl.length]
  exact (hc.take _).append (hl.append (hc.drop _))

/-- the parts laid into the cells -/
noncomputable def fillK (place : Nat → Option (Nat × Nat)) (parts : List (Nat × AV)) : List AV → (List AV → Bool) → Bool :=
  List.rec (motive := fun _ => List AV → (List AV → Bool) → Bool) (fun cells k => k cells)
    (fun p _ ih cells k => match place p.1 with
      | some (off, size) => cellsK p.2 fun l => bc (lenIs l size) (bc (Nat.ble (off + size) (List.length cells)) (overK l cells off fun cells' => ih cells' k) false) false
      | none => false) parts

def RvP (E : Env) : List (Nat × AV) → List (Nat × Value) → Prop
  | [], vs => vs = []
  | p :: ps, vs => ∃ V vs', vs = (p.1, V) :: vs' ∧ Rv E p.2 V ∧ RvP E ps vs'

theorem fillK_ok {place : Nat → Option (Nat × Nat)} : ∀ (parts : List (Nat × AV)) {vs : List (Nat × Value)} {cells : List AV} {arr : Array Value} {k : List AV → Bool}, fillK place parts cells k = true →
    RvP E parts vs → RvL E cells arr.toList → ∃ cells' arr', Instr.fill place arr vs = some arr' ∧ arr'.size = arr.size ∧ RvL E cells' arr'.toList ∧ k cells' = true
  | [], _, cells, arr, k, he, rp, rc => by
    rw [RvP] at rp; subst rp
    exact ⟨cells, arr, rfl, rfl, rc, he⟩
  | (i, v) :: parts, _, cells, arr, k, he, rp, rc => by
    obtain ⟨V, vs', rfl, rv, rp⟩ := rp
    have he : (match place i with
      | some (off, size) => cellsK v fun l => bc (lenIs l size) (bc (Nat.ble (off + size) (List.length cells)) (overK l cells off fun cells' => fillK place parts cells' k) false) false
      | none => false) = true := he
    split at he <;> try (cases he; done)
    rename_i off size hp
    obtain ⟨l, hl, _, he⟩ := cellsK_ok he rv
    obtain ⟨h1, he⟩ := bc_and he
    obtain ⟨h2, he⟩ := bc_and he
    have h1 := lenIs_ok h1
    have h2 := Nat.le_of_ble_eq_true h2
    have hlen := hl.length
    have hcl := rc.length
    obtain ⟨cells', rc', he⟩ := overK_ok he hl rc (by simp at hlen hcl ⊢; omega)
    obtain ⟨c2, arr2, g1, g2, g3, g4⟩ := fillK_ok parts he rp rc'
    refine ⟨c2, arr2, ?_, by simpa using g2, g3, g4⟩
    have hs : V.cells.size = size := by simp at hlen; omega
    have hf := foldl_put V.cells.toList arr off
    rw [Array.toArray_toList] at hf
    have hcond : ¬ ((decide (V.cells.size ≠ size) || decide (off + V.cells.size > arr.size)) = true) := by simp at hcl hlen ⊢; omega
    simp only [Instr.fill, hp]
    rw [if_neg hcond, hf]
    exact g1

theorem run_mapM {α β : Type} {P : Program} {f : α → Sem β} {g : α → β} : ∀ (l : List α), (∀ x ∈ l, (f x).run P w = .ok (g x) w) → (l.mapM f).run P w = .ok (l.map g) w
  | [], _ => by simp
  | x :: l, hx => by
    rw [List.mapM_cons, Sem.run_bind, hx x (by simp)]
    simp only [Result.andThen_ok, Sem.run_bind, run_mapM l (fun y hy => hx y (by simp [hy])), Sem.run_pure]
    rfl

theorem run_mapMA {α β : Type} {P : Program} {f : α → Sem β} {g : α → β} (l : Array α) (hx : ∀ x ∈ l, (f x).run P w = .ok (g x) w) : (l.mapM f).run P w = .ok (l.map g) w := by
  rw [Array.mapM_eq_mapM_toList, Sem.run_map, run_mapM l.toList (fun x hh => hx x (by simpa using hh))]
  show Result.ok (l.toList.map g).toArray w = _
  congr 1
  apply Array.ext'
  simp

noncomputable def evBuild (P : Program) (t : TypeId) (parts : List (Nat × AV)) (k : AV → Bool) : Bool := match P.info? t with
  | some i => match i.zero with
    | some z => match P.underlying t with
      | some (.struct fs) => bc (List.all fs.toList fun f => (P.info? f.type).isSome) (fillK ((fs.map fun f => (f.offset, P.cellsOf f.type))[·]?) parts (List.map abs1 z.cells.toList) fun l => k (.ag l)) false
      | some (.array _ el) => match P.info? el with
        | some j => fillK (fun i => some (i * j.size, j.size)) parts (List.map abs1 z.cells.toList) fun l => k (.ag l)
        | none => false
      | _ => false
    | none => false
  | none => false

theorem evBuild_ok {P : Program} {t : TypeId} {parts : List (Nat × AV)} {vs : Array (Nat × Value)} {k : AV → Bool} (he : evBuild P t parts k = true) (rp : RvP E parts vs.toList) :
    ∃ v W, (Instr.build t vs).run P w = .ok W w ∧ Rv E v W ∧ k v = true := by
  unfold evBuild at he
  split at he <;> try (cases he; done)
  rename_i i hi
  split at he <;> try (cases he; done)
  rename_i z hz
  split at he <;> try (cases he; done)
  · rename_i fs hu
    obtain ⟨hall, he⟩ := bc_and he
    obtain ⟨l, arr, h1, _, h2, h3⟩ := fillK_ok parts he rp (arr := z.cells) (abs1L_ok E _)
    refine ⟨_, .agg arr, ?_, by rw [Rv]; exact ⟨arr.toList, by simp, h2⟩, h3⟩
    have hm : (fs.mapM fun f => do pure (f.offset, ← Go.sizeOf f.type) : Sem _).run P w = .ok (fs.map fun f => (f.offset, P.cellsOf f.type)) w := by
      refine run_mapMA fs fun f hf => ?_
      have := List.all_eq_true.1 hall f (by simpa using hf)
      obtain ⟨j, hj⟩ := Option.isSome_iff_exists.1 this
      simp [run_sizeOf' hj, Program.cellsOf, hj]
    simp only [Instr.build, Sem.run_bind, run_zeroValue' hi hz, Sem.run_pure, Result.andThen_ok, run_underlying' hu, hm, h1]
  · rename_i n el hu
    split at he <;> try (cases he; done)
    rename_i j hj
    obtain ⟨l, arr, h1, _, h2, h3⟩ := fillK_ok parts he rp (arr := z.cells) (abs1L_ok E _)
    refine ⟨_, .agg arr, ?_, by rw [Rv]; exact ⟨arr.toList, by simp, h2⟩, h3⟩
    simp only [Instr.build, Sem.run_bind, run_zeroValue' hi hz, Sem.run_pure, Result.andThen_ok, run_underlying' hu, run_sizeOf' hj, h1]

/-- the zero cells of n elements -/
noncomputable def zerosL (z : List AV) (n : Nat) : List AV := Nat.rec (motive := fun _ => List AV) [] (fun _ ih => z ++ ih) n

theorem zeros_ok {z : Array Value} (_ : z.size ≠ 0) : ∀ (n : Nat), RvL E (zerosL (List.map abs1 z.toList) n) ((Array.range (n * z.size)).map (z[· % z.size]!)).toList := by
  intro n
  induction n with
  | zero => simp [zerosL]; exact .nil
  | succ n ih =>
    have e : ((Array.range ((n + 1) * z.size)).map (z[· % z.size]!)).toList = z.toList ++ ((Array.range (n * z.size)).map (z[· % z.size]!)).toList := by
      apply List.ext_getElem
      · simp [Nat.add_mul]; omega
      · intro j h1 h2
        simp only [Array.toList_map, Array.toList_range, List.getElem_map, List.getElem_range, List.getElem_append, Array.length_toList]
        split
        · rename_i hj
          rw [Nat.mod_eq_of_lt hj]
          simp [hj]
        · rename_i hj
          congr 1
          rw [Nat.mod_eq_sub_mod (by omega)]
    rw [e]
    exact (abs1L_ok E _).append ih

noncomputable def evBuildSlice (P : Program) (t : TypeId) (len : Nat) (parts : List (Nat × AV)) (h : Heap) (nxt : Nat) (k : K) : Bool := match P.underlying t with
  | some (.slice el) => match P.info? el with
    | some i => match i.zero with
      | some z => bc (Nat.beq z.cells.size i.size) (bc (Nat.ble 1 i.size) (bc (Nat.ble (len * i.size) 16777216)
          (fillK (fun j => some (j * i.size, i.size)) parts (zerosL (List.map abs1 z.cells.toList) len) fun l => forceN (Nat.mul len i.size) fun n => newCells i.size l n ⟨0, some el, true⟩ h nxt (k (.sl nxt 0 len len))) false) false) false
      | none => false
    | none => false
  | _ => false

theorem evBuildSlice_ok {P : Program} {t : TypeId} {len : Nat} {parts : List (Nat × AV)} {vs : Array (Nat × Value)} {k : K} (he : evBuildSlice P t len parts h nxt k = true) (rp : RvP E parts vs.toList) (hr : HR E h nxt w) :
    Made' P (Instr.buildSlice t len vs) E h w k := by
  unfold evBuildSlice at he
  split at he <;> try (cases he; done)
  rename_i el hu
  split at he <;> try (cases he; done)
  rename_i i hi
  split at he <;> try (cases he; done)
  rename_i z hz
  obtain ⟨hs, he⟩ := bc_and he
  obtain ⟨h1, he⟩ := bc_and he
  obtain ⟨h2, he⟩ := bc_and he
  have hs := Nat.eq_of_beq_eq_true hs
  have h1 := Nat.le_of_ble_eq_true h1
  have h2 := Nat.le_of_ble_eq_true h2
  have hzz := zeros_ok (E := E) (z := z.cells) (by omega) len
  obtain ⟨l, arr, g1, g2, g3, g4⟩ := fillK_ok parts he rp (arr := (Array.range (len * z.cells.size)).map (z.cells[· % z.cells.size]!)) hzz
  rw [forceN_eq] at g4
  have hlen := g3.length
  have hsz : arr.size = len * i.size := by rw [g2]; simp [hs]
  obtain ⟨h', E', e1, e2, e3, e4⟩ := newCells_ok (room := 0) (cells := arr) (el := el) g4 hr (by simp at hlen; show len * i.size ≤ l.length; omega) ⟨_, g3, fun j _ => by simp⟩ (Nat.le_of_eq hsz.symm) (Esz.ok_new _ _ _ _ _)
  refine ⟨_, h', _, E', _, .slice (some ⟨w.heap.size, 0, none⟩) len len, ?_, by rw [Rv]; exact ⟨_, e1, rfl⟩, e2, e3, e4⟩
  have hle : ¬ (len * i.size > 2 ^ 24) := by omega
  rw [hs] at g1
  simp only [Instr.buildSlice, Sem.run_bind, run_underlying' hu, Result.andThen_ok, run_sizeOf' hi, hle, if_false, Sem.run_pure]
  by_cases hzero : len * i.size = 0
  · have hl0 : len = 0 := by rcases Nat.mul_eq_zero.1 hzero with e | e <;> omega
    subst hl0
    have : ((Array.range (0 * i.size)).map (z.cells[· % i.size]!)) = #[] := by simp
    rw [this] at g1
    simp only [Nat.zero_mul, if_true, Sem.run_bind, Sem.run_pure, Result.andThen_ok]
    have e0 : ((Array.range 0).map ((#[] : Array Value)[· % (#[] : Array Value).size]!)) = #[] := by simp
    rw [e0, g1]
    simp [newRow]
  · simp only [hzero, if_false, Sem.run_bind, run_zeroValue' hi hz, Result.andThen_ok, Sem.run_pure, hs, g1]
    simp [newRow]

/-! #### make([]T, n) -/
noncomputable def evMakeSlice (P : Program) (t : TypeId) (ln cp : AV) (h : Heap) (nxt : Nat) (k : K) : Bool := match ln with
  | .i _ a => match cp with
    | .i _ b => natOf a fun len => natOf b fun cap => match P.underlying t with
      | some (.slice el) => match P.info? el with
        | some i => match i.zero with
          | some z => bc (Nat.beq z.cells.size i.size) (bc (Nat.ble 1 i.size) (bc (Nat.ble len cap) (bc (Nat.ble cap 16777216) (bc (Nat.ble i.bytes 65536)
              (forceL (zerosL (List.map abs1 z.cells.toList) cap) fun l => forceN (Nat.mul cap i.size) fun n => newCells i.size l n ⟨0, some el, true⟩ h nxt (k (.sl nxt 0 len cap))) false) false) false) false) false
          | none => false
        | none => false
      | _ => false
    | _ => false
  | _ => false

theorem wrap64_small {n : Nat} (h : n ≤ 16777216) : IntKind.i64.wrap (n : Int) = n := by
  have e : IntKind.i64.bits = 64 := rfl
  unfold IntKind.wrap
  simp only [e]
  have h2 : (n : Int) % 2 ^ 64 = n := by omega
  rw [h2]
  have h3 : ¬ ((n : Int) ≥ 2 ^ (64 - 1)) := by omega
  simp only [h3, decide_false, Bool.and_false, Bool.false_eq_true, if_false]

theorem evMakeSlice_ok {P : Program} {t : TypeId} {ln cp : AV} {LN CP : Value} {k : K} (he : evMakeSlice P t ln cp h nxt k = true) (rl : Rv E ln LN) (rc : Rv E cp CP) (hr : HR E h nxt w) :
    Made' P (Instr.makeSlice t LN CP) E h w k := by
  cases ln <;> simp only [evMakeSlice, Bool.false_eq_true] at he
  rename_i ka a
  cases cp <;> simp only [Bool.false_eq_true] at he
  rename_i kb b
  rw [Rv] at rl rc; subst rl; subst rc
  obtain ⟨len, ea, he1⟩ := natOf_ok he
  obtain ⟨cap, eb, he2⟩ := natOf_ok he1
  subst ea; subst eb
  clear he he1
  have he := he2
  clear he2
  split at he <;> try (cases he; done)
  rename_i el hu
  split at he <;> try (cases he; done)
  rename_i i hi
  split at he <;> try (cases he; done)
  rename_i z hz
  obtain ⟨hs, he⟩ := bc_and he
  obtain ⟨h1, he⟩ := bc_and he
  obtain ⟨h2, he⟩ := bc_and he
  obtain ⟨h3, he⟩ := bc_and he
  obtain ⟨h4, he⟩ := bc_and he
  have hs := Nat.eq_of_beq_eq_true hs
  have h1 := Nat.le_of_ble_eq_true h1
  have h2 := Nat.le_of_ble_eq_true h2
  have h3 := Nat.le_of_ble_eq_true h3
  have h4 := Nat.le_of_ble_eq_true h4
  rw [forceL_eq, forceN_eq] at he
  have hzz := zeros_ok (E := E) (z := z.cells) (by omega) cap
  rw [hs] at hzz
  have hlen := hzz.length
  obtain ⟨h', E', e1, e2, e3, e4⟩ := newCells_ok (room := 0) (cells := (Array.range (cap * i.size)).map (z.cells[· % i.size]!)) (el := el) he hr (by simp at hlen; show cap * i.size ≤ _; omega) ⟨_, hzz, fun j _ => by rw [List.getD_eq_getElem?_getD, Array.getD_eq_getD_getElem?, Array.getElem?_toList]⟩ (by show cap * i.size ≤ _; simp) (Esz.ok_new _ _ _ _ _)
  refine ⟨_, h', _, E', _, .slice (some ⟨w.heap.size, 0, none⟩) len cap, ?_, by rw [Rv]; exact ⟨_, e1, rfl⟩, e2, e3, e4⟩
  have hb : ¬ ((i.bytes : Int) * (cap : Int) > 2 ^ 48) := by
    have := Nat.mul_le_mul h4 h3
    have e : ((i.bytes : Int) * (cap : Int)) = ((i.bytes * cap : Nat) : Int) := by simp
    rw [e]; omega
  have hc : ¬ ((cap : Int) < 0) := by omega
  have hl : ¬ ((len : Int) < 0) := by omega
  have hlc : ¬ ((len : Int) > (cap : Int)) := by omega
  simp only [Instr.makeSlice, Sem.run_bind, run_underlying' hu, Result.andThen_ok, asInt, asIntOf, Sem.run_pure, run_typeInfo' hi, wrap64_small (show len ≤ 16777216 by omega), wrap64_small h3]
  simp only [hc, hl, hlc, hb, decide_false, Bool.or_false, Bool.false_eq_true, if_false, Int.toNat_natCast, Sem.run_bind, run_askRoom, Result.andThen_ok, run_sizeOf' hi]
  by_cases hzero : cap * i.size = 0
  · have hl0 : cap = 0 := by rcases Nat.mul_eq_zero.1 hzero with e | e <;> omega
    subst hl0
    have e0 : Array.range (0 * i.size) = #[] := by simp
    rw [e0]
    simp [newRow]
  · simp only [hzero, if_false, Sem.run_bind, run_zeroValue' hi hz, Result.andThen_ok, Sem.run_pure, hs]
    simp [newRow]

/-! #### numbers, by the model's own text -/
noncomputable def pureRun {α : Type} (P : Program) (s : Sem α) : Option α :=
  Sem.rec (motive := fun _ => Option α) (fun a => some a) (fun _ _ _ _ => none) (fun _ _ _ _ _ => none) (fun _ _ _ => none) (fun _ _ _ => none) (fun _ _ _ _ => none) (fun _ _ _ => none)
    (fun _ _ _ => none) (fun _ _ _ _ => none) (fun _ _ _ => none) (fun _ _ _ => none) (fun _ ih => ih P) (fun _ _ ih => ih) (fun _ => none) s

theorem pureRun_ok {α : Type} {P : Program} {s : Sem α} {a : α} (hh : pureRun P s = some a) : s.run P w = .ok a w := by
  induction s with
  | pure b => cases hh; rfl
  | program k ih => exact ih P hh
  | mark m k ih => exact ih hh
  | _ => cases hh

noncomputable def scal (x : AV) : Option Value := match x with
  | .b x => some (.bool x)
  | .i k n => some (.int k n)
  | .f k n => some (.float k n)
  | .s l n => some (.string (str l n))
  | _ => none
theorem scal_ok {x : AV} {X V : Value} (he : scal x = some V) (r : Rv E x X) : X = V := by
  cases x <;> simp only [scal] at he <;> first | cases he | skip
  all_goals (rw [Rv] at r; rw [r])

noncomputable def unscK (v : Value) (k : AV → Bool) : Bool := match v with
  | .bool x => forceB x fun x => k (.b x)
  | .int kk n => forceI n fun n => k (.i kk n)
  | .float kk n => forceN n fun n => k (.f kk n)
  | _ => false
theorem unscK_ok {v : Value} {k : AV → Bool} (he : unscK v k = true) : ∃ a, Rv E a v ∧ k a = true := by
  unfold unscK at he
  split at he
  · rw [forceB_eq] at he; exact ⟨_, by rw [Rv], he⟩
  · rw [forceI_eq] at he; exact ⟨_, by rw [Rv], he⟩
  · rw [forceN_eq] at he; exact ⟨_, by rw [Rv], he⟩
  · cases he

/-- an operation on one or two scalars, by the model's text -/
noncomputable def pure1 (P : Program) (f : Value → Sem Value) (x : AV) (k : AV → Bool) : Bool := match scal x with
  | some X => match pureRun P (f X) with
    | some V => unscK V k
    | none => false
  | none => false
theorem pure1_ok {P : Program} {f : Value → Sem Value} {x : AV} {X : Value} {k : AV → Bool} (he : pure1 P f x k = true) (r : Rv E x X) : ∃ v W, (f X).run P w = .ok W w ∧ Rv E v W ∧ k v = true := by
  unfold pure1 at he
  split at he <;> try (cases he; done)
  rename_i V hV
  split at he <;> try (cases he; done)
  rename_i W hW
  obtain ⟨a, ha, hk⟩ := unscK_ok (E := E) he
  rw [scal_ok hV r]
  exact ⟨a, W, pureRun_ok hW, ha, hk⟩

noncomputable def pure2 (P : Program) (f : Value → Value → Sem Value) (x y : AV) (k : AV → Bool) : Bool := match scal x with
  | some X => pure1 P (f X) y k
  | none => false
theorem pure2_ok {P : Program} {f : Value → Value → Sem Value} {x y : AV} {X Y : Value} {k : AV → Bool} (he : pure2 P f x y k = true) (r : Rv E x X) (r' : Rv E y Y) : ∃ v W, (f X Y).run P w = .ok W w ∧ Rv E v W ∧ k v = true := by
  unfold pure2 at he
  split at he <;> try (cases he; done)
  rename_i V hV
  rw [scal_ok hV r]
  exact pure1_ok he r'
end
end Go.Proofs.YtbmekbpgoakkbaaGreatDoor.Vx
