/- New blocks; expressions over symbols; what is known of them. No condition. -/
import Derived.Test.YtbmekbpgoakkbaaGreatDoorVxC
import Derived.Laws.StructEq
import Derived.Laws.FloatBits
set_option linter.unusedVariables false
set_option linter.unusedSimpArgs false
set_option linter.constructorNameAsVariable false
set_option linter.unusedSectionVars false
namespace Go.Proofs.YtbmekbpgoakkbaaGreatDoor.Vx
open Go

section
variable {E : Env} {h : Heap} {nxt : Nat} {w : World}

/-- what an operation that makes memory leaves -/
def Made' (P : Program) (s : Sem Value) (E : Env) (h : Heap) (w : World) (k : K) : Prop :=
  ∃ v h' nxt' E' w' V, s.run P w = .ok V w' ∧ Rv E' v V ∧ HR E' h' nxt' w' ∧ Goes E h w E' h' w' ∧ k v h' nxt' = true

theorem Made'.same {P : Program} {s : Sem Value} {k : K} {v : AV} {V : Value} (hr : HR E h nxt w) (e : s.run P w = .ok V w) (r : Rv E v V) (hk : k v h nxt = true) : Made' P s E h w k :=
  ⟨v, h, nxt, E, w, V, e, r, hr, Goes.refl _ _ _, hk⟩

/-! #### box, alloc -/
noncomputable def evBox (el : TypeId) (v : AV) (h : Heap) (nxt : Nat) (k : K) : Bool :=
  cellsK v fun l => forceN (List.length l) fun n => newCells n l n ⟨0, some el, true⟩ h nxt (k (.p nxt 0))

theorem evBox_ok {P : Program} {el : TypeId} {v : AV} {V : Value} {k : K} (he : evBox el v h nxt k = true) (hv : Rv E v V) (hr : HR E h nxt w) : Made' P (Instr.box el V) E h w k := by
  obtain ⟨l, hl, _, he⟩ := cellsK_ok he hv
  rw [forceN_eq] at he
  have hlen := hl.length
  obtain ⟨h', E', e1, e2, e3, e4⟩ := newCells_ok (room := 0) (cells := V.cells) (el := el) he hr (Nat.le_refl _) ⟨_, hl, fun j _ => by simp⟩ (by simp at hlen; omega) (Esz.ok_new _ _ _ _ _)
  refine ⟨_, h', _, E', _, .pointer (some ⟨w.heap.size, 0, none⟩), ?_, by rw [Rv]; exact ⟨_, e1, rfl⟩, e2, e3, e4⟩
  simp [Instr.box, newVar, newRow]

noncomputable def evAlloc (P : Program) (t : TypeId) (h : Heap) (nxt : Nat) (k : K) : Bool := match P.info? t with
  | some i => match i.zero with
    | some z => evBox t (absV z) h nxt k
    | none => false
  | none => false

theorem evAlloc_ok {P : Program} {t : TypeId} {k : K} (he : evAlloc P t h nxt k = true) (hr : HR E h nxt w) : Made' P (Instr.alloc t true (.tuple #[])) E h w k := by
  unfold evAlloc at he
  split at he <;> try (cases he; done)
  rename_i i hi
  split at he <;> try (cases he; done)
  rename_i z hz
  obtain ⟨v, h', nxt', E', w', V, e1, e2⟩ := evBox_ok (P := P) (el := t) he (absV_ok E z) hr
  refine ⟨v, h', nxt', E', w', V, ?_, e2⟩
  have : (Instr.alloc t true (.tuple #[])).run P w = (Instr.box t z).run P w := by
    simp [Instr.alloc, Instr.box, run_zeroValue' hi hz]
  rw [this]; exact e1

/-! #### aggregates -/
theorem putL_toList : ∀ (vs : List Value) (arr : Array Value) (off : Nat), off + vs.length ≤ arr.size → (putL arr off vs).toList = arr.toList.take off ++ (vs ++ arr.toList.drop (off + vs.length))
  | [], arr, off, _ => by simp [putL]
  | v :: vs, arr, off, hn => by
    simp only [List.length_cons] at hn
    rw [putL, putL_toList vs _ _ (by simp; omega), Array.toList_setIfInBounds]
    apply List.ext_getElem?
    intro j
    simp only [List.getElem?_append, List.length_take, List.length_set, Array.length_toList, List.length_cons, List.getElem?_take, List.getElem?_set, List.getElem?_drop]
    rcases Nat.lt_trichotomy j off with hj | hj | hj
    · have h1 : j < min (off + 1) arr.size := by omega
      have h2 : j < min off arr.size := by omega
      have h3 : ¬ (off = j) := by omega
      have h4 : j < off + 1 := by omega
      simp [h1, h2, h3, h4, hj]
    · subst hj
      have h1 : j < min (j + 1) arr.size := by omega
      have h2 : ¬ (j < min j arr.size) := by omega
      have h5 : j - min j arr.size = 0 := by omega
      have h6 : j < arr.size := by omega
      simp [h1, h2, h5, h6]
    · have h5 : min (off + 1) arr.size = off + 1 := by omega
      have h6 : min off arr.size = off := by omega
      obtain ⟨d, rfl⟩ : ∃ d, j = off + 1 + d := ⟨j - (off + 1), by omega⟩
      have h1 : ¬ (off + 1 + d < off + 1) := by omega
      have h2 : ¬ (off + 1 + d < off) := by omega
      have h7 : off + 1 + d - off = d + 1 := by omega
      have h8 : off + 1 + d - (off + 1) = d := by omega
      rw [h5, h6, if_neg h1, if_neg h2, h7, h8, List.getElem?_cons_succ]
      by_cases hd : d < vs.length
      · rw [if_pos hd, if_pos (by omega)]
      · rw [if_neg hd, if_neg (by omega), if_neg (by omega)]
        congr 1
        omega

theorem foldl_put (vs : List Value) : ∀ (arr : Array Value) (off : Nat), vs.toArray.zipIdx.foldl (fun cs (c, j) => cs.setIfInBounds (off + j) c) arr = putL arr off vs := by
  intro arr off
  rw [← Array.foldl_toList]
  have : ∀ (vs : List Value) (arr : Array Value) (s : Nat), (vs.zipIdx s).foldl (fun cs (p : Value × Nat) => cs.setIfInBounds (off + p.2) p.1) arr = putL arr (off + s) vs := by
    intro vs
    induction vs with
    | nil => intro arr s; rfl
    | cons v vs ih => intro arr s; simp only [List.zipIdx_cons, List.foldl_cons, putL]; rw [ih]; rfl
  simpa using this vs arr 0

/-- a list laid over another one from off on -/
noncomputable def overK (l cells : List AV) (off : Nat) (k : List AV → Bool) : Bool :=
  forceL (List.take off cells ++ (l ++ List.drop (off + List.length l) cells)) k

theorem overK_ok {l cells : List AV} {vs : List Value} {arr : Array Value} {off : Nat} {k : List AV → Bool} (he : overK l cells off k = true) (hl : RvL E l vs) (hc : RvL E cells arr.toList) (hn : off + vs.length ≤ arr.size) :
    ∃ cells', RvL E cells' (putL arr off vs).toList ∧ k cells' = true := by
  unfold overK at he
  rw [forceL_eq] at he
  refine ⟨_, ?_, he⟩
  rw [putL_toList _ _ _ hn, hl.length]
  exact (hc.take _).append (hl.append (hc.drop _))

/-- the parts laid into the cells -/
noncomputable def fillK (place : Nat → Option (Nat × Nat)) (parts : List (Nat × AV)) : List AV → (List AV → Bool) → Bool :=
  List.rec (motive := fun _ => List AV → (List AV → Bool) → Bool) (fun cells k => k cells)
    (fun p _ ih cells k => match place p.1 with
      | some (off, size) => cellsK p.2 fun l => bc (lenIs l size) (bc (Nat.ble (off + size) (List.length cells)) (overK l cells off fun cells' => ih cells' k) false) false
      | none => false) parts

def RvP (E : Env) : List (Nat × AV) → List (Nat × Value) → Prop
  | [], vs => vs = []
  | p :: ps, vs => ∃ V vs', vs = (p.1, V) :: vs' ∧ Rv E p.2 V ∧ RvP E ps vs'

theorem fillK_ok {place : Nat → Option (Nat × Nat)} : ∀ (parts : List (Nat × AV)) {vs : List (Nat × Value)} {cells : List AV} {arr : Array Value} {k : List AV → Bool}, fillK place parts cells k = true →
    RvP E parts vs → RvL E cells arr.toList → ∃ cells' arr', Instr.fill place arr vs = some arr' ∧ arr'.size = arr.size ∧ RvL E cells' arr'.toList ∧ k cells' = true
  | [], _, cells, arr, k, he, rp, rc => by
    rw [RvP] at rp; subst rp
    exact ⟨cells, arr, rfl, rfl, rc, he⟩
  | (i, v) :: parts, _, cells, arr, k, he, rp, rc => by
    obtain ⟨V, vs', rfl, rv, rp⟩ := rp
    have he : (match place i with
      | some (off, size) => cellsK v fun l => bc (lenIs l size) (bc (Nat.ble (off + size) (List.length cells)) (overK l cells off fun cells' => fillK place parts cells' k) false) false
      | none => false) = true := he
    split at he <;> try (cases he; done)
    rename_i off size hp
    obtain ⟨l, hl, _, he⟩ := cellsK_ok he rv
    obtain ⟨h1, he⟩ := bc_and he
    obtain ⟨h2, he⟩ := bc_and he
    have h1 := lenIs_ok h1
    have h2 := Nat.le_of_ble_eq_true h2
    have hlen := hl.length
    have hcl := rc.length
    obtain ⟨cells', rc', he⟩ := overK_ok he hl rc (by simp at hlen hcl ⊢; omega)
    obtain ⟨c2, arr2, g1, g2, g3, g4⟩ := fillK_ok parts he rp rc'
    refine ⟨c2, arr2, ?_, by simpa using g2, g3, g4⟩
    have hs : V.cells.size = size := by simp at hlen; omega
    have hf := foldl_put V.cells.toList arr off
    rw [Array.toArray_toList] at hf
    have hcond : ¬ ((decide (V.cells.size ≠ size) || decide (off + V.cells.size > arr.size)) = true) := by simp at hcl hlen ⊢; omega
    simp only [Instr.fill, hp]
    rw [if_neg hcond, hf]
    exact g1

theorem run_mapM {α β : Type} {P : Program} {f : α → Sem β} {g : α → β} : ∀ (l : List α), (∀ x ∈ l, (f x).run P w = .ok (g x) w) → (l.mapM f).run P w = .ok (l.map g) w
  | [], _ => by simp
  | x :: l, hx => by
    rw [List.mapM_cons, Sem.run_bind, hx x (by simp)]
    simp only [Result.andThen_ok, Sem.run_bind, run_mapM l (fun y hy => hx y (by simp [hy])), Sem.run_pure]
    rfl

theorem run_mapMA {α β : Type} {P : Program} {f : α → Sem β} {g : α → β} (l : Array α) (hx : ∀ x ∈ l, (f x).run P w = .ok (g x) w) : (l.mapM f).run P w = .ok (l.map g) w := by
  rw [Array.mapM_eq_mapM_toList, Sem.run_map, run_mapM l.toList (fun x hh => hx x (by simpa using hh))]
  show Result.ok (l.toList.map g).toArray w = _
  congr 1
  apply Array.ext'
  simp

noncomputable def evBuild (P : Program) (t : TypeId) (parts : List (Nat × AV)) (k : AV → Bool) : Bool := match P.info? t with
  | some i => match i.zero with
    | some z => match P.underlying t with
      | some (.struct fs) => bc (List.all fs.toList fun f => (P.info? f.type).isSome) (fillK ((fs.map fun f => (f.offset, P.cellsOf f.type))[·]?) parts (List.map abs1 z.cells.toList) fun l => k (.ag l)) false
      | some (.array _ el) => match P.info? el with
        | some j => fillK (fun i => some (i * j.size, j.size)) parts (List.map abs1 z.cells.toList) fun l => k (.ag l)
        | none => false
      | _ => false
    | none => false
  | none => false

theorem evBuild_ok {P : Program} {t : TypeId} {parts : List (Nat × AV)} {vs : Array (Nat × Value)} {k : AV → Bool} (he : evBuild P t parts k = true) (rp : RvP E parts vs.toList) :
    ∃ v W, (Instr.build t vs).run P w = .ok W w ∧ Rv E v W ∧ k v = true := by
  unfold evBuild at he
  split at he <;> try (cases he; done)
  rename_i i hi
  split at he <;> try (cases he; done)
  rename_i z hz
  split at he <;> try (cases he; done)
  · rename_i fs hu
    obtain ⟨hall, he⟩ := bc_and he
    obtain ⟨l, arr, h1, _, h2, h3⟩ := fillK_ok parts he rp (arr := z.cells) (abs1L_ok E _)
    refine ⟨_, .agg arr, ?_, by rw [Rv]; exact ⟨arr.toList, by simp, h2⟩, h3⟩
    have hm : (fs.mapM fun f => do pure (f.offset, ← Go.sizeOf f.type) : Sem _).run P w = .ok (fs.map fun f => (f.offset, P.cellsOf f.type)) w := by
      refine run_mapMA fs fun f hf => ?_
      have := List.all_eq_true.1 hall f (by simpa using hf)
      obtain ⟨j, hj⟩ := Option.isSome_iff_exists.1 this
      simp [run_sizeOf' hj, Program.cellsOf, hj]
    simp only [Instr.build, Sem.run_bind, run_zeroValue' hi hz, Sem.run_pure, Result.andThen_ok, run_underlying' hu, hm, h1]
  · rename_i n el hu
    split at he <;> try (cases he; done)
    rename_i j hj
    obtain ⟨l, arr, h1, _, h2, h3⟩ := fillK_ok parts he rp (arr := z.cells) (abs1L_ok E _)
    refine ⟨_, .agg arr, ?_, by rw [Rv]; exact ⟨arr.toList, by simp, h2⟩, h3⟩
    simp only [Instr.build, Sem.run_bind, run_zeroValue' hi hz, Sem.run_pure, Result.andThen_ok, run_underlying' hu, run_sizeOf' hj, h1]

/-- the zero cells of n elements -/
noncomputable def zerosL (z : List AV) (n : Nat) : List AV := Nat.rec (motive := fun _ => List AV) [] (fun _ ih => z ++ ih) n

theorem zeros_ok {z : Array Value} (_ : z.size ≠ 0) : ∀ (n : Nat), RvL E (zerosL (List.map abs1 z.toList) n) ((Array.range (n * z.size)).map (z[· % z.size]!)).toList := by
  intro n
  induction n with
  | zero => simp [zerosL]; exact .nil
  | succ n ih =>
    have e : ((Array.range ((n + 1) * z.size)).map (z[· % z.size]!)).toList = z.toList ++ ((Array.range (n * z.size)).map (z[· % z.size]!)).toList := by
      apply List.ext_getElem
      · simp [Nat.add_mul]; omega
      · intro j h1 h2
        simp only [Array.toList_map, Array.toList_range, List.getElem_map, List.getElem_range, List.getElem_append, Array.length_toList]
        split
        · rename_i hj
          rw [Nat.mod_eq_of_lt hj]
          simp [hj]
        · rename_i hj
          congr 1
          rw [Nat.mod_eq_sub_mod (by omega)]
    rw [e]
    exact (abs1L_ok E _).append ih

noncomputable def evBuildSlice (P : Program) (t : TypeId) (len : Nat) (parts : List (Nat × AV)) (h : Heap) (nxt : Nat) (k : K) : Bool := match P.underlying t with
  | some (.slice el) => match P.info? el with
    | some i => match i.zero with
      | some z => bc (Nat.beq z.cells.size i.size) (bc (Nat.ble 1 i.size) (bc (Nat.ble (len * i.size) 16777216)
          (fillK (fun j => some (j * i.size, i.size)) parts (zerosL (List.map abs1 z.cells.toList) len) fun l => forceN (Nat.mul len i.size) fun n => newCells i.size l n ⟨0, some el, true⟩ h nxt (k (.sl nxt 0 len len))) false) false) false
      | none => false
    | none => false
  | _ => false

theorem evBuildSlice_ok {P : Program} {t : TypeId} {len : Nat} {parts : List (Nat × AV)} {vs : Array (Nat × Value)} {k : K} (he : evBuildSlice P t len parts h nxt k = true) (rp : RvP E parts vs.toList) (hr : HR E h nxt w) :
    Made' P (Instr.buildSlice t len vs) E h w k := by
  unfold evBuildSlice at he
  split at he <;> try (cases he; done)
  rename_i el hu
  split at he <;> try (cases he; done)
  rename_i i hi
  split at he <;> try (cases he; done)
  rename_i z hz
  obtain ⟨hs, he⟩ := bc_and he
  obtain ⟨h1, he⟩ := bc_and he
  obtain ⟨h2, he⟩ := bc_and he
  have hs := Nat.eq_of_beq_eq_true hs
  have h1 := Nat.le_of_ble_eq_true h1
  have h2 := Nat.le_of_ble_eq_true h2
  have hzz := zeros_ok (E := E) (z := z.cells) (by omega) len
  obtain ⟨l, arr, g1, g2, g3, g4⟩ := fillK_ok parts he rp (arr := (Array.range (len * z.cells.size)).map (z.cells[· % z.cells.size]!)) hzz
  rw [forceN_eq] at g4
  have hlen := g3.length
  have hsz : arr.size = len * i.size := by rw [g2]; simp [hs]
  obtain ⟨h', E', e1, e2, e3, e4⟩ := newCells_ok (room := 0) (cells := arr) (el := el) g4 hr (by simp at hlen; show len * i.size ≤ l.length; omega) ⟨_, g3, fun j _ => by simp⟩ (Nat.le_of_eq hsz.symm) (Esz.ok_new _ _ _ _ _)
  refine ⟨_, h', _, E', _, .slice (some ⟨w.heap.size, 0, none⟩) len len, ?_, by rw [Rv]; exact ⟨_, e1, rfl⟩, e2, e3, e4⟩
  have hle : ¬ (len * i.size > 2 ^ 24) := by omega
  rw [hs] at g1
  simp only [Instr.buildSlice, Sem.run_bind, run_underlying' hu, Result.andThen_ok, run_sizeOf' hi, hle, if_false, Sem.run_pure]
  by_cases hzero : len * i.size = 0
  · have hl0 : len = 0 := by rcases Nat.mul_eq_zero.1 hzero with e | e <;> omega
    subst hl0
    have : ((Array.range (0 * i.size)).map (z.cells[· % i.size]!)) = #[] := by simp
    rw [this] at g1
    simp only [Nat.zero_mul, if_true, Sem.run_bind, Sem.run_pure, Result.andThen_ok]
    have e0 : ((Array.range 0).map ((#[] : Array Value)[· % (#[] : Array Value).size]!)) = #[] := by simp
    rw [e0, g1]
    simp [newRow]
  · simp only [hzero, if_false, Sem.run_bind, run_zeroValue' hi hz, Result.andThen_ok, Sem.run_pure, hs, g1]
    simp [newRow]

/-! #### make([]T, n) -/
noncomputable def evMakeSlice (P : Program) (t : TypeId) (ln cp : AV) (h : Heap) (nxt : Nat) (k : K) : Bool := match ln with
  | .i _ a => match cp with
    | .i _ b => natOf a fun len => natOf b fun cap => match P.underlying t with
      | some (.slice el) => match P.info? el with
        | some i => match i.zero with
          | some z => bc (Nat.beq z.cells.size i.size) (bc (Nat.ble 1 i.size) (bc (Nat.ble len cap) (bc (Nat.ble cap 16777216) (bc (Nat.ble i.bytes 65536)
              (forceL (zerosL (List.map abs1 z.cells.toList) cap) fun l => forceN (Nat.mul cap i.size) fun n => newCells i.size l n ⟨0, some el, true⟩ h nxt (k (.sl nxt 0 len cap))) false) false) false) false) false
          | none => false
        | none => false
      | _ => false
    | _ => false
  | _ => false

theorem wrap64_small {n : Nat} (h : n ≤ 16777216) : IntKind.i64.wrap (n : Int) = n := by
  have e : IntKind.i64.bits = 64 := rfl
  unfold IntKind.wrap
  simp only [e]
  have h2 : (n : Int) % 2 ^ 64 = n := by omega
  rw [h2]
  have h3 : ¬ ((n : Int) ≥ 2 ^ (64 - 1)) := by omega
  simp only [h3, decide_false, Bool.and_false, Bool.false_eq_true, if_false]

theorem evMakeSlice_ok {P : Program} {t : TypeId} {ln cp : AV} {LN CP : Value} {k : K} (he : evMakeSlice P t ln cp h nxt k = true) (rl : Rv E ln LN) (rc : Rv E cp CP) (hr : HR E h nxt w) :
    Made' P (Instr.makeSlice t LN CP) E h w k := by
  cases ln <;> simp only [evMakeSlice, Bool.false_eq_true] at he
  rename_i ka a
  cases cp <;> simp only [Bool.false_eq_true] at he
  rename_i kb b
  rw [Rv] at rl rc; subst rl; subst rc
  obtain ⟨len, ea, he1⟩ := natOf_ok he
  obtain ⟨cap, eb, he2⟩ := natOf_ok he1
  subst ea; subst eb
  clear he he1
  have he := he2
  clear he2
  split at he <;> try (cases he; done)
  rename_i el hu
  split at he <;> try (cases he; done)
  rename_i i hi
  split at he <;> try (cases he; done)
  rename_i z hz
  obtain ⟨hs, he⟩ := bc_and he
  obtain ⟨h1, he⟩ := bc_and he
  obtain ⟨h2, he⟩ := bc_and he
  obtain ⟨h3, he⟩ := bc_and he
  obtain ⟨h4, he⟩ := bc_and he
  have hs := Nat.eq_of_beq_eq_true hs
  have h1 := Nat.le_of_ble_eq_true h1
  have h2 := Nat.le_of_ble_eq_true h2
  have h3 := Nat.le_of_ble_eq_true h3
  have h4 := Nat.le_of_ble_eq_true h4
  rw [forceL_eq, forceN_eq] at he
  have hzz := zeros_ok (E := E) (z := z.cells) (by omega) cap
  rw [hs] at hzz
  have hlen := hzz.length
  obtain ⟨h', E', e1, e2, e3, e4⟩ := newCells_ok (room := 0) (cells := (Array.range (cap * i.size)).map (z.cells[· % i.size]!)) (el := el) he hr (by simp at hlen; show cap * i.size ≤ _; omega) ⟨_, hzz, fun j _ => by rw [List.getD_eq_getElem?_getD, Array.getD_eq_getD_getElem?, Array.getElem?_toList]⟩ (by show cap * i.size ≤ _; simp) (Esz.ok_new _ _ _ _ _)
  refine ⟨_, h', _, E', _, .slice (some ⟨w.heap.size, 0, none⟩) len cap, ?_, by rw [Rv]; exact ⟨_, e1, rfl⟩, e2, e3, e4⟩
  have hb : ¬ ((i.bytes : Int) * (cap : Int) > 2 ^ 48) := by
    have := Nat.mul_le_mul h4 h3
    have e : ((i.bytes : Int) * (cap : Int)) = ((i.bytes * cap : Nat) : Int) := by simp
    rw [e]; omega
  have hc : ¬ ((cap : Int) < 0) := by omega
  have hl : ¬ ((len : Int) < 0) := by omega
  have hlc : ¬ ((len : Int) > (cap : Int)) := by omega
  simp only [Instr.makeSlice, Sem.run_bind, run_underlying' hu, Result.andThen_ok, asInt, asIntOf, Sem.run_pure, run_typeInfo' hi, wrap64_small (show len ≤ 16777216 by omega), wrap64_small h3]
  simp only [hc, hl, hlc, hb, decide_false, Bool.or_false, Bool.false_eq_true, if_false, Int.toNat_natCast, Sem.run_bind, run_askRoom, Result.andThen_ok, run_sizeOf' hi]
  by_cases hzero : cap * i.size = 0
  · have hl0 : cap = 0 := by rcases Nat.mul_eq_zero.1 hzero with e | e <;> omega
    subst hl0
    have e0 : Array.range (0 * i.size) = #[] := by simp
    rw [e0]
    simp [newRow]
  · simp only [hzero, if_false, Sem.run_bind, run_zeroValue' hi hz, Result.andThen_ok, Sem.run_pure, hs]
    simp [newRow]

/-! #### numbers, by the model's own text -/
noncomputable def pureRun {α : Type} (P : Program) (s : Sem α) : Option α :=
  Sem.rec (motive := fun _ => Option α) (fun a => some a) (fun _ _ _ _ => none) (fun _ _ _ _ _ => none) (fun _ _ _ => none) (fun _ _ _ => none) (fun _ _ _ _ => none) (fun _ _ _ => none)
    (fun _ _ _ => none) (fun _ _ _ _ => none) (fun _ _ _ => none) (fun _ _ _ => none) (fun _ ih => ih P) (fun _ _ ih => ih) (fun _ => none) s

theorem pureRun_ok {α : Type} {P : Program} {s : Sem α} {a : α} (hh : pureRun P s = some a) : s.run P w = .ok a w := by
  induction s with
  | pure b => cases hh; rfl
  | program k ih => exact ih P hh
  | mark m k ih => exact ih hh
  | _ => cases hh

noncomputable def scal (x : AV) : Option Value := match x with
  | .b x => some (.bool x)
  | .i k n => some (.int k n)
  | .f k n => some (.float k n)
  | .s l n => some (.string (str l n))
  | _ => none
theorem scal_ok {x : AV} {X V : Value} (he : scal x = some V) (r : Rv E x X) : X = V := by
  cases x <;> simp only [scal] at he <;> first | cases he | skip
  all_goals (rw [Rv] at r; rw [r])

noncomputable def unscK (v : Value) (k : AV → Bool) : Bool := match v with
  | .bool x => forceB x fun x => k (.b x)
  | .int kk n => forceI n fun n => k (.i kk n)
  | .float kk n => forceN n fun n => k (.f kk n)
  | _ => false
theorem unscK_ok {v : Value} {k : AV → Bool} (he : unscK v k = true) : ∃ a, Rv E a v ∧ k a = true := by
  unfold unscK at he
  split at he
  · rw [forceB_eq] at he; exact ⟨_, by rw [Rv], he⟩
  · rw [forceI_eq] at he; exact ⟨_, by rw [Rv], he⟩
  · rw [forceN_eq] at he; exact ⟨_, by rw [Rv], he⟩
  · cases he

/-- an operation on one or two scalars, by the model's text -/
noncomputable def pure1 (P : Program) (f : Value → Sem Value) (x : AV) (k : AV → Bool) : Bool := match scal x with
  | some X => match pureRun P (f X) with
    | some V => unscK V k
    | none => false
  | none => false
theorem pure1_ok {P : Program} {f : Value → Sem Value} {x : AV} {X : Value} {k : AV → Bool} (he : pure1 P f x k = true) (r : Rv E x X) : ∃ v W, (f X).run P w = .ok W w ∧ Rv E v W ∧ k v = true := by
  unfold pure1 at he
  split at he <;> try (cases he; done)
  rename_i V hV
  split at he <;> try (cases he; done)
  rename_i W hW
  obtain ⟨a, ha, hk⟩ := unscK_ok (E := E) he
  rw [scal_ok hV r]
  exact ⟨a, W, pureRun_ok hW, ha, hk⟩

noncomputable def pure2 (P : Program) (f : Value → Value → Sem Value) (x y : AV) (k : AV → Bool) : Bool := match scal x with
  | some X => pure1 P (f X) y k
  | none => false
theorem pure2_ok {P : Program} {f : Value → Value → Sem Value} {x y : AV} {X Y : Value} {k : AV → Bool} (he : pure2 P f x y k = true) (r : Rv E x X) (r' : Rv E y Y) : ∃ v W, (f X Y).run P w = .ok W w ∧ Rv E v W ∧ k v = true := by
  unfold pure2 at he
  split at he <;> try (cases he; done)
  rename_i V hV
  rw [scal_ok hV r]
  exact pure1_ok he r'
end
end Go.Proofs.YtbmekbpgoakkbaaGreatDoor.Vx
set_option linter.unusedVariables false
set_option linter.unusedSimpArgs false
set_option linter.constructorNameAsVariable false
set_option linter.unusedSectionVars false
namespace Go.Proofs.YtbmekbpgoakkbaaGreatDoor.Vx
open Go

/-! ### The same expression -/
noncomputable def opc (op : BinOp) : Nat := match op with
  | .eql => 0 | .neq => 1 | .lss => 2 | .leq => 3 | .gtr => 4 | .geq => 5 | _ => 6
def cmpOp : BinOp → Bool
  | .eql | .neq | .lss | .leq | .gtr | .geq => true
  | _ => false
theorem opc_inj {a b : BinOp} (h : Nat.beq (opc a) (opc b) = true) (ha : cmpOp a = true) : a = b := by
  have := Nat.eq_of_beq_eq_true h
  cases a <;> cases ha <;> cases b <;> first | rfl | exact absurd this (by decide)
noncomputable def kc (k : IntKind) : Nat := match k with
  | .i8 => 0 | .i16 => 1 | .i32 => 2 | .i64 => 3 | .u8 => 4 | .u16 => 5 | .u32 => 6 | .u64 => 7
theorem kc_inj {k k' : IntKind} (hh : Nat.beq (kc k) (kc k') = true) : k = k' := by
  have := Nat.eq_of_beq_eq_true hh
  cases k <;> cases k' <;> first | rfl | (exact absurd this (by decide))
noncomputable def iEq (a b : Int) : Bool :=
  Int.rec (motive := fun _ => Bool) (fun m => Int.rec (motive := fun _ => Bool) (fun n => Nat.beq m n) (fun _ => false) b) (fun m => Int.rec (motive := fun _ => Bool) (fun _ => false) (fun n => Nat.beq m n) b) a
theorem iEq_ok {a b : Int} (h : iEq a b = true) : a = b := by
  cases a <;> cases b <;> first | (rw [Nat.eq_of_beq_eq_true h]) | cases h

noncomputable def seEq (a : SE) : SE → Bool := SE.rec (motive := fun _ => SE → Bool)
  (fun n b => match b with | .sy m => Nat.beq n m | _ => false)
  (fun x b => match b with | .lb y => bc x y (bc y false true) | _ => false)
  (fun k n b => match b with | .li k' m => bc (Nat.beq (kc k) (kc k')) (iEq n m) false | _ => false)
  (fun x b => match b with | .lf y => Nat.beq x y | _ => false)
  (fun l x b => match b with | .ls l' y => bc (Nat.beq l l') (Nat.beq x y) false | _ => false)
  (fun _ ih b => match b with | .len e => ih e | _ => false)
  (fun _ ih b => match b with | .not e => ih e | _ => false)
  (fun k _ ih b => match b with | .conv k' e => bc (Nat.beq (kc k) (kc k')) (ih e) false | _ => false)
  (fun m _ ih b => match b with | .rem m' e => bc (Nat.beq m m') (ih e) false | _ => false)
  (fun c _ ih b => match b with | .fn c' e => bc (Nat.beq c c') (ih e) false | _ => false)
  (fun c _ _ iha ihb b => match b with | .fn2 c' x y => bc (Nat.beq c c') (bc (iha x) (ihb y) false) false | _ => false)
  (fun op _ _ iha ihb b => match b with | .cmp op' x y => bc (cmpOp op) (bc (Nat.beq (opc op) (opc op')) (bc (iha x) (ihb y) false) false) false | _ => false)
  (fun _ _ iha ihb b => match b with | .and x y => bc (iha x) (ihb y) false | _ => false) a

theorem seEq_ok : ∀ {a b : SE}, seEq a b = true → a = b := by
  intro a
  induction a with
  | sy n => intro b h; cases b <;> first | (cases h; done) | (rw [Nat.eq_of_beq_eq_true h])
  | lb x => intro b h; cases b <;> first | (cases h; done) | (rename_i y; cases x <;> cases y <;> first | rfl | cases h)
  | li k n =>
    intro b h; cases b <;> try (cases h; done)
    obtain ⟨h1, h2⟩ := bc_and h
    rw [kc_inj h1, iEq_ok h2]
  | lf x => intro b h; cases b <;> first | (cases h; done) | (rw [Nat.eq_of_beq_eq_true h])
  | ls l x =>
    intro b h; cases b <;> try (cases h; done)
    obtain ⟨h1, h2⟩ := bc_and h
    rw [Nat.eq_of_beq_eq_true h1, Nat.eq_of_beq_eq_true h2]
  | len e ih => intro b h; cases b <;> first | (cases h; done) | (rw [ih h])
  | not e ih => intro b h; cases b <;> first | (cases h; done) | (rw [ih h])
  | conv k e ih =>
    intro b h; cases b <;> try (cases h; done)
    obtain ⟨h1, h2⟩ := bc_and h
    rw [kc_inj h1, ih h2]
  | rem m e ih =>
    intro b h; cases b <;> try (cases h; done)
    obtain ⟨h1, h2⟩ := bc_and h
    rw [Nat.eq_of_beq_eq_true h1, ih h2]
  | fn c e ih =>
    intro b h; cases b <;> try (cases h; done)
    obtain ⟨h1, h2⟩ := bc_and h
    rw [Nat.eq_of_beq_eq_true h1, ih h2]
  | fn2 c x y ihx ihy =>
    intro b h; cases b <;> try (cases h; done)
    obtain ⟨h1, h⟩ := bc_and h
    obtain ⟨h2, h3⟩ := bc_and h
    rw [Nat.eq_of_beq_eq_true h1, ihx h2, ihy h3]
  | cmp op x y ihx ihy =>
    intro b h; cases b <;> try (cases h; done)
    obtain ⟨h0, h⟩ := bc_and h
    obtain ⟨h1, h⟩ := bc_and h
    obtain ⟨h2, h3⟩ := bc_and h
    rw [opc_inj h1 h0, ihx h2, ihy h3]
  | and x y ihx ihy =>
    intro b h; cases b <;> try (cases h; done)
    obtain ⟨h2, h3⟩ := bc_and h
    rw [ihx h2, ihy h3]

/-! ### What is known -/
def Holds (E : Env) (fs : Facts) : Prop := ∀ p ∈ fs, den E p.1 = some (.bool p.2)

/-- is it among the facts? 0: no; 1: true; 2: false -/
noncomputable def look (e : SE) (fs : Facts) : Nat := List.rec (motive := fun _ => Nat) 0 (fun p _ ih => bif seEq e p.1 then (bif p.2 then 1 else 2) else ih) fs
theorem look_ok {E : Env} {e : SE} : ∀ {fs : Facts}, Holds E fs → (look e fs = 1 → den E e = some (.bool true)) ∧ (2 ≤ look e fs → den E e = some (.bool false))
  | [], _ => ⟨fun h => absurd h (by show ¬ ((0 : Nat) = 1); omega), fun h => absurd h (by show ¬ (2 ≤ (0 : Nat)); omega)⟩
  | p :: fs, hf => by
    have ih := look_ok (e := e) (fs := fs) fun q hq => hf q (by simp [hq])
    have e1 : look e (p :: fs) = bif seEq e p.1 then (bif p.2 then 1 else 2) else look e fs := rfl
    rw [e1]
    cases hs : seEq e p.1
    · exact ih
    · have := seEq_ok hs
      subst this
      have hp := hf p (by simp)
      cases hb : p.2 <;> rw [hb] at hp
      · exact ⟨fun h => absurd h (by show ¬ ((2 : Nat) = 1); omega), fun _ => hp⟩
      · exact ⟨fun _ => hp, fun h => absurd h (by show ¬ (2 ≤ (1 : Nat)); omega)⟩

/-- a bound above, from the facts alone -/
noncomputable def below1 (e : SE) (c : Int) (fs : Facts) : Bool := List.rec (motive := fun _ => Bool) false
  (fun p _ ih => match p.1 with
    | .cmp .leq a (.li _ d) => bif bc p.2 (bc (seEq e a) (decide (d ≤ c)) false) false then true else ih
    | .cmp .eql a (.li _ d) => bif bc p.2 (bc (seEq e a) (decide (d ≤ c)) false) false then true else ih
    | _ => ih) fs
/-- a bound below: more than c -/
noncomputable def above1 (e : SE) (c : Int) (fs : Facts) : Bool := List.rec (motive := fun _ => Bool) false
  (fun p _ ih => match p.1 with
    | .cmp .leq a (.li _ d) => bif bc p.2 false (bc (seEq e a) (decide (c ≤ d)) false) then true else ih
    | .cmp .eql a (.li _ d) => bif bc p.2 (bc (seEq e a) (decide (c < d)) false) false then true else ih
    | _ => ih) fs

theorem below1_ok {E : Env} {e : SE} {c : Int} {k : IntKind} {n : Int} (hn : den E e = some (.int k n)) : ∀ {fs : Facts}, Holds E fs → below1 e c fs = true → n ≤ c
  | [], _, h => by cases h
  | (p, b) :: fs, hf, h => by
    have ih := below1_ok (c := c) hn (fs := fs) fun q hq => hf q (by simp [hq])
    have hp := hf (p, b) (by simp)
    have h : (match (generalizing := false) p with
      | .cmp .leq a (.li _ d) => bif bc b (bc (seEq e a) (decide (d ≤ c)) false) false then true else below1 e c fs
      | .cmp .eql a (.li _ d) => bif bc b (bc (seEq e a) (decide (d ≤ c)) false) false then true else below1 e c fs
      | _ => below1 e c fs) = true := h
    split at h
    · rename_i a k' d _
      cases hb : bc b (bc (seEq e a) (decide (d ≤ c)) false) false <;> rw [hb] at h
      · exact ih h
      · obtain ⟨h1, h2⟩ := bc_and hb
        obtain ⟨h2, h3⟩ := bc_and h2
        have := seEq_ok h2
        subst this h1
        simp only [den, hn] at hp
        by_cases hk : k = k'
        · subst hk; simp [cmpV, cmpI] at hp; have := of_decide_eq_true h3; omega
        · simp [cmpV, hk] at hp
    · rename_i a k' d _
      cases hb : bc b (bc (seEq e a) (decide (d ≤ c)) false) false <;> rw [hb] at h
      · exact ih h
      · obtain ⟨h1, h2⟩ := bc_and hb
        obtain ⟨h2, h3⟩ := bc_and h2
        have := seEq_ok h2
        subst this h1
        simp only [den, hn] at hp
        by_cases hk : k = k'
        · subst hk; simp [cmpV, cmpI] at hp; have := of_decide_eq_true h3; omega
        · simp [cmpV, hk] at hp
    · exact ih h

theorem above1_ok {E : Env} {e : SE} {c : Int} {k : IntKind} {n : Int} (hn : den E e = some (.int k n)) : ∀ {fs : Facts}, Holds E fs → above1 e c fs = true → c < n
  | [], _, h => by cases h
  | (p, b) :: fs, hf, h => by
    have ih := above1_ok (c := c) hn (fs := fs) fun q hq => hf q (by simp [hq])
    have hp := hf (p, b) (by simp)
    have h : (match (generalizing := false) p with
      | .cmp .leq a (.li _ d) => bif bc b false (bc (seEq e a) (decide (c ≤ d)) false) then true else above1 e c fs
      | .cmp .eql a (.li _ d) => bif bc b (bc (seEq e a) (decide (c < d)) false) false then true else above1 e c fs
      | _ => above1 e c fs) = true := h
    split at h
    · rename_i a k' d _
      cases hb : bc b false (bc (seEq e a) (decide (c ≤ d)) false) <;> rw [hb] at h
      · exact ih h
      · rcases bc_or hb with ⟨_, hh⟩ | ⟨h1, h2⟩
        · cases hh
        obtain ⟨h2, h3⟩ := bc_and h2
        have := seEq_ok h2
        subst this h1
        simp only [den, hn] at hp
        by_cases hk : k = k'
        · subst hk; simp [cmpV, cmpI] at hp; have := of_decide_eq_true h3; omega
        · simp [cmpV, hk] at hp
    · rename_i a k' d _
      cases hb : bc b (bc (seEq e a) (decide (c < d)) false) false <;> rw [hb] at h
      · exact ih h
      · obtain ⟨h1, h2⟩ := bc_and hb
        obtain ⟨h2, h3⟩ := bc_and h2
        have := seEq_ok h2
        subst this h1
        simp only [den, hn] at hp
        by_cases hk : k = k'
        · subst hk; simp [cmpV, cmpI] at hp; have := of_decide_eq_true h3; omega
        · simp [cmpV, hk] at hp
    · exact ih h

/-- bounds by what the expression is -/
noncomputable def belowS (e : SE) (c : Int) (fs : Facts) : Bool := SE.rec (motive := fun _ => Bool)
  (fun n => below1 (.sy n) c fs) (fun _ => false) (fun _ n => decide (n ≤ c)) (fun _ => false) (fun _ _ => false)
  (fun e _ => below1 (.len e) c fs) (fun _ _ => false) (fun k e ih => bif below1 (.conv k e) c fs then true else ih)
  (fun m e _ => bif decide ((m : Int) ≤ c + 1) then true else below1 (.rem m e) c fs) (fun d e _ => below1 (.fn d e) c fs) (fun d a b _ _ => below1 (.fn2 d a b) c fs) (fun _ _ _ _ _ => false) (fun _ _ _ _ => false) e
noncomputable def aboveS (e : SE) (c : Int) (fs : Facts) : Bool := SE.rec (motive := fun _ => Bool)
  (fun n => above1 (.sy n) c fs) (fun _ => false) (fun _ n => decide (c < n)) (fun _ => false) (fun _ _ => false)
  (fun e _ => bif decide (c < 0) then true else above1 (.len e) c fs) (fun _ _ => false) (fun k e ih => bif above1 (.conv k e) c fs then true else ih)
  (fun m e _ => bif decide (c < 0) then true else above1 (.rem m e) c fs) (fun d e _ => above1 (.fn d e) c fs) (fun d a b _ _ => above1 (.fn2 d a b) c fs) (fun _ _ _ _ _ => false) (fun _ _ _ _ => false) e

theorem bif_or {b x : Bool} (h : (bif b then true else x) = true) : b = true ∨ x = true := by cases b <;> simp_all
theorem belowS_ok {E : Env} {c : Int} {fs : Facts} (hf : Holds E fs) : ∀ (e : SE) {k : IntKind} {n : Int}, den E e = some (.int k n) → belowS e c fs = true → n ≤ c := by
  intro e
  induction e with
  | sy m => intro k n hn h; exact below1_ok hn hf h
  | li k' m =>
    intro k n hn h
    simp only [den, Option.some.injEq, Value.int.injEq] at hn
    obtain ⟨_, rfl⟩ := hn
    exact of_decide_eq_true h
  | len e ih => intro k n hn h; exact below1_ok hn hf h
  | conv k' e ih =>
    intro k n hn h
    have h : (bif below1 (.conv k' e) c fs then true else belowS e c fs) = true := h
    rcases bif_or h with h | h
    · exact below1_ok hn hf h
    · simp only [den] at hn
      split at hn <;> try (cases hn; done)
      rename_i k2 m he
      split at hn <;> cases hn
      exact ih he h
  | rem m e ih =>
    intro k n hn h
    have h : (bif decide ((m : Int) ≤ c + 1) then true else below1 (.rem m e) c fs) = true := h
    rcases bif_or h with h | h
    · simp only [den] at hn
      split at hn <;> try (cases hn; done)
      rename_i k2 q he
      split at hn <;> cases hn
      rename_i hc
      have := Int.emod_lt_of_pos q (show (0 : Int) < (m : Int) by omega)
      have := of_decide_eq_true h
      omega
    · exact below1_ok hn hf h
  | fn d e ih => intro k n hn h; exact below1_ok hn hf h
  | fn2 d a b iha ihb => intro k n hn h; exact below1_ok hn hf h
  | _ => intro k n hn h; cases h

theorem aboveS_ok {E : Env} {c : Int} {fs : Facts} (hf : Holds E fs) : ∀ (e : SE) {k : IntKind} {n : Int}, den E e = some (.int k n) → aboveS e c fs = true → c < n := by
  intro e
  induction e with
  | sy m => intro k n hn h; exact above1_ok hn hf h
  | li k' m =>
    intro k n hn h
    simp only [den, Option.some.injEq, Value.int.injEq] at hn
    obtain ⟨_, rfl⟩ := hn
    exact of_decide_eq_true h
  | len e ih =>
    intro k n hn h
    have h : (bif decide (c < 0) then true else above1 (.len e) c fs) = true := h
    rcases bif_or h with h | h
    · simp only [den] at hn
      split at hn <;> cases hn
      have := of_decide_eq_true h
      omega
    · exact above1_ok hn hf h
  | conv k' e ih =>
    intro k n hn h
    have h : (bif above1 (.conv k' e) c fs then true else aboveS e c fs) = true := h
    rcases bif_or h with h | h
    · exact above1_ok hn hf h
    · simp only [den] at hn
      split at hn <;> try (cases hn; done)
      rename_i k2 m he
      split at hn <;> cases hn
      exact ih he h
  | rem m e ih =>
    intro k n hn h
    have h : (bif decide (c < 0) then true else above1 (.rem m e) c fs) = true := h
    rcases bif_or h with h | h
    · simp only [den] at hn
      split at hn <;> try (cases hn; done)
      rename_i k2 q he
      split at hn <;> cases hn
      rename_i hc
      have := Int.emod_nonneg q (show (m : Int) ≠ 0 by omega)
      have := of_decide_eq_true h
      omega
    · exact above1_ok hn hf h
  | fn d e ih => intro k n hn h; exact above1_ok hn hf h
  | fn2 d a b iha ihb => intro k n hn h; exact above1_ok hn hf h
  | _ => intro k n hn h; cases h

/-- a string that is known to be another one -/
noncomputable def otherS (e : SE) (l x : Nat) (fs : Facts) : Bool := List.rec (motive := fun _ => Bool) false
  (fun p _ ih => match p.1 with
    | .cmp .eql a (.ls m y) => bif bc p.2 (bc (seEq e a) (bc (bc (Nat.beq l m) (Nat.beq (Nat.mod x (Nat.pow 256 l)) (Nat.mod y (Nat.pow 256 m))) false) false true) false) false then true else ih
    | _ => ih) fs

theorem otherS_ok {E : Env} {e : SE} {l x : Nat} {s : ByteArray} (hs : den E e = some (.string s)) : ∀ {fs : Facts}, Holds E fs → otherS e l x fs = true → (s.toList == (str l x).toList) = false
  | [], _, h => by cases h
  | (p, b) :: fs, hf, h => by
    have ih := otherS_ok (l := l) (x := x) hs (fs := fs) fun q hq => hf q (by simp [hq])
    have hp := hf (p, b) (by simp)
    have h : (match (generalizing := false) p with
      | .cmp .eql a (.ls m y) => bif bc b (bc (seEq e a) (bc (bc (Nat.beq l m) (Nat.beq (Nat.mod x (Nat.pow 256 l)) (Nat.mod y (Nat.pow 256 m))) false) false true) false) false then true else otherS e l x fs
      | _ => otherS e l x fs) = true := h
    split at h
    · rename_i a m y _
      cases hb : bc b (bc (seEq e a) (bc (bc (Nat.beq l m) (Nat.beq (Nat.mod x (Nat.pow 256 l)) (Nat.mod y (Nat.pow 256 m))) false) false true) false) false <;> rw [hb] at h
      · exact ih h
      · obtain ⟨h1, h2⟩ := bc_and hb
        obtain ⟨h2, h3⟩ := bc_and h2
        have := seEq_ok h2
        subst this h1
        simp only [den, hs, cmpV, cmpS, Option.map_some, Option.some.injEq, Value.bool.injEq] at hp
        rw [beq_iff_eq] at hp
        rw [hp, Bool.eq_false_iff]
        intro hh
        rw [beq_iff_eq, ByteArray.toList_eq, ByteArray.toList_eq, str_toList, str_toList] at hh
        have hl : m = l := by have := congrArg List.length hh; simpa using this
        subst hl
        rw [unpack_inj] at hh
        have e3 : bc (bc (Nat.beq m m) (Nat.beq (Nat.mod x (Nat.pow 256 m)) (Nat.mod y (Nat.pow 256 m))) false) false true = false := by
          have a1 : Nat.beq m m = true := Nat.beq_refl m
          have a2 : Nat.beq (Nat.mod x (Nat.pow 256 m)) (Nat.mod y (Nat.pow 256 m)) = true := by
            show Nat.beq (x % 256 ^ m) (y % 256 ^ m) = true
            rw [hh]; exact Nat.beq_refl _
          rw [a1, a2]; rfl
        rw [e3] at h3; cases h3
    · exact ih h

theorem icmp_eq (A B : Int) : (compare A B = .eq) ↔ A = B := by
  show compareOfLessAndEq A B = .eq ↔ A = B
  unfold compareOfLessAndEq
  constructor
  · intro h
    split at h
    · cases h
    · split at h
      · assumption
      · cases h
  · rintro rfl
    rw [if_neg (Int.lt_irrefl _), if_pos rfl]
theorem ord_comm (d e : Ieee.Datum) : (d.order e == some .eq) = (e.order d == some .eq) := by
  cases d with
  | nan s m => cases e <;> rfl
  | infinity s => cases e with
    | nan => rfl
    | infinity t => cases s <;> cases t <;> rfl
    | number t n j => cases s <;> rfl
  | number s m i => cases e with
    | nan => rfl
    | infinity t => cases t <;> rfl
    | number t n j =>
      rw [Bool.eq_iff_iff, beq_iff_eq, beq_iff_eq]
      show some (compare (Ieee.signed s m (i - min i j).toNat) (Ieee.signed t n (j - min i j).toNat)) = some .eq ↔ some (compare (Ieee.signed t n (j - min j i).toNat) (Ieee.signed s m (i - min j i).toNat)) = some .eq
      rw [Int.min_comm j i, Option.some.injEq, Option.some.injEq, icmp_eq, icmp_eq]
      exact eq_comm
theorem eql_comm (X Y : Value) : cmpV .eql X Y = cmpV .eql Y X := by
  cases X <;> cases Y <;> simp only [cmpV] <;> try rfl
  · congr 1; rw [Bool.eq_iff_iff, beq_iff_eq, beq_iff_eq]; exact eq_comm
  · rename_i k a k' b
    by_cases h : k = k'
    · subst h
      simp only [if_true, cmpI]
      congr 1; rw [Bool.eq_iff_iff, beq_iff_eq, beq_iff_eq]; exact eq_comm
    · rw [if_neg h, if_neg (fun e => h e.symm)]
  · rename_i k a k' b
    cases k <;> cases k' <;> try rfl
    simp only [cmpF]
    exact congrArg some (ord_comm _ _)
  · simp only [cmpS]
    congr 1; rw [Bool.eq_iff_iff, beq_iff_eq, beq_iff_eq]; exact eq_comm
theorem den_eql_comm {E : Env} {a b : SE} {x : Value} (h : den E (.cmp .eql a b) = some x) : den E (.cmp .eql b a) = some x := by
  simp only [den] at h ⊢
  cases ha : den E a with
  | none => rw [ha] at h; cases h
  | some X =>
    cases hb : den E b with
    | none => rw [ha, hb] at h; cases X <;> cases h
    | some Y =>
      rw [ha, hb] at h
      simp only at h ⊢
      rw [eql_comm]; exact h

/-- is it settled? 0: no; 1: true; 2: false -/
noncomputable def dec (fs : Facts) (e : SE) : Nat := match e with
  | .lb x => bif x then 1 else 2
  | .cmp .leq a (.li _ c) => bif belowS a c fs then 1 else bif aboveS a c fs then 2 else look e fs
  | .cmp .eql a (.li _ c) => bif belowS a (c - 1) fs then 2 else bif aboveS a c fs then 2 else bif bc (belowS a c fs) (aboveS a (c - 1) fs) false then 1 else look e fs
  | .cmp .eql a (.ls l x) => bif otherS a l x fs then 2 else look e fs
  | .cmp .eql a b => Nat.rec (motive := fun _ => Nat) (look (.cmp .eql b a) fs) (fun m _ => Nat.succ m) (look e fs)
  | e => look e fs

theorem dec_ok {E : Env} {fs : Facts} (hf : Holds E fs) {e : SE} {x : Bool} (hx : den E e = some (.bool x)) : (dec fs e = 1 → x = true) ∧ (2 ≤ dec fs e → x = false) := by
  have lk : ∀ e', den E e' = some (.bool x) → (look e' fs = 1 → x = true) ∧ (2 ≤ look e' fs → x = false) := fun e' he' => by
    obtain ⟨h1, h2⟩ := look_ok (e := e') hf
    exact ⟨fun h => by rw [h1 h] at he'; cases he'; rfl, fun h => by rw [h2 h] at he'; cases he'; rfl⟩
  unfold dec
  split
  · rename_i y
    simp only [den, Option.some.injEq, Value.bool.injEq] at hx
    subst hx
    cases y <;> simp
  · rename_i a k c
    have hx' := hx
    simp only [den] at hx
    split at hx <;> try (cases hx; done)
    rename_i X Y hX hY
    cases hY
    cases X <;> simp only [cmpV, Option.map_none] at hx <;> try (cases hx; done)
    rename_i k' n
    by_cases hk : k' = k
    · simp only [hk, if_true, cmpI, Option.map_some, Option.some.injEq, Value.bool.injEq] at hx
      cases hb : belowS a c fs
      · cases ha : aboveS a c fs
        · exact lk _ hx'
        · refine ⟨fun h => absurd h (by show ¬ ((2 : Nat) = 1); omega), fun _ => ?_⟩
          have := aboveS_ok hf a hX ha
          rw [← hx, decide_eq_false_iff_not]; omega
      · refine ⟨fun _ => ?_, fun h => absurd h (by show ¬ (2 ≤ (1 : Nat)); omega)⟩
        have := belowS_ok hf a hX hb
        rw [← hx, decide_eq_true_iff]; omega
    · simp only [hk, if_false, Option.map_none] at hx; cases hx
  · rename_i a k c
    have hx' := hx
    simp only [den] at hx
    split at hx <;> try (cases hx; done)
    rename_i X Y hX hY
    cases hY
    cases X <;> simp only [cmpV, Option.map_none] at hx <;> try (cases hx; done)
    rename_i k' n
    by_cases hk : k' = k
    · simp only [hk, if_true, cmpI, Option.map_some, Option.some.injEq, Value.bool.injEq] at hx
      cases hb : belowS a (c - 1) fs
      · cases ha : aboveS a c fs
        · cases hc : bc (belowS a c fs) (aboveS a (c - 1) fs) false
          · exact lk _ hx'
          · refine ⟨fun _ => ?_, fun h => absurd h (by show ¬ (2 ≤ (1 : Nat)); omega)⟩
            obtain ⟨h1, h2⟩ := bc_and hc
            have := belowS_ok hf a hX h1
            have := aboveS_ok hf a hX h2
            rw [← hx, beq_iff_eq]; omega
        · refine ⟨fun h => absurd h (by show ¬ ((2 : Nat) = 1); omega), fun _ => ?_⟩
          have := aboveS_ok hf a hX ha
          rw [← hx, beq_eq_false_iff_ne]; omega
      · refine ⟨fun h => absurd h (by show ¬ ((2 : Nat) = 1); omega), fun _ => ?_⟩
        have := belowS_ok hf a hX hb
        rw [← hx, beq_eq_false_iff_ne]; omega
    · simp only [hk, if_false, Option.map_none] at hx; cases hx
  · rename_i a l y
    have hx' := hx
    simp only [den] at hx
    split at hx <;> try (cases hx; done)
    rename_i X Y hX hY
    cases hY
    cases X <;> simp only [cmpV, Option.map_none] at hx <;> try (cases hx; done)
    rename_i s
    cases ho : otherS a l y fs
    · exact lk _ hx'
    · refine ⟨fun h => absurd h (by show ¬ ((2 : Nat) = 1); omega), fun _ => ?_⟩
      have := otherS_ok hX hf ho
      simp only [cmpS, this, Option.map_some, Option.some.injEq, Value.bool.injEq] at hx
      exact hx.symm
  · rename_i a b _ _
    cases hl : look (.cmp .eql a b) fs with
    | zero => exact lk _ (den_eql_comm hx)
    | succ m => have := lk _ hx; rw [hl] at this; exact this
  · exact lk _ hx

/-- the same through 'not' and 'and' -/
noncomputable def decX (fs : Facts) (e : SE) : Nat := SE.rec (motive := fun _ => Nat)
  (fun n => dec fs (.sy n)) (fun x => bif x then 1 else 2) (fun _ _ => 0) (fun _ => 0) (fun _ _ => 0) (fun _ _ => 0)
  (fun _ ih => Nat.rec (motive := fun _ => Nat) 0 (fun m _ => Nat.rec (motive := fun _ => Nat) 2 (fun _ _ => 1) m) ih)
  (fun _ _ _ => 0) (fun _ _ _ => 0) (fun c e _ => dec fs (.fn c e)) (fun c a b _ _ => dec fs (.fn2 c a b)) (fun op a b _ _ => dec fs (.cmp op a b))
  (fun _ _ iha ihb => Nat.rec (motive := fun _ => Nat) (Nat.rec (motive := fun _ => Nat) 0 (fun m _ => Nat.rec (motive := fun _ => Nat) 0 (fun _ _ => 2) m) ihb) (fun m _ => Nat.rec (motive := fun _ => Nat) ihb (fun _ _ => 2) m) iha) e
theorem decX_ok {E : Env} {fs : Facts} (hf : Holds E fs) : ∀ {e : SE} {x : Bool}, den E e = some (.bool x) → (decX fs e = 1 → x = true) ∧ (2 ≤ decX fs e → x = false) := by
  intro e
  induction e with
  | sy n => intro x hx; exact dec_ok hf hx
  | lb y =>
    intro x hx
    simp only [den, Option.some.injEq, Value.bool.injEq] at hx
    subst hx
    cases y <;> simp [decX]
  | fn c e ih => intro x hx; exact dec_ok hf hx
  | fn2 c a b iha ihb => intro x hx; exact dec_ok hf hx
  | cmp op a b iha ihb => intro x hx; exact dec_ok hf hx
  | not e ih =>
    intro x hx
    simp only [den] at hx
    split at hx <;> cases hx
    rename_i y hy
    obtain ⟨h1, h2⟩ := ih hy
    have e1 : decX fs (.not e) = Nat.rec (motive := fun _ => Nat) 0 (fun m _ => Nat.rec (motive := fun _ => Nat) 2 (fun _ _ => 1) m) (decX fs e) := rfl
    rw [e1]
    match hd : decX fs e with
    | 0 => exact ⟨fun h => absurd h (by show ¬ ((0 : Nat) = 1); omega), fun h => absurd h (by show ¬ (2 ≤ (0 : Nat)); omega)⟩
    | 1 => exact ⟨fun h => absurd h (by show ¬ ((2 : Nat) = 1); omega), fun _ => by rw [h1 hd]; rfl⟩
    | n + 2 => exact ⟨fun _ => by rw [h2 (by omega)]; rfl, fun h => absurd h (by show ¬ (2 ≤ (1 : Nat)); omega)⟩
  | and a b iha ihb =>
    intro x hx
    simp only [den] at hx
    split at hx <;> cases hx
    rename_i y z hy hz
    obtain ⟨a1, a2⟩ := iha hy
    obtain ⟨b1, b2⟩ := ihb hz
    have e1 : decX fs (.and a b) = Nat.rec (motive := fun _ => Nat) (Nat.rec (motive := fun _ => Nat) 0 (fun m _ => Nat.rec (motive := fun _ => Nat) 0 (fun _ _ => 2) m) (decX fs b)) (fun m _ => Nat.rec (motive := fun _ => Nat) (decX fs b) (fun _ _ => 2) m) (decX fs a) := rfl
    rw [e1]
    match hda : decX fs a with
    | 0 =>
      match hdb : decX fs b with
      | 0 => exact ⟨fun h => absurd h (by show ¬ ((0 : Nat) = 1); omega), fun h => absurd h (by show ¬ (2 ≤ (0 : Nat)); omega)⟩
      | 1 => exact ⟨fun h => absurd h (by show ¬ ((0 : Nat) = 1); omega), fun h => absurd h (by show ¬ (2 ≤ (0 : Nat)); omega)⟩
      | n + 2 => exact ⟨fun h => absurd h (by show ¬ ((2 : Nat) = 1); omega), fun _ => by rw [b2 (by omega), Bool.and_false]⟩
    | 1 =>
      rw [a1 hda, Bool.true_and]
      exact ⟨b1, b2⟩
    | n + 2 => exact ⟨fun h => absurd h (by show ¬ ((2 : Nat) = 1); omega), fun _ => by rw [a2 (by omega), Bool.false_and]⟩
  | _ =>
    intro x hx
    exact ⟨fun h => absurd h (by show ¬ ((0 : Nat) = 1); omega), fun h => absurd h (by show ¬ (2 ≤ (0 : Nat)); omega)⟩

/-! ### A run divides -/
noncomputable def d3 (n : Nat) (no yes nay : Bool) : Bool := Nat.rec (motive := fun _ => Bool) no (fun m _ => Nat.rec (motive := fun _ => Bool) yes (fun _ _ => nay) m) n
noncomputable def forkK (e : SE) : Facts → (Facts → Bool) → (Facts → Bool) → Bool :=
  SE.rec (motive := fun _ => Facts → (Facts → Bool) → (Facts → Bool) → Bool)
  (fun n fs kt kf => d3 (dec fs (.sy n)) (bc (kt ((.sy n, true) :: fs)) (kf ((.sy n, false) :: fs)) false) (kt fs) (kf fs))
  (fun x fs kt kf => bc x (kt fs) (kf fs))
  (fun _ _ _ _ _ => false) (fun _ _ _ _ => false) (fun _ _ _ _ _ => false) (fun _ _ _ _ _ => false)
  (fun _ ih fs kt kf => ih fs kf kt)
  (fun _ _ _ _ _ _ => false) (fun _ _ _ _ _ _ => false)
  (fun c e _ fs kt kf => d3 (dec fs (.fn c e)) (bc (kt ((.fn c e, true) :: fs)) (kf ((.fn c e, false) :: fs)) false) (kt fs) (kf fs))
  (fun c a b _ _ fs kt kf => d3 (dec fs (.fn2 c a b)) (bc (kt ((.fn2 c a b, true) :: fs)) (kf ((.fn2 c a b, false) :: fs)) false) (kt fs) (kf fs))
  (fun op a b _ _ fs kt kf => d3 (dec fs (.cmp op a b)) (bc (kt ((.cmp op a b, true) :: fs)) (kf ((.cmp op a b, false) :: fs)) false) (kt fs) (kf fs))
  (fun _ _ iha ihb fs kt kf => iha fs (fun fs => ihb fs kt kf) kf) e

theorem forkK_ok {E : Env} : ∀ (e : SE) {fs : Facts} {kt kf : Facts → Bool} {x : Bool}, forkK e fs kt kf = true → Holds E fs → den E e = some (.bool x) → ∃ fs', Holds E fs' ∧ ((x = true ∧ kt fs' = true) ∨ (x = false ∧ kf fs' = true)) := by
  have base : ∀ (e : SE) {fs : Facts} {kt kf : Facts → Bool} {x : Bool}, d3 (dec fs e) (bc (kt ((e, true) :: fs)) (kf ((e, false) :: fs)) false) (kt fs) (kf fs) = true → Holds E fs → den E e = some (.bool x) →
      ∃ fs', Holds E fs' ∧ ((x = true ∧ kt fs' = true) ∨ (x = false ∧ kf fs' = true)) := by
    intro e fs kt kf x he hf hx
    obtain ⟨d1, d2⟩ := dec_ok hf hx
    match hd : dec fs e with
    | 0 =>
      rw [hd] at he
      obtain ⟨h1, h2⟩ := bc_and (b := kt ((e, true) :: fs)) he
      refine ⟨(e, x) :: fs, fun p hp => ?_, ?_⟩
      · rcases List.mem_cons.1 hp with rfl | hp
        · exact hx
        · exact hf p hp
      · cases x
        · exact .inr ⟨rfl, h2⟩
        · exact .inl ⟨rfl, h1⟩
    | 1 => rw [hd] at he; exact ⟨fs, hf, .inl ⟨d1 hd, he⟩⟩
    | n + 2 => rw [hd] at he; exact ⟨fs, hf, .inr ⟨d2 (by omega), he⟩⟩
  intro e
  induction e with
  | sy n => intro fs kt kf x he hf hx; exact base _ he hf hx
  | lb y =>
    intro fs kt kf x he hf hx
    simp only [den, Option.some.injEq, Value.bool.injEq] at hx
    subst hx
    rcases bc_or he with ⟨h, he⟩ | ⟨h, he⟩
    · exact ⟨fs, hf, .inl ⟨h, he⟩⟩
    · exact ⟨fs, hf, .inr ⟨h, he⟩⟩
  | not e ih =>
    intro fs kt kf x he hf hx
    simp only [den] at hx
    split at hx <;> cases hx
    rename_i y hy
    obtain ⟨fs', h1, h2⟩ := ih (x := y) he hf hy
    refine ⟨fs', h1, ?_⟩
    rcases h2 with ⟨rfl, h2⟩ | ⟨rfl, h2⟩
    · exact .inr ⟨rfl, h2⟩
    · exact .inl ⟨rfl, h2⟩
  | fn c e ih => intro fs kt kf x he hf hx; exact base _ he hf hx
  | fn2 c a b iha ihb => intro fs kt kf x he hf hx; exact base _ he hf hx
  | cmp op a b iha ihb => intro fs kt kf x he hf hx; exact base _ he hf hx
  | and a b iha ihb =>
    intro fs kt kf x he hf hx
    simp only [den] at hx
    split at hx <;> cases hx
    rename_i y z hy hz
    obtain ⟨fs', h1, h2⟩ := iha (x := y) he hf hy
    rcases h2 with ⟨rfl, h2⟩ | ⟨rfl, h2⟩
    · simpa using ihb (x := z) h2 h1 hz
    · exact ⟨fs', h1, .inr ⟨by simp, h2⟩⟩
  | _ => intro fs kt kf x he; cases he
end Go.Proofs.YtbmekbpgoakkbaaGreatDoor.Vx
set_option linter.unusedVariables false
set_option linter.unusedSimpArgs false
set_option linter.constructorNameAsVariable false
set_option linter.unusedSectionVars false
namespace Go.Proofs.YtbmekbpgoakkbaaGreatDoor.Vx
open Go

section
variable {E : Env} {h : Heap} {nxt : Nat} {w : World}

/-! ### The facts' place -/
def fplace : Nat := 1048574
noncomputable def factsOf (h : Heap) : Facts := match T.get .gone h fplace with
  | .facts fs => fs
  | _ => []
theorem factsOf_ok (hr : HR E h nxt w) : Holds E (factsOf h) := by
  unfold factsOf
  have := hr.obj fplace
  split
  · rename_i fs hfs; rw [hfs] at this; exact this
  · intro p hp; cases hp

noncomputable def setF (fs : Facts) (h : Heap) (k : Heap → Bool) : Bool := match T.get .gone h fplace with
  | .gone => bc (Nat.ble (flr h) fplace) (T.setK (.facts fs) h fplace k) false
  | .facts _ => bc (Nat.ble (flr h) fplace) (T.setK (.facts fs) h fplace k) false
  | _ => false

/-- nothing but facts turns -/
structure Fk (h h1 : Heap) : Prop where
  same : ∀ i, (T.get .gone h i).live = true ∨ (T.get .gone h1 i).live = true ∨ i < flr h ∨ i = 0 → T.get .gone h1 i = T.get .gone h i
  flr : Vx.flr h1 = Vx.flr h
theorem Fk.refl (h : Heap) : Fk h h := ⟨fun _ _ => rfl, rfl⟩
theorem Fk.live {h h1 : Heap} (f : Fk h h1) (i : Nat) : (T.get .gone h1 i).live = (T.get .gone h i).live := by
  cases h2 : (T.get .gone h1 i).live
  · cases h3 : (T.get .gone h i).live
    · rfl
    · rw [f.same i (.inl h3), h3] at h2; exact h2.symm
  · rw [← f.same i (.inr (.inl h2)), h2]
theorem Fk.goes {h1 : Heap} (f : Fk h h1) : Goes E h w E h1 w :=
  ⟨Env.le_refl _, Nat.le_refl _, fun _ _ _ => rfl, fun k _ ⟨i, L, a1, a2, a3, a4⟩ => ⟨i, L, by rw [← f.flr]; exact a1, by rw [← f.live i]; exact a2, a3, a4⟩, f.flr, fun i hi => f.same i (.inr (.inr (.inl hi))), rfl, rfl, rfl⟩

theorem setF_ok {fs : Facts} {k : Heap → Bool} (he : setF fs h k = true) (hr : HR E h nxt w) (hf : Holds E fs) : ∃ h1, k h1 = true ∧ HR E h1 nxt w ∧ Fk h h1 := by
  have key : (T.get .gone h fplace).live = false → bc (Nat.ble (flr h) fplace) (T.setK (.facts fs) h fplace k) false = true → ∃ h1, k h1 = true ∧ HR E h1 nxt w ∧ Fk h h1 := by
    intro hl he
    obtain ⟨hfl, he⟩ := bc_and he
    have hfl := Nat.le_of_ble_eq_true hfl
    rw [T.setK_eq] at he
    have hne : ∀ i, i ≠ fplace → T.get .gone (T.set (.facts fs) h fplace) i = T.get .gone h i := fun i hi => T.get_set_ne _ _ _ _ _ hi
    have hat : (T.get .gone (T.set (.facts fs) h fplace) fplace).live = false := by rcases T.get_set_eq AO.gone (.facts fs) h fplace with g | g <;> rw [g] <;> rfl
    have h0 : (0 : Nat) ≠ fplace := by unfold fplace; omega
    have hfs : flr (T.set (.facts fs) h fplace) = flr h := by unfold flr; rw [hne 0 h0]
    have hfk : Fk h (T.set (.facts fs) h fplace) := ⟨fun i hi => by
      by_cases e : i = fplace
      · subst e
        rcases hi with hi | hi | hi | hi
        · rw [hl] at hi; cases hi
        · rw [hat] at hi; cases hi
        · omega
        · exact absurd hi.symm h0
      · exact hne i e, hfs⟩
    refine ⟨_, he, ⟨fun i => ?_, fun i j L M hi hj => ?_, fun i hi => ?_, hr.fresh, hr.inw, hr.pos, by rw [hfs]; exact hr.flle, by rw [hne 0 h0]; exact hr.zero⟩, hfk⟩
    · by_cases e : i = fplace
      · subst e
        rcases T.get_set_eq AO.gone (.facts fs) h fplace with g | g <;> rw [g]
        · exact hf
        · trivial
      · rw [hne i e]; exact hr.obj i
    · rw [hfk.live] at hi hj; exact hr.inj i j L M hi hj
    · rw [hfk.live]; exact hr.lt i hi
  unfold setF at he
  split at he
  · rename_i hg; exact key (by rw [hg]; rfl) he
  · rename_i hg; exact key (by rw [hg]; rfl) he
  · cases he

/-- a condition: decided, or the run divides -/
noncomputable def condK (v : AV) (h : Heap) (kt kf : Heap → Bool) : Bool := match v with
  | .b t => bc t (kt h) (kf h)
  | .x .b e => forkK e (factsOf h) (fun fs => setF fs h kt) (fun fs => setF fs h kf)
  | _ => false
theorem condK_ok {v : AV} {V : Value} {kt kf : Heap → Bool} (he : condK v h kt kf = true) (rv : Rv E v V) (hr : HR E h nxt w) :
    ∃ x h1, V = .bool x ∧ HR E h1 nxt w ∧ Fk h h1 ∧ ((x = true ∧ kt h1 = true) ∨ (x = false ∧ kf h1 = true)) := by
  unfold condK at he
  split at he
  · rename_i t
    rw [Rv] at rv
    exact ⟨t, h, rv, hr, Fk.refl h, bc_or he⟩
  · rename_i e
    rw [Rv] at rv
    obtain ⟨hd, x, rfl⟩ := rv
    obtain ⟨fs, hf, hx⟩ := forkK_ok e he (factsOf_ok hr) hd
    rcases hx with ⟨rfl, hx⟩ | ⟨rfl, hx⟩
    · obtain ⟨h1, k1, k2, k3⟩ := setF_ok hx hr hf
      exact ⟨true, h1, rfl, k2, k3, .inl ⟨rfl, k1⟩⟩
    · obtain ⟨h1, k1, k2, k3⟩ := setF_ok hx hr hf
      exact ⟨false, h1, rfl, k2, k3, .inr ⟨rfl, k1⟩⟩
  · cases he

/-- one of two, by what is known -/
noncomputable def pickK (fs : Facts) (c : AV) (yes no : Bool) : Bool := match c with
  | .b t => bc t yes no
  | .x .b e => d3 (decX fs e) false yes no
  | _ => false
theorem pickK_ok {fs : Facts} {c : AV} {V : Value} {yes no : Bool} (he : pickK fs c yes no = true) (rv : Rv E c V) (hf : Holds E fs) : (V = .bool true ∧ yes = true) ∨ (V = .bool false ∧ no = true) := by
  unfold pickK at he
  split at he
  · rw [Rv] at rv
    rcases bc_or he with ⟨rfl, he⟩ | ⟨rfl, he⟩
    · exact .inl ⟨rv, he⟩
    · exact .inr ⟨rv, he⟩
  · rename_i e
    rw [Rv] at rv
    obtain ⟨hd, x, rfl⟩ := rv
    obtain ⟨h1, h2⟩ := decX_ok hf hd
    match hdx : decX fs e with
    | 0 => rw [hdx] at he; cases he
    | 1 => rw [hdx] at he; exact .inl ⟨by rw [h1 hdx], he⟩
    | n + 2 => rw [hdx] at he; exact .inr ⟨by rw [h2 (by omega)], he⟩
  · cases he

/-! ### Operations on expressions -/
def srtC (c : Nat) (V : Value) : Prop := match c with
  | 0 => ∃ x, V = .bool x
  | 1 => ∃ k n, V = .int k n
  | 2 => ∃ x, V = .float .f64 x
  | _ => ∃ s, V = .string s
/-- an operand as an expression -/
noncomputable def seK (v : AV) (k : Nat → SE → Bool) : Bool := match v with
  | .x s e => (match s with | .b => k 0 e | .i _ => k 1 e | .f => k 2 e | .s => k 3 e)
  | .b x => k 0 (.lb x)
  | .i kk n => k 1 (.li kk n)
  | .f .f64 x => k 2 (.lf x)
  | .s l x => k 3 (.ls l x)
  | _ => false
theorem seK_ok {v : AV} {V : Value} {k : Nat → SE → Bool} (he : seK v k = true) (r : Rv E v V) : ∃ c e, den E e = some V ∧ srtC c V ∧ k c e = true := by
  unfold seK at he
  split at he
  · rename_i s e
    rw [Rv] at r
    cases s
    · exact ⟨0, e, r.1, r.2, he⟩
    · obtain ⟨h1, n, h2, _⟩ := r; exact ⟨1, e, h1, ⟨_, n, h2⟩, he⟩
    · obtain ⟨h1, n, h2, _⟩ := r; exact ⟨2, e, h1, ⟨n, h2⟩, he⟩
    · obtain ⟨h1, n, h2, _⟩ := r; exact ⟨3, e, h1, ⟨n, h2⟩, he⟩
  · rw [Rv] at r; subst r; exact ⟨0, _, rfl, ⟨_, rfl⟩, he⟩
  · rw [Rv] at r; subst r; exact ⟨1, _, rfl, ⟨_, _, rfl⟩, he⟩
  · rw [Rv] at r; subst r; exact ⟨2, _, rfl, ⟨_, rfl⟩, he⟩
  · rw [Rv] at r; subst r; exact ⟨3, _, rfl, ⟨_, rfl⟩, he⟩
  · cases he

noncomputable def cmpLit (op : BinOp) (a : SE) (kb : IntKind) (c : Int) (k : SE → Bool) : Bool := match op with
  | .lss => k (.cmp .leq a (.li kb (c - 1))) | .leq => k (.cmp .leq a (.li kb c)) | .gtr => k (.not (.cmp .leq a (.li kb c))) | .geq => k (.not (.cmp .leq a (.li kb (c - 1))))
  | .eql => k (.cmp .eql a (.li kb c)) | .neq => k (.not (.cmp .eql a (.li kb c))) | _ => false
noncomputable def cmpSym (op : BinOp) (a b : SE) (k : SE → Bool) : Bool := match op with
  | .lss => k (.not (.cmp .leq b a)) | .leq => k (.cmp .leq a b) | .gtr => k (.not (.cmp .leq a b)) | .geq => k (.cmp .leq b a)
  | .eql => bc (seEq a b) (k (.lb true)) (k (.cmp .eql a b)) | .neq => bc (seEq a b) (k (.lb false)) (k (.not (.cmp .eql a b))) | _ => false
noncomputable def swapOp (op : BinOp) : BinOp := match op with
  | .lss => .gtr | .leq => .geq | .gtr => .lss | .geq => .leq | op => op
noncomputable def cmpInt (op : BinOp) (a b : SE) (k : SE → Bool) : Bool := match b with
  | .li kb c => cmpLit op a kb c k
  | b => (match a with
    | .li ka c => cmpLit (swapOp op) b ka c k
    | a => cmpSym op a b k)

theorem swapOp_ok (op : BinOp) (m n : Int) : cmpI (swapOp op) n m = cmpI op m n := by
  cases op <;> simp [swapOp, cmpI]
  · rw [Bool.eq_iff_iff, beq_iff_eq, beq_iff_eq]; exact eq_comm
  · rw [Bool.eq_iff_iff]; simp; exact ⟨fun h e => h e.symm, fun h e => h e.symm⟩
theorem den_not {e : SE} {r : Bool} (h : den E e = some (.bool r)) : den E (.not e) = some (.bool !r) := by simp only [den, h]
theorem den_cmpI (o : BinOp) {x y : SE} {kk : IntKind} {p q : Int} (hx : den E x = some (.int kk p)) (hy : den E y = some (.int kk q)) : den E (.cmp o x y) = (cmpI o p q).map .bool := by simp only [den, hx, hy, cmpV, if_true]
theorem cmpLit_ok {op : BinOp} {a : SE} {kk : IntKind} {m c : Int} {k : SE → Bool} (he : cmpLit op a kk c k = true) (ha : den E a = some (.int kk m)) : ∃ e r, cmpI op m c = some r ∧ den E e = some (.bool r) ∧ k e = true := by
  have li : ∀ d, den E (.li kk d) = some (.int kk d) := fun _ => rfl
  unfold cmpLit at he
  split at he <;> try (cases he; done)
  · refine ⟨_, _, rfl, ?_, he⟩; rw [den_cmpI .leq ha (li _)]; simp only [cmpI, Option.map_some]; congr 2; rw [decide_eq_decide]; omega
  · refine ⟨_, _, rfl, ?_, he⟩; rw [den_cmpI .leq ha (li _)]; rfl
  · refine ⟨_, _, rfl, ?_, he⟩; rw [den_not (den_cmpI .leq ha (li _))]; congr 2; rw [← decide_not, decide_eq_decide]; omega
  · refine ⟨_, _, rfl, ?_, he⟩; rw [den_not (den_cmpI .leq ha (li _))]; congr 2; rw [← decide_not, decide_eq_decide]; omega
  · refine ⟨_, _, rfl, ?_, he⟩; rw [den_cmpI .eql ha (li _)]; rfl
  · refine ⟨_, _, rfl, ?_, he⟩; rw [den_not (den_cmpI .eql ha (li _))]; rfl
theorem cmpInt_ok {op : BinOp} {a b : SE} {k : SE → Bool} (he : cmpInt op a b k = true) {kk : IntKind} {m n : Int} (ha : den E a = some (.int kk m)) (hb : den E b = some (.int kk n)) :
    ∃ e r, cmpI op m n = some r ∧ den E e = some (.bool r) ∧ k e = true := by
  unfold cmpInt at he
  split at he
  · rename_i kb c
    have hb' := hb
    simp only [den, Option.some.injEq, Value.int.injEq] at hb'
    obtain ⟨rfl, rfl⟩ := hb'
    exact cmpLit_ok he ha
  · split at he
    · rename_i ka c
      have ha' := ha
      simp only [den, Option.some.injEq, Value.int.injEq] at ha'
      obtain ⟨rfl, rfl⟩ := ha'
      obtain ⟨e, r, h1, h2⟩ := cmpLit_ok he hb
      rw [swapOp_ok] at h1
      exact ⟨e, r, h1, h2⟩
    · unfold cmpSym at he
      split at he <;> try (cases he; done)
      · refine ⟨_, _, rfl, ?_, he⟩; rw [den_not (den_cmpI .leq hb ha)]; congr 2; rw [← decide_not, decide_eq_decide]; omega
      · refine ⟨_, _, rfl, ?_, he⟩; rw [den_cmpI .leq ha hb]; rfl
      · refine ⟨_, _, rfl, ?_, he⟩; rw [den_not (den_cmpI .leq ha hb)]; congr 2; rw [← decide_not, decide_eq_decide]; omega
      · refine ⟨_, _, rfl, ?_, he⟩; rw [den_cmpI .leq hb ha]; rfl
      · rcases bc_or he with ⟨hs, he1⟩ | ⟨_, he⟩
        · have := seEq_ok hs
          subst this
          rw [ha] at hb; cases hb
          exact ⟨.lb true, true, by simp [cmpI], rfl, he1⟩
        · refine ⟨_, _, rfl, ?_, he⟩; rw [den_cmpI .eql ha hb]; rfl
      · rcases bc_or he with ⟨hs, he1⟩ | ⟨_, he⟩
        · have := seEq_ok hs
          subst this
          rw [ha] at hb; cases hb
          exact ⟨.lb false, false, by simp [cmpI], rfl, he1⟩
        · refine ⟨_, _, rfl, ?_, he⟩; rw [den_not (den_cmpI .eql ha hb)]; rfl

/-- other sorts: the expressions themselves -/
noncomputable def cmpOther (fl : Bool) (op : BinOp) (a b : SE) (k : SE → Bool) : Bool := match op with
  | .eql => bc (bc fl false (seEq a b)) (k (.lb true)) (match a with | .ls _ _ => k (.cmp .eql b a) | a => k (.cmp .eql a b))
  | .neq => bc (bc fl false (seEq a b)) (k (.lb false)) (match a with | .ls _ _ => k (.not (.cmp .eql b a)) | a => k (.not (.cmp .eql a b)))
  | op => k (.cmp op a b)

theorem binOp_cmp {P : Program} {op : BinOp} {t : TypeId} {X Y : Value} {r : Bool} (hb : ∀ x, X ≠ .bool x) (hc : cmpV op X Y = some r) : (binOp op t X Y).run P w = .ok (.bool r) w := by
  cases X <;> cases Y <;> simp only [cmpV] at hc <;> try (cases hc; done)
  · exact absurd rfl (hb _)
  · rename_i k a k' b
    by_cases hk : k = k'
    · subst hk
      simp only [if_true] at hc
      cases op <;> simp only [cmpI] at hc <;> (try (cases hc; done)) <;> simp [binOp, Op.intCmp] <;> simpa using hc
    · simp only [hk, if_false] at hc; cases hc
  · rename_i k a k' b
    cases k <;> cases k' <;> simp only at hc <;> try (cases hc; done)
    cases op <;> simp only [cmpF] at hc <;> (try (cases hc; done)) <;> simp [binOp, Op.floatCmp] <;> simpa using hc
  · cases op <;> simp only [cmpS] at hc <;> (try (cases hc; done)) <;> simp [binOp, Op.stringOp] <;> simpa using hc

/-- two operands held against each other; the sort's number goes along -/
noncomputable def symE (op : BinOp) (x y : AV) (k : Nat → SE → Bool) : Bool := bc (cmpOp op) (seK x fun c a => seK y fun d b => bc (Nat.beq c d)
  (match c with
    | 0 => (match op with | .eql => bc (seEq a b) (k 0 (.lb true)) (k 0 (.cmp .eql a b)) | _ => false)
    | 1 => (match x, y with
      | .x (.i k1) _, .x (.i k2) _ => bc (Nat.beq (kc k1) (kc k2)) (cmpInt op a b (k 1)) false
      | .x (.i k1) _, .i k2 _ => bc (Nat.beq (kc k1) (kc k2)) (cmpInt op a b (k 1)) false
      | .i k1 _, .x (.i k2) _ => bc (Nat.beq (kc k1) (kc k2)) (cmpInt op a b (k 1)) false
      | _, _ => false)
    | 2 => cmpOther true op a b (k 2)
    | 3 => cmpOther false op a b (k 3)
    | _ => false) false) false

theorem cmpOther_ok {fl : Bool} {op : BinOp} {a b : SE} {k : SE → Bool} (he : cmpOther fl op a b k = true) {X Y : Value} {r : Bool} (ha : den E a = some X) (hb : den E b = some Y) (hc : cmpV op X Y = some r)
    (hn : cmpV .neq X Y = (cmpV .eql X Y).map not) (hs : ∀ s, X = .string s → cmpV .eql X Y = cmpV .eql Y X) (hr : fl = false → X = Y → cmpV .eql X Y = some true) : ∃ e, den E e = some (.bool r) ∧ k e = true := by
  have nt : ∀ {e : SE} {r : Bool}, den E e = some (.bool r) → den E (.not e) = some (.bool !r) := fun h => by simp only [den, h]
  have same : bc fl false (seEq a b) = true → cmpV .eql X Y = some true := fun h => by
    rcases bc_or h with ⟨_, hh⟩ | ⟨h1, h2⟩
    · cases hh
    have := seEq_ok h2
    subst this
    rw [ha] at hb; cases hb
    exact hr h1 rfl
  unfold cmpOther at he
  split at he
  · rcases bc_or he with ⟨h1, he⟩ | ⟨_, he⟩
    · have := same h1
      rw [hc] at this; cases this
      exact ⟨.lb true, rfl, he⟩
    · split at he
      · exact ⟨_, by simp only [den] at ha ⊢; rw [hb]; cases ha; simp only; rw [← hs _ rfl, hc]; rfl, he⟩
      · exact ⟨_, by simp only [den, ha, hb, hc, Option.map_some], he⟩
  · rw [hn] at hc
    cases hq : cmpV .eql X Y with
    | none => rw [hq] at hc; cases hc
    | some q =>
      rw [hq] at hc
      simp only [Option.map_some, Option.some.injEq] at hc
      subst hc
      rcases bc_or he with ⟨h1, he⟩ | ⟨_, he⟩
      · have := same h1
        rw [hq] at this; cases this
        exact ⟨.lb false, rfl, he⟩
      · split at he
        · refine ⟨_, nt (r := q) ?_, he⟩
          simp only [den] at ha ⊢; rw [hb]; cases ha; simp only; rw [← hs _ rfl, hq]; rfl
        · exact ⟨_, nt (r := q) (by simp only [den, ha, hb, hq, Option.map_some]), he⟩
  · exact ⟨_, by simp only [den, ha, hb, hc, Option.map_some], he⟩

theorem cmpV_neq (X Y : Value) : cmpV .neq X Y = (cmpV .eql X Y).map not ∨ ∃ x, X = .bool x := by
  cases X <;> cases Y <;> simp only [cmpV, Option.map_none, true_or] <;> try (left; rfl)
  · right; exact ⟨_, rfl⟩
  · left
    rename_i k a k' b
    by_cases hk : k = k'
    · simp only [hk, if_true]; rfl
    · simp only [hk, if_false]; rfl
  · left
    rename_i k a k' b
    cases k <;> cases k' <;> rfl
theorem symE_ok {op : BinOp} {x y : AV} {X Y : Value} {k : Nat → SE → Bool} (he : symE op x y k = true) (rx : Rv E x X) (ry : Rv E y Y) :
    ∃ c e r, srtC c X ∧ srtC c Y ∧ c < 4 ∧ (c = 0 → op = .eql) ∧ cmpV op X Y = some r ∧ den E e = some (.bool r) ∧ k c e = true := by
  obtain ⟨hop, he1⟩ := bc_and he
  obtain ⟨c, a, ha, hca, he2⟩ := seK_ok he1 rx
  obtain ⟨d, b, hb, hdb, he3⟩ := seK_ok he2 ry
  obtain ⟨hcd, he4⟩ := bc_and he3
  have hcd := Nat.eq_of_beq_eq_true hcd
  clear he he1 he2 he3
  subst hcd
  match c, hca, hdb, he4 with
  | 0, ⟨p, e1⟩, ⟨q, e2⟩, he =>
    subst e1 e2
    simp only at he
    split at he
    · rcases bc_or he with ⟨hs, he5⟩ | ⟨_, he⟩
      · have := seEq_ok hs
        subst this
        rw [ha] at hb; cases hb
        exact ⟨0, .lb true, true, ⟨_, rfl⟩, ⟨_, rfl⟩, by omega, fun _ => rfl, by simp [cmpV], rfl, he5⟩
      · exact ⟨0, _, p == q, ⟨_, rfl⟩, ⟨_, rfl⟩, by omega, fun _ => rfl, by simp [cmpV], by simp [den, ha, hb, cmpV], he⟩
    · cases he
  | 1, ⟨k1, m, e1⟩, ⟨k2, n, e2⟩, he =>
    subst e1 e2
    have go : k1 = k2 → cmpInt op a b (k 1) = true → ∃ c e r, srtC c (.int k1 m) ∧ srtC c (.int k2 n) ∧ c < 4 ∧ (c = 0 → op = .eql) ∧ cmpV op (.int k1 m) (.int k2 n) = some r ∧ den E e = some (.bool r) ∧ k c e = true := by
      intro hk he
      subst hk
      obtain ⟨e, r, h1, h2, h3⟩ := cmpInt_ok he ha hb
      exact ⟨1, e, r, ⟨_, _, rfl⟩, ⟨_, _, rfl⟩, by omega, (fun h => absurd h (by decide)), by simp [cmpV, h1], h2, h3⟩
    simp only at he
    split at he
    · obtain ⟨h1, he5⟩ := bc_and he
      simp only [Rv, hasS] at rx ry
      obtain ⟨_, _, h4, _⟩ := rx
      obtain ⟨_, _, h5, _⟩ := ry
      cases h4; cases h5
      exact go (kc_inj h1) he5
    · obtain ⟨h1, he5⟩ := bc_and he
      simp only [Rv, hasS] at rx ry
      obtain ⟨_, _, h4, _⟩ := rx
      cases h4; cases ry
      exact go (kc_inj h1) he5
    · obtain ⟨h1, he5⟩ := bc_and he
      simp only [Rv, hasS] at rx ry
      obtain ⟨_, _, h5, _⟩ := ry
      cases rx; cases h5
      exact go (kc_inj h1) he5
    · cases he
  | 2, ⟨m, e1⟩, ⟨n, e2⟩, he =>
    subst e1 e2
    obtain ⟨r, hr⟩ : ∃ r, cmpV op (.float .f64 m) (.float .f64 n) = some r := by
      cases op <;> simp only [cmpOp, Bool.false_eq_true] at hop <;> exact ⟨_, rfl⟩
    obtain ⟨e, h1, h2⟩ := cmpOther_ok he ha hb hr rfl (fun _ h => by cases h) (fun h => by cases h)
    exact ⟨2, e, r, ⟨_, rfl⟩, ⟨_, rfl⟩, by omega, (fun h => absurd h (by decide)), hr, h1, h2⟩
  | c + 3, ⟨m, e1⟩, ⟨n, e2⟩, he =>
    subst e1 e2
    match c, he with
    | 0, he =>
      obtain ⟨r, hr⟩ : ∃ r, cmpV op (.string m) (.string n) = some r := by
        cases op <;> simp only [cmpOp, Bool.false_eq_true] at hop <;> exact ⟨_, rfl⟩
      obtain ⟨e, h1, h2⟩ := cmpOther_ok he ha hb hr rfl (fun _ _ => by simp only [cmpV, cmpS]; congr 1; rw [Bool.eq_iff_iff, beq_iff_eq, beq_iff_eq]; exact eq_comm) (fun _ h => by cases h; simp [cmpV, cmpS])
      exact ⟨3, e, r, ⟨_, rfl⟩, ⟨_, rfl⟩, by omega, (fun h => absurd h (by decide)), hr, h1, h2⟩
    | c + 1, he => cases he

noncomputable def symCmp (op : BinOp) (x y : AV) (k : AV → Bool) : Bool := symE op x y fun c e => Nat.rec (motive := fun _ => Bool) false (fun _ _ => k (.x .b e)) c
theorem symCmp_ok {P : Program} {op : BinOp} {t : TypeId} {x y : AV} {X Y : Value} {k : AV → Bool} (he : symCmp op x y k = true) (rx : Rv E x X) (ry : Rv E y Y) :
    (∃ v W, (binOp op t X Y).run P w = .ok W w ∧ Rv E v W ∧ k v = true) ∧ X ≠ .nilIface ∧ ∀ a, X ≠ .agg a := by
  obtain ⟨c, e, r, h1, _, _, _, h3, h4, h5⟩ := symE_ok he rx ry
  match c, h1, h5 with
  | 0, _, h5 => cases h5
  | c + 1, h1, h5 =>
    have hX : (∀ x, X ≠ .bool x) ∧ X ≠ .nilIface ∧ ∀ a, X ≠ .agg a := by
      match c, h1 with
      | 0, ⟨_, _, h⟩ => subst h; simp
      | 1, ⟨_, h⟩ => subst h; simp
      | _ + 2, ⟨_, h⟩ => subst h; simp
    exact ⟨⟨_, _, binOp_cmp hX.1 h3, by rw [Rv]; exact ⟨h4, _, rfl⟩, h5⟩, hX.2⟩

/-! ### Equality at a type -/
noncomputable def isX (v : AV) : Bool := match v with
  | .x _ _ => true
  | _ => false
noncomputable def srtD (d : TypeDesc) (c : Nat) : Bool := match d with
  | .bool => Nat.beq c 0
  | .int _ => Nat.beq c 1
  | .float _ => Nat.beq c 2
  | .string => Nat.beq c 3
  | _ => false
theorem symEq_run {P : Program} {t : TypeId} {d : TypeDesc} {X Y : Value} {c : Nat} {r : Bool} (hu : P.underlying t = some d) (hd : srtD d c = true) (h1 : srtC c X) (h2 : srtC c Y) (hc : cmpV .eql X Y = some r) (n : Nat) :
    (Op.equalIn (n + 1) t X Y).run P w = .ok r w := by
  cases d <;> simp only [srtD, Bool.false_eq_true] at hd <;> have hd := Nat.eq_of_beq_eq_true hd <;> subst hd
  · obtain ⟨a, rfl⟩ := h1
    obtain ⟨b, rfl⟩ := h2
    simp only [cmpV, Option.some.injEq] at hc
    subst hc
    simp [Op.equalIn, run_underlying' hu]
  · obtain ⟨k, a, rfl⟩ := h1
    obtain ⟨k', b, rfl⟩ := h2
    by_cases hk : k = k'
    · subst hk
      simp only [cmpV, if_true, cmpI, Option.some.injEq] at hc
      subst hc
      simp [Op.equalIn, run_underlying' hu]
    · simp only [cmpV, hk, if_false] at hc; cases hc
  · obtain ⟨a, rfl⟩ := h1
    obtain ⟨b, rfl⟩ := h2
    simp only [cmpV, cmpF, Option.some.injEq] at hc
    subst hc
    simp [Op.equalIn, run_underlying' hu, Op.floatEq]
  · obtain ⟨a, rfl⟩ := h1
    obtain ⟨b, rfl⟩ := h2
    simp only [cmpV, cmpS, Option.some.injEq] at hc
    subst hc
    rw [run_equalIn_string w n t _ _ hu]
end
end Go.Proofs.YtbmekbpgoakkbaaGreatDoor.Vx
set_option linter.unusedVariables false
set_option linter.unusedSimpArgs false
set_option linter.constructorNameAsVariable false
set_option linter.unusedSectionVars false
namespace Go.Proofs.YtbmekbpgoakkbaaGreatDoor.Vx
open Go

theorem wrap_in0 {k : IntKind} {n : Int} (h1 : k.min ≤ n) (h2 : n ≤ k.max) : k.wrap n = n := by
  unfold IntKind.wrap
  cases k <;> simp [IntKind.min, IntKind.max, IntKind.bits, IntKind.signed] at * <;> omega
theorem datum_self0 (d : Ieee.Datum) : d.order d = some .eq ∨ ∃ s m, d = .nan s m := by
  cases d with
  | nan s m => exact .inr ⟨s, m, rfl⟩
  | infinity s => left; cases s <;> rfl
  | number s m i =>
    left
    show some (compare (Ieee.signed s m (i - min i i).toNat) (Ieee.signed s m (i - min i i).toNat)) = some .eq
    congr 1
    show compareOfLessAndEq _ _ = .eq
    unfold compareOfLessAndEq
    rw [if_neg (Int.lt_irrefl _), if_pos rfl]
theorem order_self0 (x : Nat) : FloatKind.f64.format.order x x = some .eq ∨ ∃ s m, FloatKind.f64.format.read x = .nan s m := datum_self0 _

theorem read_safe : FloatKind.f64.format.read 0x433fffffffffffff = .number false 9007199254740991 0 := by kernel_rfl
theorem read_nsafe : FloatKind.f64.format.read 0xc33fffffffffffff = .number true 9007199254740991 0 := by kernel_rfl
theorem fsw : FloatKind.f64.format.signWeight = 2 ^ 63 := rfl

theorem cut_zero (s : Bool) (m d : Nat) : Ieee.Toward.zero.cut s m d = m / (1 <<< min d (m.log2 + 2)) := by
  unfold Ieee.Toward.cut
  simp
theorem cut_le {s : Bool} {m d S : Nat} (h : m ≤ S * 2 ^ d) : Ieee.Toward.zero.cut s m d ≤ S := by
  rw [cut_zero, Nat.one_shiftLeft]
  rcases Nat.le_total d (m.log2 + 2) with hd | hd
  · rw [Nat.min_eq_left hd]
    exact Nat.div_le_of_le_mul (by rw [Nat.mul_comm]; exact h)
  · rw [Nat.min_eq_right hd]
    have : m < 2 ^ (m.log2 + 2) := Nat.lt_of_lt_of_le Nat.lt_log2_self (Nat.pow_le_pow_right (by omega) (by omega))
    rw [Nat.div_eq_of_lt this]
    omega

theorem cmp_int_le {A B : Int} (h : (some (compare A B) == some Ordering.lt || some (compare A B) == some Ordering.eq) = true) : A ≤ B := by
  have : compare A B = .lt ∨ compare A B = .eq := by simpa using h
  rcases this with h | h
  · have : A < B := by
      rw [show compare A B = compareOfLessAndEq A B from rfl] at h
      unfold compareOfLessAndEq at h
      split at h
      · assumption
      · split at h <;> cases h
    omega
  · rw [icmp_eq] at h; omega
theorem cmp_int_ge {A B : Int} (h : (some (compare A B) == some Ordering.gt || some (compare A B) == some Ordering.eq) = true) : B ≤ A := by
  have : compare A B = .gt ∨ compare A B = .eq := by simpa using h
  rcases this with h | h
  · rw [show compare A B = compareOfLessAndEq A B from rfl] at h
    unfold compareOfLessAndEq at h
    split at h
    · cases h
    · split at h
      · cases h
      · omega
  · rw [icmp_eq] at h; omega
theorem cmp_int_le_iff {A B : Int} : (some (compare A B) == some Ordering.lt || some (compare A B) == some Ordering.eq) = decide (A ≤ B) := by
  rw [Bool.eq_iff_iff, decide_eq_true_iff]
  refine ⟨cmp_int_le, fun h => ?_⟩
  rw [show compare A B = compareOfLessAndEq A B from rfl]
  unfold compareOfLessAndEq
  split
  · rfl
  · rw [if_pos (by omega)]; rfl
theorem cmp_int_ge_iff {A B : Int} : (some (compare A B) == some Ordering.gt || some (compare A B) == some Ordering.eq) = decide (B ≤ A) := by
  rw [Bool.eq_iff_iff, decide_eq_true_iff]
  refine ⟨cmp_int_ge, fun h => ?_⟩
  rw [show compare A B = compareOfLessAndEq A B from rfl]
  unfold compareOfLessAndEq
  rw [if_neg (by omega)]
  split <;> rfl

/-- a number's size against the greatest one of ours -/
theorem cut_safe {m : Nat} {i : Int} {t : Bool} (h : Ieee.signed false m (i - min i 0).toNat ≤ Ieee.signed false 9007199254740991 (0 - min i 0).toNat) : Ieee.Toward.zero.cut t (m <<< i.toNat) (-i).toNat ≤ 9007199254740991 := by
  unfold Ieee.signed at h
  simp only [Bool.false_eq_true, if_false] at h
  have h : m <<< (i - min i 0).toNat ≤ 9007199254740991 <<< (0 - min i 0).toNat := by exact_mod_cast h
  apply cut_le
  rw [Nat.shiftLeft_eq] at *
  rw [Nat.shiftLeft_eq] at h
  rcases Int.le_total i 0 with hi | hi
  · rw [Int.min_eq_left hi] at h
    have e1 : (i - i).toNat = 0 := by omega
    have e2 : (0 - i).toNat = (-i).toNat := by omega
    have e3 : i.toNat = 0 := by omega
    rw [e1, e2] at h
    rw [e3]
    simpa using h
  · rw [Int.min_eq_right hi] at h
    have e1 : (i - 0).toNat = i.toNat := by omega
    have e2 : (0 - 0 : Int).toNat = 0 := rfl
    have e3 : (-i).toNat = 0 := by omega
    rw [e1, e2] at h
    rw [e3]
    simpa using h

theorem f2i_num {x : Nat} {s : Bool} {m : Nat} {i : Int} (h : FloatKind.f64.decode x = .number s m i) : f2i x = Ieee.signed s (Ieee.Toward.zero.cut s (m <<< i.toNat) (-i).toNat) 0 := by
  unfold f2i; rw [h]; rfl
theorem signed_bound {s : Bool} {M S : Nat} (h : M ≤ S) : -(S : Int) ≤ Ieee.signed s M 0 ∧ Ieee.signed s M 0 ≤ S := by
  unfold Ieee.signed
  cases s <;> simp <;> omega

theorem signed_tf (m u : Nat) : Ieee.signed true m u = -Ieee.signed false m u := by unfold Ieee.signed; simp

/-- by its place between the least and the greatest of ours -/
theorem num_of_between {x : Nat} (h1 : cmpF .leq x 0x433fffffffffffff = some true) (h2 : cmpF .geq x 0xc33fffffffffffff = some true) :
    ∃ s m i, FloatKind.f64.decode x = .number s m i ∧ Ieee.signed false m (i - min i 0).toNat ≤ Ieee.signed false 9007199254740991 (0 - min i 0).toNat := by
  simp only [cmpF, Option.some.injEq] at h1 h2
  unfold Ieee.Format.order at h1 h2
  rw [read_safe] at h1
  rw [read_nsafe] at h2
  have e : FloatKind.f64.decode x = FloatKind.f64.format.read x := rfl
  rw [e]
  cases hd : FloatKind.f64.format.read x with
  | nan s t => rw [hd] at h1; cases h1
  | infinity s => rw [hd] at h1 h2; cases s <;> first | (cases h1; done) | (cases h2; done)
  | number s m i =>
    rw [hd] at h1 h2
    refine ⟨s, m, i, rfl, ?_⟩
    have h1 := cmp_int_le h1
    have h2 := cmp_int_ge h2
    cases s
    · exact h1
    · rw [signed_tf, signed_tf] at h2; omega
theorem f2i_between {x : Nat} (h1 : cmpF .leq x 0x433fffffffffffff = some true) (h2 : cmpF .geq x 0xc33fffffffffffff = some true) :
    (∃ s m i, FloatKind.f64.decode x = .number s m i) ∧ -9007199254740991 ≤ f2i x ∧ f2i x ≤ 9007199254740991 := by
  obtain ⟨s, m, i, h, hb⟩ := num_of_between h1 h2
  refine ⟨⟨s, m, i, h⟩, ?_⟩
  rw [f2i_num h]
  exact signed_bound (cut_safe hb)

/-! ### Without its sign -/
theorem absF_eq {x : Nat} (hx : x < 18446744073709551616) : absF x = x % 2 ^ 63 := by
  unfold absF
  have e0 : (~~~BitVec.ofInt 64 9223372036854775808).toNat = 2 ^ 63 - 1 := by decide
  have e1 : (BitVec.ofInt 64 (x : Int) &&& ~~~BitVec.ofInt 64 9223372036854775808).toNat = x % 2 ^ 63 := by
    rw [BitVec.toNat_and, e0, Nat.and_two_pow_sub_one_eq_mod]
    have : (BitVec.ofInt 64 (x : Int)).toNat = x := by
      rw [BitVec.toNat_ofInt]; omega
    rw [this]
  rw [e1]
  have hlt : x % 2 ^ 63 < 2 ^ 63 := Nat.mod_lt _ (by decide)
  have : IntKind.u64.wrap ((x % 2 ^ 63 : Nat) : Int) = ((x % 2 ^ 63 : Nat) : Int) := by
    apply wrap_in0 <;> (simp [IntKind.min, IntKind.max, IntKind.bits, IntKind.signed]; try omega)
  rw [this]; rfl
theorem read_abs (x : Nat) : FloatKind.f64.format.read (x % 2 ^ 63) = (match FloatKind.f64.format.read x with
    | .number _ m i => .number false m i
    | .infinity _ => .infinity false
    | .nan _ t => .nan false t) := by
  unfold Ieee.Format.read
  rw [fsw]
  have e1 : x % 2 ^ 63 / 2 ^ 63 % 2 = 0 := by omega
  have e2 : x % 2 ^ 63 % 2 ^ 63 = x % 2 ^ 63 := by omega
  simp only [e1, e2]
  have e3 : ((0 : Nat) == 1) = false := rfl
  rw [e3]
  split
  · rfl
  · split
    · rfl
    · split <;> rfl
theorem num_of_abs {x : Nat} (hx : x < 18446744073709551616) (hs : feq x x = true) (h : fle (absF x) 0x433fffffffffffff = true) :
    ∃ s m i, FloatKind.f64.decode x = .number s m i ∧ Ieee.signed false m (i - min i 0).toNat ≤ Ieee.signed false 9007199254740991 (0 - min i 0).toNat := by
  unfold fle at h
  unfold feq at hs
  unfold Ieee.Format.order at h hs
  rw [absF_eq hx, read_abs, read_safe] at h
  have e : FloatKind.f64.decode x = FloatKind.f64.format.read x := rfl
  rw [e]
  cases hd : FloatKind.f64.format.read x with
  | nan s t => rw [hd] at hs; cases hs
  | infinity s => rw [hd] at h; cases h
  | number s m i =>
    rw [hd] at h
    exact ⟨s, m, i, rfl, cmp_int_le h⟩
theorem may_self {x : Nat} (h : mayF x = true) (hs : feq x x = true) : fle (absF x) 0x433fffffffffffff = true := by
  unfold mayF at h
  rw [hs] at h
  simp at h
  exact h.1.2
theorem num_of_may {x : Nat} (hx : x < 18446744073709551616) (h : mayF x = true) (hs : feq x x = true) : ∃ s m i, FloatKind.f64.decode x = .number s m i := by
  obtain ⟨s, m, i, h, _⟩ := num_of_abs hx hs (may_self h hs)
  exact ⟨s, m, i, h⟩
theorem f2i_may {x : Nat} (hx : x < 18446744073709551616) (h : mayF x = true) (hs : feq x x = true) : -9007199254740991 ≤ f2i x ∧ f2i x ≤ 9007199254740991 := by
  obtain ⟨s, m, i, h, hb⟩ := num_of_abs hx hs (may_self h hs)
  rw [f2i_num h]
  exact signed_bound (cut_safe hb)

/-! ### Whole numbers, by conversion -/
theorem order_zero_word (s : Bool) (x : Nat) : FloatKind.f64.format.order (FloatKind.f64.format.word s 0) x = FloatKind.f64.format.order 0 x := by
  cases s
  · rfl
  · unfold Ieee.Format.order
    have e1 : FloatKind.f64.format.read (FloatKind.f64.format.word true 0) = .number true 0 (-1074) := by kernel_rfl
    have e2 : FloatKind.f64.format.read 0 = .number false 0 (-1074) := by kernel_rfl
    rw [e1, e2]
    cases FloatKind.f64.format.read x <;> simp [Ieee.Datum.order, Ieee.signed]
theorem feq_near {x : Nat} {s : Bool} {m : Nat} {i : Int} (h : FloatKind.f64.decode x = .number s m i) (y : Nat) : feq (FloatKind.f64.nearest (f2i x)) y = feq (truncF x) y := by
  rw [f2i_num h]
  unfold truncF
  rw [h]
  show feq _ y = feq (FloatKind.f64.encode (.number s (Ieee.Toward.zero.cut s (m <<< i.toNat) (-i).toNat) 0)) y
  generalize Ieee.Toward.zero.cut s (m <<< i.toNat) (-i).toNat = M
  unfold FloatKind.nearest
  by_cases hM : M = 0
  · subst hM
    have e0 : Ieee.signed s 0 0 = 0 := by cases s <;> rfl
    rw [e0]
    have e1 : FloatKind.f64.encode (.number s 0 0) = FloatKind.f64.format.word s 0 := rfl
    have e2 : FloatKind.f64.encode (.number (decide ((0 : Int) < 0)) (0 : Int).natAbs 0) = FloatKind.f64.format.word false 0 := rfl
    rw [e1, e2]
    unfold feq
    rw [order_zero_word s, order_zero_word false]
  · have e1 : decide (Ieee.signed s M 0 < 0) = s := by
      unfold Ieee.signed
      cases s <;> simp <;> omega
    have e2 : (Ieee.signed s M 0).natAbs = M := by
      unfold Ieee.signed
      cases s <;> simp
    rw [e1, e2]
theorem near_lt (n : Int) : FloatKind.f64.nearest n < 18446744073709551616 := Ieee.Format.write_lt FloatKind.f64.format (.number (decide (n < 0)) n.natAbs 0)

/-- may it be: by its place, and by its whole number -/
theorem mayF_whole {x : Nat} (hx : x < 18446744073709551616) (hs : feq x x = true) (h0 : feq x 0 = false) :
    mayF x = (decide (cmpF .geq x 0xc33fffffffffffff = some true) && (decide (cmpF .leq x 0x433fffffffffffff = some true) && feq (FloatKind.f64.nearest (f2i x)) x)) := by
  unfold mayF
  rw [hs, h0]
  simp only [Bool.not_true, Bool.false_or, Bool.not_false, Bool.true_or, Bool.and_true]
  have e : FloatKind.f64.decode x = FloatKind.f64.format.read x := rfl
  unfold feq Ieee.Format.order at hs
  cases hd : FloatKind.f64.format.read x with
  | nan s t => rw [hd] at hs; cases hs
  | infinity s =>
    have e1 : fle (absF x) 0x433fffffffffffff = false := by
      unfold fle Ieee.Format.order
      rw [absF_eq hx, read_abs, read_safe, hd]; rfl
    rw [e1, Bool.and_false]
    simp only [cmpF, Ieee.Format.order, read_safe, read_nsafe, hd]
    cases s <;> rfl
  | number s m i =>
    clear hs h0
    rw [feq_near (s := s) (m := m) (i := i) (by rw [e, hd])]
    have e1 : fle (absF x) 0x433fffffffffffff = decide (Ieee.signed false m (i - min i 0).toNat ≤ Ieee.signed false 9007199254740991 (0 - min i 0).toNat) := by
      unfold fle Ieee.Format.order
      rw [absF_eq hx, read_abs, read_safe, hd]
      exact cmp_int_le_iff
    have e2 : (cmpF .leq x 0x433fffffffffffff = some true) ↔ Ieee.signed s m (i - min i 0).toNat ≤ Ieee.signed false 9007199254740991 (0 - min i 0).toNat := by
      simp only [cmpF, Ieee.Format.order, read_safe, hd, Ieee.Datum.order]
      rw [cmp_int_le_iff]; simp
    have e3 : (cmpF .geq x 0xc33fffffffffffff = some true) ↔ Ieee.signed true 9007199254740991 (0 - min i 0).toNat ≤ Ieee.signed s m (i - min i 0).toNat := by
      simp only [cmpF, Ieee.Format.order, read_nsafe, hd, Ieee.Datum.order]
      rw [cmp_int_ge_iff]; simp
    rw [e1, Bool.eq_iff_iff]
    simp only [Bool.and_eq_true, decide_eq_true_iff, e2, e3]
    have p1 : ∀ n u, 0 ≤ Ieee.signed false n u := fun n u => by
      unfold Ieee.signed
      rw [if_neg (by simp)]
      exact Int.natCast_nonneg _
    have q1 := p1 m (i - min i 0).toNat
    have q2 := p1 9007199254740991 (0 - min i 0).toNat
    cases s
    · rw [signed_tf]
      exact ⟨fun ⟨a, b⟩ => ⟨by omega, b, a⟩, fun ⟨_, b, a⟩ => ⟨a, b⟩⟩
    · rw [signed_tf, signed_tf]
      exact ⟨fun ⟨a, b⟩ => ⟨by omega, by omega, a⟩, fun ⟨b, _, a⟩ => ⟨a, by omega⟩⟩
theorem mayF_nan {x : Nat} (hs : feq x x = false) : mayF x = true := by unfold mayF; rw [hs]; rfl

/-- a sum of numbers is a number -/
theorem add_num {x y : Nat} (hx : ∃ s m i, FloatKind.f64.decode x = .number s m i) (hy : ∃ s m i, FloatKind.f64.decode y = .number s m i) : ∃ r, FloatKind.f64.format.add x y = some r ∧ r < 18446744073709551616 := by
  obtain ⟨s, m, i, hx⟩ := hx
  obtain ⟨t, n, j, hy⟩ := hy
  have hx : FloatKind.f64.format.read x = _ := hx
  have hy : FloatKind.f64.format.read y = _ := hy
  unfold Ieee.Format.add
  rw [hx, hy]
  exact ⟨_, rfl, Ieee.Format.write_lt FloatKind.f64.format _⟩
theorem sub_num {x y : Nat} (hx : ∃ s m i, FloatKind.f64.decode x = .number s m i) (hy : ∃ s m i, FloatKind.f64.decode y = .number s m i) : ∃ r, FloatKind.f64.format.sub x y = some r ∧ r < 18446744073709551616 := by
  obtain ⟨s, m, i, hx⟩ := hx
  obtain ⟨t, n, j, hy⟩ := hy
  have hx : FloatKind.f64.format.read x = _ := hx
  have hy : FloatKind.f64.format.read y = _ := hy
  unfold Ieee.Format.sub
  rw [hx, hy]
  exact ⟨_, rfl, Ieee.Format.write_lt FloatKind.f64.format _⟩
theorem add_nan {x y : Nat} (h : feq x x = false ∨ feq y y = false) : FloatKind.f64.format.add x y = none := by
  have key : ∀ z, feq z z = false → ∃ s t, FloatKind.f64.format.read z = .nan s t := fun z hz => by
    rcases order_self0 z with h | h
    · unfold feq at hz; rw [h] at hz; cases hz
    · exact h
  unfold Ieee.Format.add
  rcases h with h | h
  · obtain ⟨s, t, e⟩ := key _ h; rw [e]; cases FloatKind.f64.format.read y <;> rfl
  · obtain ⟨s, t, e⟩ := key _ h; rw [e]; cases FloatKind.f64.format.read x <;> rfl
theorem sub_nan {x y : Nat} (h : feq x x = false ∨ feq y y = false) : FloatKind.f64.format.sub x y = none := by
  have key : ∀ z, feq z z = false → ∃ s t, FloatKind.f64.format.read z = .nan s t := fun z hz => by
    rcases order_self0 z with h | h
    · unfold feq at hz; rw [h] at hz; cases hz
    · exact h
  unfold Ieee.Format.sub
  rcases h with h | h
  · obtain ⟨s, t, e⟩ := key _ h; rw [e]; cases FloatKind.f64.format.read y <;> rfl
  · obtain ⟨s, t, e⟩ := key _ h; rw [e]; cases FloatKind.f64.format.read x <;> rfl
set_option maxRecDepth 100000
/-! ### Whole numbers of 53 bits, as floats -/
theorem near_read {m : Nat} {s : Bool} (hm : 0 < m) (hM : m < 9007199254740992) : FloatKind.f64.format.read (FloatKind.f64.format.nearest s m 0) = .number s (m * 2 ^ (52 - m.log2)) ((m.log2 : Int) - 52) := by
  have hb : FloatKind.f64.format.fractionBits = 52 := rfl
  have hl : FloatKind.f64.format.leastPlace = -1074 := by kernel_rfl
  have hbin : FloatKind.f64.format.binade = 2 ^ 52 := rfl
  have hinf : FloatKind.f64.format.infRung = 2047 * 2 ^ 52 := rfl
  have hlog : m.log2 ≤ 52 := by
    have : m.log2 < 53 := (Nat.log2_lt (by omega)).2 (by simpa using hM)
    omega
  have h1 : 2 ^ m.log2 ≤ m := Nat.log2_self_le (by omega)
  have h2 : m < 2 ^ (m.log2 + 1) := Nat.lt_log2_self
  have hk1 : 2 ^ 52 ≤ m * 2 ^ (52 - m.log2) := by
    have := Nat.mul_le_mul_right (2 ^ (52 - m.log2)) h1
    rwa [← Nat.pow_add, show m.log2 + (52 - m.log2) = 52 by omega] at this
  have hk2 : m * 2 ^ (52 - m.log2) < 2 ^ 53 := by
    have := Nat.mul_lt_mul_of_pos_right h2 (Nat.two_pow_pos (52 - m.log2))
    rwa [← Nat.pow_add, show m.log2 + 1 + (52 - m.log2) = 53 by omega] at this
  generalize hK : m * 2 ^ (52 - m.log2) = K at hk1 hk2
  generalize hL : m.log2 = L at *
  have e53 : (2 : Nat) ^ 53 = 9007199254740992 := by decide
  have e52 : (2 : Nat) ^ 52 = 4503599627370496 := by decide
  have hn : FloatKind.f64.format.nearest s m 0 = FloatKind.f64.format.word s ((L + 1022) * 2 ^ 52 + K) := by
    unfold Ieee.Format.nearest
    rw [if_neg (by omega), hb, hl, hbin, hinf, hL]
    dsimp only
    have a1 : max ((0 : Int) + (L : Int) - (52 : Nat)) (-1074) = (L : Int) - 52 := by omega
    rw [a1]
    have a2 : (0 - ((L : Int) - 52)).toNat = 52 - L := by omega
    have a3 : ((L : Int) - 52 - 0).toNat = 0 := by omega
    have a4 : ((L : Int) - 52 - -1074).toNat = L + 1022 := by omega
    rw [a2, a3, a4, Nat.shiftLeft_eq, hK]
    have a5 : Ieee.Toward.even.cut s K 0 = K := by
      unfold Ieee.Toward.cut
      simp [Nat.mod_one]
    rw [a5]
    congr 1
    rw [Nat.min_eq_left (by omega)]
  rw [hn]
  unfold Ieee.Format.read
  rw [fsw, hbin, hinf, hl]
  have hw : FloatKind.f64.format.word s ((L + 1022) * 2 ^ 52 + K) = (if s then 2 ^ 63 else 0) + ((L + 1022) * 2 ^ 52 + K) := by
    unfold Ieee.Format.word
    rw [show FloatKind.f64.format.signWeight = 2 ^ 63 from rfl]
    cases s <;> simp
  rw [hw]
  have e63 : (2 : Nat) ^ 63 = 9223372036854775808 := by decide
  have r1 : ((if s then 2 ^ 63 else 0) + ((L + 1022) * 2 ^ 52 + K)) % 2 ^ 63 = (L + 1022) * 2 ^ 52 + K := by
    cases s <;> simp only [Bool.false_eq_true, if_false, if_true] <;> omega
  have r2 : (((if s then 2 ^ 63 else 0) + ((L + 1022) * 2 ^ 52 + K)) / 2 ^ 63 % 2 == 1) = s := by
    cases s <;> simp only [Bool.false_eq_true, if_false, if_true]
    · have : (0 + ((L + 1022) * 2 ^ 52 + K)) / 2 ^ 63 % 2 = 0 := by omega
      rw [this]; rfl
    · have : (2 ^ 63 + ((L + 1022) * 2 ^ 52 + K)) / 2 ^ 63 % 2 = 1 := by omega
      rw [this]; rfl
  simp only [r1, r2]
  rw [if_neg (by omega), if_pos (by omega)]
  have r3 : ((L + 1022) * 2 ^ 52 + K) % 2 ^ 52 = K - 2 ^ 52 := by omega
  have r4 : ((L + 1022) * 2 ^ 52 + K) / 2 ^ 52 = L + 1023 := by omega
  rw [r3, r4, show 2 ^ 52 + (K - 2 ^ 52) = K by omega, show (-1074 : Int) + ((L + 1023 - 1 : Nat) : Int) = (L : Int) - 52 by omega]
theorem near_trunc {m : Nat} {s : Bool} (hm : 0 < m) (hM : m < 9007199254740992) : (Ieee.Datum.number s (m * 2 ^ (52 - m.log2)) ((m.log2 : Int) - 52)).integral .zero = .number s m 0 := by
  have hlog : m.log2 ≤ 52 := by
    have : m.log2 < 53 := (Nat.log2_lt (by omega)).2 (by simpa using hM)
    omega
  have h1 : 2 ^ m.log2 ≤ m := Nat.log2_self_le (by omega)
  have hk1 : 2 ^ 52 ≤ m * 2 ^ (52 - m.log2) := by
    have := Nat.mul_le_mul_right (2 ^ (52 - m.log2)) h1
    rwa [← Nat.pow_add, show m.log2 + (52 - m.log2) = 52 by omega] at this
  show Ieee.Datum.number s (Ieee.Toward.zero.cut s ((m * 2 ^ (52 - m.log2)) <<< ((m.log2 : Int) - 52).toNat) (-((m.log2 : Int) - 52)).toNat) 0 = _
  have a1 : ((m.log2 : Int) - 52).toNat = 0 := by omega
  have a2 : (-((m.log2 : Int) - 52)).toNat = 52 - m.log2 := by omega
  rw [a1, a2, cut_zero, Nat.one_shiftLeft]
  congr 1
  have hK0 : (m * 2 ^ (52 - m.log2)) <<< 0 = m * 2 ^ (52 - m.log2) := by simp
  rw [hK0]
  have hlg : 52 ≤ (m * 2 ^ (52 - m.log2)).log2 := (Nat.le_log2 (by have := Nat.two_pow_pos 52; omega)).2 hk1
  rw [Nat.min_eq_left (by omega)]
  exact Nat.mul_div_cancel _ (Nat.two_pow_pos _)
theorem near_decode {z : Int} (h1 : -9007199254740991 ≤ z) (h2 : z ≤ 9007199254740991) (h0 : z ≠ 0) : FloatKind.f64.decode (FloatKind.f64.nearest z) = .number (decide (z < 0)) (z.natAbs * 2 ^ (52 - z.natAbs.log2)) ((z.natAbs.log2 : Int) - 52) :=
  near_read (by omega) (by omega)
theorem f2i_near {z : Int} (h1 : -9007199254740991 ≤ z) (h2 : z ≤ 9007199254740991) : f2i (FloatKind.f64.nearest z) = z := by
  by_cases h0 : z = 0
  · subst h0; kernel_rfl
  · unfold f2i
    rw [near_decode h1 h2 h0]
    unfold Ieee.Datum.toInt
    rw [near_trunc (by omega) (by omega)]
    show Ieee.signed (decide (z < 0)) z.natAbs 0 = z
    unfold Ieee.signed
    by_cases hz : z < 0
    · rw [decide_eq_true hz, if_pos rfl]; simp; omega
    · rw [decide_eq_false hz, if_neg (by simp)]; simp; omega
theorem near_self {z : Int} (h1 : -9007199254740991 ≤ z) (h2 : z ≤ 9007199254740991) : feq (FloatKind.f64.nearest z) (FloatKind.f64.nearest z) = true := by
  rcases order_self0 (FloatKind.f64.nearest z) with h | ⟨s, m, h⟩
  · unfold feq; rw [h]; rfl
  · exfalso
    by_cases h0 : z = 0
    · subst h0
      have : FloatKind.f64.format.read (FloatKind.f64.nearest 0) = .number false 0 (-1074) := by kernel_rfl
      rw [this] at h; cases h
    · have := near_decode h1 h2 h0
      have h : FloatKind.f64.decode (FloatKind.f64.nearest z) = _ := h
      rw [this] at h; cases h
theorem near_may {z : Int} (h1 : -9007199254740991 ≤ z) (h2 : z ≤ 9007199254740991) : mayF (FloatKind.f64.nearest z) = true := by
  by_cases h0 : z = 0
  · subst h0; kernel_rfl
  · have hd := near_decode h1 h2 h0
    have ht : truncF (FloatKind.f64.nearest z) = FloatKind.f64.nearest z := by
      unfold truncF
      rw [hd, near_trunc (by omega) (by omega)]
      rfl
    have hs := near_self h1 h2
    have hz : feq (FloatKind.f64.nearest z) 0 = false := by
      cases hz : feq (FloatKind.f64.nearest z) 0
      · rfl
      · exfalso
        unfold feq Ieee.Format.order at hz
        have e2 : FloatKind.f64.format.read 0 = .number false 0 (-1074) := by kernel_rfl
        have hd : FloatKind.f64.format.read (FloatKind.f64.nearest z) = _ := hd
        rw [e2, hd] at hz
        have hz : (some (compare (Ieee.signed (decide (z < 0)) (z.natAbs * 2 ^ (52 - z.natAbs.log2)) (((z.natAbs.log2 : Int) - 52) - min ((z.natAbs.log2 : Int) - 52) (-1074)).toNat) (Ieee.signed false 0 (-1074 - min ((z.natAbs.log2 : Int) - 52) (-1074)).toNat)) == some Ordering.eq) = true := hz
        generalize (((z.natAbs.log2 : Int) - 52) - min ((z.natAbs.log2 : Int) - 52) (-1074)).toNat = a at hz
        generalize (-1074 - min ((z.natAbs.log2 : Int) - 52) (-1074)).toNat = b at hz
        have hz : compare (Ieee.signed (decide (z < 0)) (z.natAbs * 2 ^ (52 - z.natAbs.log2)) a) (Ieee.signed false 0 b) = .eq := by simpa using hz
        rw [icmp_eq] at hz
        have e0 : Ieee.signed false 0 b = 0 := by unfold Ieee.signed; simp
        rw [e0] at hz
        have hp : 0 < (z.natAbs * 2 ^ (52 - z.natAbs.log2)) <<< a := by
          rw [Nat.shiftLeft_eq]
          exact Nat.mul_pos (Nat.mul_pos (by omega) (Nat.two_pow_pos _)) (Nat.two_pow_pos _)
        generalize (z.natAbs * 2 ^ (52 - z.natAbs.log2)) = M at hz hp
        unfold Ieee.signed at hz
        by_cases hzn : z < 0
        · rw [decide_eq_true hzn, if_pos rfl] at hz
          have : ((M <<< a : Nat) : Int) = 0 := by omega
          rw [Int.natCast_eq_zero] at this; omega
        · rw [decide_eq_false hzn, if_neg (by simp), Int.natCast_eq_zero] at hz; omega
    have ha : fle (absF (FloatKind.f64.nearest z)) 0x433fffffffffffff = true := by
      unfold fle Ieee.Format.order
      have hd : FloatKind.f64.format.read (FloatKind.f64.nearest z) = _ := hd
      rw [absF_eq (near_lt z), read_abs, read_safe, hd]
      dsimp only
      have hlog : z.natAbs.log2 ≤ 52 := by
        have e53 : (2 : Nat) ^ 53 = 9007199254740992 := by decide
        have : z.natAbs.log2 < 53 := (Nat.log2_lt (by omega)).2 (by omega)
        omega
      have a1 : (((z.natAbs.log2 : Int) - 52) - min ((z.natAbs.log2 : Int) - 52) 0).toNat = 0 := by omega
      have a2 : (0 - min ((z.natAbs.log2 : Int) - 52) 0).toNat = 52 - z.natAbs.log2 := by omega
      have key : Ieee.signed false (z.natAbs * 2 ^ (52 - z.natAbs.log2)) (((z.natAbs.log2 : Int) - 52) - min ((z.natAbs.log2 : Int) - 52) 0).toNat ≤ Ieee.signed false 9007199254740991 (0 - min ((z.natAbs.log2 : Int) - 52) 0).toNat := by
        rw [a1, a2]
        unfold Ieee.signed
        rw [if_neg (by simp), if_neg (by simp), Nat.shiftLeft_eq, Nat.shiftLeft_eq, Nat.pow_zero, Nat.mul_one]
        exact Int.ofNat_le.2 (Nat.mul_le_mul_right _ (by omega))
      exact cmp_int_le_iff.trans (decide_eq_true key)
    unfold mayF
    rw [hs, ht, hs, ha, hz]; rfl
end Go.Proofs.YtbmekbpgoakkbaaGreatDoor.Vx
