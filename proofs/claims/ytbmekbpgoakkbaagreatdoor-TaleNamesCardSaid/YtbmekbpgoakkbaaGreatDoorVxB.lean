/- Loads, stores and new blocks. No condition. -/
import Derived.Test.YtbmekbpgoakkbaaGreatDoorVxJ
set_option linter.unusedVariables false
set_option linter.unusedSimpArgs false
set_option linter.constructorNameAsVariable false
set_option linter.unusedSectionVars false
namespace Go.Proofs.YtbmekbpgoakkbaaGreatDoor.Vx
open Go

/-! ### Types -/
section
variable {P : Program} {w : World}
theorem run_underlying' {t : TypeId} {d : TypeDesc} (h : P.underlying t = some d) : (underlying t).run P w = .ok d w := by
  simp [underlying, h]
theorem run_typeInfo' {t : TypeId} {i : TypeInfo} (h : P.info? t = some i) : (typeInfo t).run P w = .ok i w := by
  simp [typeInfo, h]
theorem run_sizeOf' {t : TypeId} {i : TypeInfo} (h : P.info? t = some i) : (Go.sizeOf t).run P w = .ok i.size w := by
  simp [Go.sizeOf, run_typeInfo' h]
def isAggD : TypeDesc → Bool
  | .struct _ | .array _ _ => true
  | _ => false
theorem run_isAgg' {t : TypeId} {d : TypeDesc} (h : P.underlying t = some d) : (isAgg t).run P w = .ok (isAggD d) w := by
  unfold isAgg
  rw [Sem.run_bind, run_underlying' h]
  cases d <;> rfl
theorem run_zeroValue' {t : TypeId} {i : TypeInfo} {z : Value} (h : P.info? t = some i) (hz : i.zero = some z) : (zeroValue t).run P w = .ok z w := by
  simp [zeroValue, run_typeInfo' h, hz]
end

/-! ### Memory -/
section
variable {E : Env} {h : Heap} {nxt : Nat} {w : World}

theorem addr_add (b o n : Nat) : (⟨b, o, none⟩ : Addr).add n = ⟨b, o + n, none⟩ := by
  unfold Addr.add; split
  · next e => subst e; rfl
  · rfl

theorem HR.cells (hr : HR E h nxt w) {id n : Nat} {esz : Esz} {c : Cs} (hc : T.get .gone h id = .cells n esz c) :
    ∃ L arr el, E id = some L ∧ w.heap[L.blk]? = some (.cells arr el (0, 0)) ∧ L.base + n ≤ arr.size ∧ esz.ok L el arr.size n ∧
      ∀ j, j < n → Rv E (c.get j) (arr.getD (L.base + j) undef) := by
  have := hr.obj id
  rw [hc] at this
  exact this

theorem cell_of {fr : Nat × Nat} {L : Spot} {arr : Array Value} {el : TypeId} (hb : w.heap[L.blk]? = some (.cells arr el fr)) {off : Nat} (ho : off < arr.size) :
    w.cell? ⟨L.blk, off, none⟩ = some (arr.getD off undef) := by
  simp [World.cell?, hb, ho]

theorem frozen_of {L : Spot} {arr : Array Value} {el : TypeId} (hb : w.heap[L.blk]? = some (.cells arr el (0, 0))) (off : Nat) :
    w.frozen? ⟨L.blk, off, none⟩ = false := by
  simp [World.frozen?, hb]

theorem loadCellsFrom_run {fr : Nat × Nat} (P : Program) {L : Spot} {arr : Array Value} {el : TypeId} (hb : w.heap[L.blk]? = some (.cells arr el fr)) (off : Nat) :
    ∀ (n i : Nat) (acc : Array Value), off + i + n ≤ arr.size →
      (loadCellsFrom ⟨L.blk, off, none⟩ i n acc).run P w = .ok (acc ++ ((List.range' (off + i) n).map fun j => arr.getD j undef).toArray) w
  | 0, _, acc, _ => by simp [loadCellsFrom]
  | n + 1, i, acc, hn => by
    rw [loadCellsFrom, Sem.run_bind, run_load, addr_add, cell_of hb (by omega)]
    simp only [Result.andThen_ok]
    rw [loadCellsFrom_run P hb off n (i + 1) _ (by omega)]
    simp [List.range'_succ, Nat.add_assoc]

theorem loadCells_run {fr : Nat × Nat} (P : Program) {L : Spot} {arr : Array Value} {el : TypeId} (hb : w.heap[L.blk]? = some (.cells arr el fr)) (off n : Nat) (hn : off + n ≤ arr.size) :
    (loadCells ⟨L.blk, off, none⟩ n).run P w = .ok ((List.range' off n).map fun j => arr.getD j undef).toArray w := by
  unfold loadCells
  rw [loadCellsFrom_run P hb off n 0 #[] (by omega)]
  simp

/-- n cells of a trie, from off on -/
noncomputable def rdN (c : T AV) (n : Nat) : Nat → (List AV → Bool) → Bool :=
  Nat.rec (motive := fun _ => Nat → (List AV → Bool) → Bool) (fun _ k => k []) (fun _ ih off k => force (T.get .no c off) fun v => ih (Nat.succ off) fun l => k (v :: l)) n

theorem rdN_ok (c : T AV) : ∀ (n off : Nat) (k : List AV → Bool), rdN c n off k = k ((List.range' off n).map fun j => T.get .no c j)
  | 0, _, _ => rfl
  | n + 1, off, k => by
    show force (T.get .no c off) (fun v => rdN c n (off + 1) fun l => k (v :: l)) = _
    rw [force_eq, rdN_ok c n (off + 1)]
    simp [List.range'_succ]

theorem RvL.of_range {f : Nat → AV} {g : Nat → Value} : ∀ (n off : Nat), (∀ j, off ≤ j → j < off + n → Rv E (f j) (g j)) → RvL E ((List.range' off n).map f) ((List.range' off n).map g)
  | 0, _, _ => .nil
  | n + 1, off, hh => by
    simp only [List.range'_succ, List.map_cons]
    exact .cons (hh off (by omega) (by omega)) (RvL.of_range n (off + 1) fun j h1 h2 => hh j (by omega) (by omega))

theorem range_shift (f : Nat → Value) (b off n : Nat) : (List.range' (b + off) n).map f = (List.range' off n).map fun j => f (b + j) := by
  induction n generalizing off with
  | zero => rfl
  | succ n ih => simp only [List.range'_succ, List.map_cons]; rw [Nat.add_assoc, ih]

/-! #### load -/
noncomputable def evCells (P : Program) (t : TypeId) (n : Nat) (c : Cs) (off : Nat) (k : AV → Bool) : Bool := match P.underlying t with
  | some d => match P.info? t with
    | some i => bc (isAggD d) (bc (Nat.ble (off + i.size) n) (rdC c i.size off fun l => k (.ag l)) false) (bc (Nat.ble (off + 1) n) (force (c.get off) k) false)
    | none => false
  | none => false

noncomputable def evCellsG (P : Program) (t : TypeId) (n : Nat) (c : T AV) (off : Nat) (k : AV → Bool) : Bool := match P.underlying t with
  | some d => match P.info? t with
    | some i => bc (isAggD d) (bc (Nat.ble (off + i.size) n) (rdN c i.size off fun l => k (.ag l)) false) (bc (Nat.ble (off + 1) n) (force (T.get .no c off) k) false)
    | none => false
  | none => false

noncomputable def evLoad (P : Program) (t : TypeId) (x : AV) (h : Heap) (k : AV → Bool) : Bool := match x with
  | .p id off => match T.get .gone h id with
    | .cells n _ c => evCells P t n c off k
    | .glob _ n c => evCellsG P t n c off k
    | _ => false
  | .pg g off => match T.get .gone h (Nat.succ g) with
    | .glob g' n c => bc (Nat.beq g g') (bc (Nat.ble (Nat.succ g) 1000000) (evCellsG P t n c off k) false) false
    | _ => false
  | _ => false

theorem evCells_ok {P : Program} {t : TypeId} {n : Nat} {c : Cs} {off : Nat} {k : AV → Bool} (he : evCells P t n c off k = true) {L : Spot} {arr : Array Value} {el : TypeId} {fr : Nat × Nat}
    (hb : w.heap[L.blk]? = some (.cells arr el fr)) (hsz : L.base + n ≤ arr.size) (hcs : ∀ j, j < n → Rv E (c.get j) (arr.getD (L.base + j) undef)) :
    ∃ v W, (Instr.loadAt t (.pointer (some ⟨L.blk, L.base + off, none⟩))).run P w = .ok W w ∧ Rv E v W ∧ k v = true := by
  unfold evCells at he
  cases hu : P.underlying t <;> simp only [hu, Bool.false_eq_true] at he
  rename_i d
  cases hi : P.info? t <;> simp only [hi, Bool.false_eq_true] at he
  rename_i i
  have hload : ∀ (m : Value), (loadVar t ⟨L.blk, L.base + off, none⟩).run P w = .ok m w → (Instr.loadAt t (.pointer (some ⟨L.blk, L.base + off, none⟩))).run P w = .ok m w := by
    intro m hm
    simp only [Instr.loadAt, Instr.sureAddr, Sem.run_bind, Sem.run_pure, Result.andThen_ok, hm]
  rcases bc_or he with ⟨ha, he⟩ | ⟨ha, he⟩
  · obtain ⟨hle, he⟩ := bc_and he
    have hle : off + i.size ≤ n := Nat.le_of_ble_eq_true hle
    rw [rdC_ok] at he
    refine ⟨_, .agg ((List.range' (L.base + off) i.size).map fun j => arr.getD j undef).toArray, hload _ ?_, ?_, he⟩
    · unfold loadVar
      simp only [Sem.run_bind, run_isAgg' hu, Result.andThen_ok, ha, if_true, run_sizeOf' hi, loadCells_run P hb (L.base + off) i.size (by omega), Sem.run_pure]
    · rw [Rv]
      refine ⟨_, rfl, ?_⟩
      rw [range_shift]
      exact RvL.of_range _ _ fun j h1 h2 => hcs j (by omega)
  · obtain ⟨hle, he⟩ := bc_and he
    have hle : off + 1 ≤ n := Nat.le_of_ble_eq_true hle
    rw [force_eq] at he
    refine ⟨_, arr.getD (L.base + off) undef, hload _ ?_, hcs off (by omega), he⟩
    unfold loadVar
    simp only [Sem.run_bind, run_isAgg' hu, Result.andThen_ok, ha, Bool.false_eq_true, if_false, run_load, cell_of hb (show L.base + off < arr.size by omega)]

theorem evCellsG_ok {P : Program} {t : TypeId} {n : Nat} {c : T AV} {off : Nat} {k : AV → Bool} (he : evCellsG P t n c off k = true) {L : Spot} {arr : Array Value} {el : TypeId} {fr : Nat × Nat}
    (hb : w.heap[L.blk]? = some (.cells arr el fr)) (hsz : L.base + n ≤ arr.size) (hcs : ∀ j, j < n → Rv E (T.get .no c j) (arr.getD (L.base + j) undef)) :
    ∃ v W, (Instr.loadAt t (.pointer (some ⟨L.blk, L.base + off, none⟩))).run P w = .ok W w ∧ Rv E v W ∧ k v = true := by
  unfold evCellsG at he
  cases hu : P.underlying t <;> simp only [hu, Bool.false_eq_true] at he
  rename_i d
  cases hi : P.info? t <;> simp only [hi, Bool.false_eq_true] at he
  rename_i i
  have hload : ∀ (m : Value), (loadVar t ⟨L.blk, L.base + off, none⟩).run P w = .ok m w → (Instr.loadAt t (.pointer (some ⟨L.blk, L.base + off, none⟩))).run P w = .ok m w := by
    intro m hm
    simp only [Instr.loadAt, Instr.sureAddr, Sem.run_bind, Sem.run_pure, Result.andThen_ok, hm]
  rcases bc_or he with ⟨ha, he⟩ | ⟨ha, he⟩
  · obtain ⟨hle, he⟩ := bc_and he
    have hle : off + i.size ≤ n := Nat.le_of_ble_eq_true hle
    rw [rdN_ok] at he
    refine ⟨_, .agg ((List.range' (L.base + off) i.size).map fun j => arr.getD j undef).toArray, hload _ ?_, ?_, he⟩
    · unfold loadVar
      simp only [Sem.run_bind, run_isAgg' hu, Result.andThen_ok, ha, if_true, run_sizeOf' hi, loadCells_run P hb (L.base + off) i.size (by omega), Sem.run_pure]
    · rw [Rv]
      refine ⟨_, rfl, ?_⟩
      rw [range_shift]
      exact RvL.of_range _ _ fun j h1 h2 => hcs j (by omega)
  · obtain ⟨hle, he⟩ := bc_and he
    have hle : off + 1 ≤ n := Nat.le_of_ble_eq_true hle
    rw [force_eq] at he
    refine ⟨_, arr.getD (L.base + off) undef, hload _ ?_, hcs off (by omega), he⟩
    unfold loadVar
    simp only [Sem.run_bind, run_isAgg' hu, Result.andThen_ok, ha, Bool.false_eq_true, if_false, run_load, cell_of hb (show L.base + off < arr.size by omega)]

theorem evLoad_ok {P : Program} {t : TypeId} {x : AV} {V : Value} {k : AV → Bool} (he : evLoad P t x h k = true) (hx : Rv E x V) (hr : HR E h nxt w) :
    ∃ v W, (Instr.loadAt t V).run P w = .ok W w ∧ Rv E v W ∧ k v = true := by
  unfold evLoad at he
  split at he <;> try (cases he; done)
  · rename_i id off
    rw [Rv] at hx
    obtain ⟨L, hL, rfl⟩ := hx
    split at he <;> try (cases he; done)
    · rename_i n esz c hc
      obtain ⟨L', arr, el, hL', hb, hsz, _, hcs⟩ := hr.cells hc
      obtain rfl : L = L' := Option.some.inj (hL.symm.trans hL')
      exact evCells_ok he hb hsz hcs
    · rename_i g n c hc
      have ho := hr.obj id
      rw [hc] at ho
      obtain ⟨L', arr, el, fr, hL', _, hb, hsz, hcs, _⟩ := ho
      obtain rfl : L = L' := Option.some.inj (hL.symm.trans hL')
      exact evCellsG_ok he hb hsz hcs
  · rename_i g off
    rw [Rv] at hx
    subst hx
    split at he <;> try (cases he; done)
    rename_i g' n c hc
    obtain ⟨h1, he0⟩ := bc_and he
    obtain ⟨h2, he1⟩ := bc_and he0
    clear he he0
    have h1 := Nat.eq_of_beq_eq_true h1
    have h2 := Nat.le_of_ble_eq_true h2
    subst h1
    have ho := hr.obj (g + 1)
    rw [hc] at ho
    obtain ⟨L, arr, el, fr, _, hLB, hb, hsz, hcs, _⟩ := ho
    obtain ⟨hL, hB⟩ := hLB (by omega)
    have := evCellsG_ok (P := P) (E := E) (w := w) (L := L) he1 hb hsz hcs
    rw [hL, hB, Nat.zero_add] at this
    exact this

/-! #### store -/
def leaf : AV → Bool
  | .no | .un | .ag _ | .tu _ => false
  | _ => true

theorem leaf_oneCell {v : AV} {V : Value} (hl : leaf v = true) (r : Rv E v V) : V.oneCell' = true ∧ V.cells = #[V] := by
  cases v <;> simp only [leaf, Bool.false_eq_true] at hl <;> rw [Rv] at r
  case nan => obtain ⟨x, rfl, _⟩ := r; exact ⟨rfl, rfl⟩
  case p => obtain ⟨L, _, rfl⟩ := r; exact ⟨rfl, rfl⟩
  case sl => obtain ⟨L, _, rfl⟩ := r; exact ⟨rfl, rfl⟩
  case so => obtain ⟨L, _, rfl, _⟩ := r; exact ⟨rfl, rfl⟩
  case fn => obtain ⟨_, _, rfl, _, _⟩ := r; exact ⟨rfl, rfl⟩
  case ifc => obtain ⟨W, rfl, _⟩ := r; exact ⟨rfl, rfl⟩
  case mp => obtain ⟨L, _, rfl⟩ := r; exact ⟨rfl, rfl⟩
  case ii => obtain ⟨n, rfl⟩ := r; exact ⟨rfl, rfl⟩
  case pk => exact r.elim
  case any => exact r
  case sx => obtain ⟨L, n, c, _, _, _, _, _, rfl⟩ := r; exact ⟨rfl, rfl⟩
  case sz =>
    obtain ⟨L, n, _, _, _, _, rfl⟩ := r
    split
    · obtain ⟨a, ha⟩ := nulV_or L.base
      rw [ha]; exact ⟨rfl, rfl⟩
    · exact ⟨rfl, rfl⟩
  case sr => obtain ⟨L, n, _, _, _, _, rfl⟩ := r; exact ⟨rfl, rfl⟩
  case x s e =>
    obtain ⟨_, r⟩ := r
    cases s <;> simp only [hasS] at r
    · obtain ⟨_, rfl⟩ := r; exact ⟨rfl, rfl⟩
    · obtain ⟨_, rfl, _⟩ := r; exact ⟨rfl, rfl⟩
    · obtain ⟨_, rfl, _⟩ := r; exact ⟨rfl, rfl⟩
    · obtain ⟨_, rfl, _⟩ := r; exact ⟨rfl, rfl⟩
  all_goals (subst r; exact ⟨rfl, rfl⟩)

noncomputable def allLeaf (l : List AV) : Bool := List.rec (motive := fun _ => Bool) true (fun v _ ih => bc (leaf v) ih false) l
theorem allLeaf_cons {v : AV} {l : List AV} (h : allLeaf (v :: l) = true) : leaf v = true ∧ allLeaf l = true := bc_and (b := leaf v) (x := allLeaf l) h

/-- the cells of a value -/
noncomputable def cellsK (v : AV) (k : List AV → Bool) : Bool := match v with
  | .ag cs => bc (allLeaf cs) (k cs) false
  | v => bc (leaf v) (k [v]) false

theorem cellsK_ok {v : AV} {V : Value} {k : List AV → Bool} (h : cellsK v k = true) (r : Rv E v V) : ∃ l, RvL E l V.cells.toList ∧ allLeaf l = true ∧ k l = true := by
  by_cases hag : ∃ cs, v = .ag cs
  · obtain ⟨cs, rfl⟩ := hag
    obtain ⟨h1, h2⟩ := bc_and h
    rw [Rv] at r
    obtain ⟨vs, rfl, r⟩ := r
    exact ⟨cs, by simpa [Value.cells] using r, h1, h2⟩
  · have e : cellsK v k = bc (leaf v) (k [v]) false := by
      cases v <;> first | rfl | exact absurd ⟨_, rfl⟩ hag
    rw [e] at h
    obtain ⟨h1, h2⟩ := bc_and h
    refine ⟨[v], ?_, ?_, h2⟩
    · rw [(leaf_oneCell h1 r).2]; exact .cons r .nil
    · show bc (leaf v) true false = true; rw [h1]; rfl

/-- a list laid into a trie from off on -/
noncomputable def wrL (l : List AV) : T AV → Nat → (T AV → Bool) → Bool :=
  List.rec (motive := fun _ => T AV → Nat → (T AV → Bool) → Bool) (fun c _ k => k c) (fun v _ ih c off k => T.setK v c off fun c' => ih c' (Nat.succ off) k) l

noncomputable def wrLs (l : List AV) : T AV → Nat → T AV :=
  List.rec (motive := fun _ => T AV → Nat → T AV) (fun c _ => c) (fun v _ ih c off => ih (T.set v c off) (Nat.succ off)) l

theorem wrL_eq : ∀ (l : List AV) (c : T AV) (off : Nat) (k : T AV → Bool), wrL l c off k = k (wrLs l c off)
  | [], _, _, _ => rfl
  | v :: l, c, off, k => by
    show T.setK v c off (fun c' => wrL l c' (off + 1) k) = k (wrLs l (T.set v c off) (off + 1))
    rw [T.setK_eq, wrL_eq]

/-- stores into an array, as many as there are values -/
def putL (arr : Array Value) (off : Nat) : List Value → Array Value
  | [] => arr
  | v :: vs => putL (arr.setIfInBounds off v) (off + 1) vs

@[simp] theorem putL_size (vs : List Value) : ∀ (arr : Array Value) (off : Nat), (putL arr off vs).size = arr.size := by
  induction vs with
  | nil => intros; rfl
  | cons v vs ih => intro arr off; rw [putL, ih]; simp

theorem putL_get : ∀ (vs : List Value) (arr : Array Value) (off j : Nat), off ≤ j → j < off + vs.length → j < arr.size → (putL arr off vs).getD j undef = vs.getD (j - off) undef
  | [], arr, off, j, h1, h2, _ => by simp at h2; omega
  | v :: vs, arr, off, j, h1, h2, h3 => by
    rw [putL]
    by_cases e : j = off
    · subst e
      have aux : ∀ (vs : List Value) (arr : Array Value) (o : Nat), j < o → (putL arr o vs).getD j undef = arr.getD j undef := by
        intro vs
        induction vs with
        | nil => intro arr o _; rfl
        | cons u vs ih => intro arr o ho; rw [putL, ih _ _ (by omega)]; simp [Array.getElem?_setIfInBounds_ne (show o ≠ j by omega)]
      rw [aux vs _ _ (by omega)]
      simp [h3]
    · rw [putL_get vs _ (off + 1) j (by omega) (by simp at h2; omega) (by simpa using h3)]
      have : j - off = (j - (off + 1)) + 1 := by omega
      rw [this]; simp

theorem putL_out : ∀ (vs : List Value) (arr : Array Value) (off j : Nat), j < off ∨ off + vs.length ≤ j → (putL arr off vs).getD j undef = arr.getD j undef
  | [], _, _, _, _ => rfl
  | v :: vs, arr, off, j, h => by
    rw [putL, putL_out vs _ (off + 1) j (by simp at h; omega)]
    simp [Array.getElem?_setIfInBounds_ne (show off ≠ j by simp at h; omega)]

theorem RvL.nth {l : List AV} {vs : List Value} (r : RvL E l vs) (i : Nat) : Rv E (nthR l i) (vs.getD i undef) := by
  have hl := r.length
  rw [nthR_eq]
  by_cases h : i < l.length
  · obtain ⟨v, h1, h2⟩ := r.get i l[i] (List.getElem?_eq_getElem h)
    rw [List.getD_eq_getElem?_getD, List.getD_eq_getElem?_getD, List.getElem?_eq_getElem h, h1]
    exact h2
  · rw [List.getD_eq_getElem?_getD, List.getElem?_eq_none (by omega)]
    simp [Rv]

theorem wrCs_ok {base n : Nat} (l : List AV) (vs : List Value) (c : Cs) (arr : Array Value) (off : Nat) (hl : RvL E l vs) (hsz : base + n ≤ arr.size)
    (hc : ∀ j, j < n → Rv E (c.get j) (arr.getD (base + j) undef)) : ∀ j, j < n → Rv E ((wrCs l c off).get j) ((putL arr (base + off) vs).getD (base + j) undef) := by
  intro j hj
  have hlen := hl.length
  by_cases hin : off ≤ j ∧ j < off + l.length
  · obtain ⟨i, rfl⟩ : ∃ i, j = off + i := ⟨j - off, by omega⟩
    rcases wrCs_in (l := l) (c := c) (off := off) (i := i) (by omega) with e | e <;> rw [e]
    · rw [putL_get _ _ _ _ (by omega) (by omega) (by omega), show base + (off + i) - (base + off) = i by omega]
      exact hl.nth i
    · simp [Rv]
  · rw [wrCs_out (by omega), putL_out _ _ _ _ (by omega)]
    exact hc j hj

theorem wrLs_ok {base n : Nat} : ∀ (l : List AV) (vs : List Value) (c : T AV) (arr : Array Value) (off : Nat), RvL E l vs → base + n ≤ arr.size →
    (∀ j, j < n → Rv E (T.get .no c j) (arr.getD (base + j) undef)) →
    ∀ j, j < n → Rv E (T.get .no (wrLs l c off) j) ((putL arr (base + off) vs).getD (base + j) undef)
  | [], _, c, arr, off, hl, _, hc => by
    rw [RvL] at hl; subst hl; exact hc
  | v :: l, _, c, arr, off, hl, hsz, hc => by
    rw [RvL] at hl
    obtain ⟨V, vs, rfl, hv, hl⟩ := hl
    refine wrLs_ok l vs (T.set v c off) (arr.setIfInBounds (base + off) V) (off + 1) hl (by simpa using hsz) ?_
    intro j hj
    by_cases hjo : j = off
    · subst hjo
      have hlt : base + j < arr.size := by omega
      rcases T.get_set_eq AV.no v c j with e | e <;> rw [e]
      · simpa [hlt] using hv
      · simp [Rv]
    · rw [T.get_set_ne _ _ _ _ _ hjo]
      have : (arr.setIfInBounds (base + off) V).getD (base + j) undef = arr.getD (base + j) undef := by
        simp [Array.getElem?_setIfInBounds_ne (show base + off ≠ base + j by omega)]
      rw [this]; exact hc j hj

theorem setCell_eq {L : Spot} {arr : Array Value} {el : TypeId} (hb : w.heap[L.blk]? = some (.cells arr el (0, 0))) (off : Nat) (V : Value) :
    w.setCell ⟨L.blk, off, none⟩ V = { w with heap := w.heap.setIfInBounds L.blk (.cells (arr.setIfInBounds off V) el (0, 0)) } := by
  have hlt : L.blk < w.heap.size := by
    rcases Nat.lt_or_ge L.blk w.heap.size with hh | hh
    · exact hh
    · rw [Array.getElem?_eq_none hh] at hb; cases hb
  have he : w.heap[L.blk] = .cells arr el (0, 0) := by
    have := Array.getElem?_eq_getElem hlt; rw [this] at hb; exact Option.some.inj hb
  unfold World.setCell
  congr 1
  apply Array.ext_getElem?
  intro i
  rw [Array.getElem?_modify, Array.getElem?_setIfInBounds]
  show (if L.blk = i then _ else _) = _
  by_cases e : L.blk = i
  · subst e; simp [he, hlt]
  · rw [if_neg e, if_neg e]

theorem storeCells_run (P : Program) {L : Spot} {el : TypeId} (off : Nat) : ∀ (vs : List Value) (i : Nat) (w : World) (arr : Array Value),
    w.heap[L.blk]? = some (.cells arr el (0, 0)) → off + i + vs.length ≤ arr.size → (∀ v ∈ vs, v.oneCell' = true) →
    (storeCells ⟨L.blk, off, none⟩ vs i).run P w = .ok () { w with heap := w.heap.setIfInBounds L.blk (.cells (putL arr (off + i) vs) el (0, 0)) }
  | [], i, w, arr, hb, _, _ => by
    have hlt : L.blk < w.heap.size := by
      rcases Nat.lt_or_ge L.blk w.heap.size with hh | hh
      · exact hh
      · rw [Array.getElem?_eq_none hh] at hb; cases hb
    have : w.heap.setIfInBounds L.blk (.cells arr el (0, 0)) = w.heap := by
      apply Array.ext
      · simp
      · intro j h1 h2
        rw [Array.getElem_setIfInBounds]
        split
        · rename_i e; subst e; have := Array.getElem?_eq_getElem hlt; rw [this] at hb; exact (Option.some.inj hb).symm
        · rfl
    simp [storeCells, putL, this]
  | v :: vs, i, w, arr, hb, hsz, hv => by
    have hlt : L.blk < w.heap.size := by
      rcases Nat.lt_or_ge L.blk w.heap.size with hh | hh
      · exact hh
      · rw [Array.getElem?_eq_none hh] at hb; cases hb
    rw [storeCells, Sem.run_bind, addr_add, run_store P w _ _ _ (hv v (by simp)), cell_of hb (by simp at hsz; omega), frozen_of hb]
    simp only [Bool.false_eq_true, if_false, Result.andThen_ok]
    rw [setCell_eq hb]
    rw [storeCells_run P (el := el) off vs (i + 1) _ (arr.setIfInBounds (off + i) v) (by simp [hlt]) (by simp at hsz ⊢; omega) (fun u hu => hv u (by simp [hu]))]
    simp [putL, Nat.add_assoc]

theorem flr_live (hh : (T.get .gone h 0).live = true) : flr h = 0 := by
  unfold flr
  cases e : T.get AO.gone h 0 <;> rw [e] at hh <;> first | rfl | cases hh
theorem flr_gone (hh : T.get .gone h 0 = .gone) : flr h = 0 := by
  unfold flr; rw [hh]

theorem flr_set {id : Nat} {o : AO} (h0 : id = 0 → (T.get .gone h 0).live = true ∧ o.live = true) : flr (T.set o h id) = flr h := by
  by_cases e : 0 = id
  · obtain ⟨h1, h2⟩ := h0 e.symm
    subst e
    rw [flr_live h1]
    rcases T.get_set_eq AO.gone o h 0 with g | g
    · exact flr_live (by rw [g]; exact h2)
    · exact flr_gone g
  · unfold flr; rw [T.get_set_ne _ _ _ _ _ e]

noncomputable def flrOK (h : Heap) (id : Nat) (b : Bool) : Bool := match T.get .gone h 0 with
  | .floor n => bc (Nat.ble n id) b false
  | _ => b

theorem flrOK_ok {id : Nat} {b : Bool} (he : flrOK h id b = true) : flr h ≤ id ∧ b = true := by
  unfold flrOK at he
  unfold flr
  split at he
  · rename_i n hn
    obtain ⟨h1, h2⟩ := bc_and he
    rw [hn]
    exact ⟨Nat.le_of_ble_eq_true h1, h2⟩
  · rename_i hn
    refine ⟨?_, he⟩
    cases hh : T.get AO.gone h 0 <;> first | exact Nat.zero_le _ | exact absurd hh (hn _)

/-- a block of the abstract memory is written: what becomes of the rest -/
theorem HR.write (hr : HR E h nxt w) {id n : Nat} {esz : Esz} {c c' : Cs} (hc : T.get .gone h id = .cells n esz c) {L : Spot} {arr arr' : Array Value} {el : TypeId} (hL : E id = some L)
    (hb : w.heap[L.blk]? = some (.cells arr el (0, 0))) (hsz : arr'.size = arr.size) (hcs : ∀ j, j < n → Rv E (c'.get j) (arr'.getD (L.base + j) undef)) (hfl : flr h ≤ id) :
    HR E (T.set (.cells n esz c') h id) nxt { w with heap := w.heap.setIfInBounds L.blk (.cells arr' el (0, 0)) } ∧
    Goes E h w E (T.set (.cells n esz c') h id) { w with heap := w.heap.setIfInBounds L.blk (.cells arr' el (0, 0)) } := by
  have hlive : (T.get .gone h id).live = true := by rw [hc]; rfl
  have hlt := hr.inw id L hL
  have live_of : ∀ i, (T.get AO.gone (T.set (.cells n esz c') h id) i).live = true → (T.get .gone h i).live = true := by
    intro i hi
    by_cases e : i = id
    · rw [e]; exact hlive
    · rwa [T.get_set_ne _ _ _ _ _ e] at hi
  obtain ⟨L', arr0, el0, hL', hb0, hs0, hro, _⟩ := hr.cells hc
  obtain rfl : L = L' := Option.some.inj (hL.symm.trans hL')
  rw [hb] at hb0
  obtain ⟨rfl, rfl⟩ : arr = arr0 ∧ el = el0 := by simpa using hb0
  have hfs : flr (T.set (.cells n esz c') h id) = flr h := flr_set fun e => by subst e; exact ⟨hlive, rfl⟩
  refine ⟨⟨fun i => ?_, fun i j A B hi hj => hr.inj i j A B (live_of i hi) (live_of j hj), fun i hi => ?_, hr.fresh, fun i M hM => by simpa using hr.inw i M hM, hr.pos, by rw [hfs]; exact hr.flle, by cases hl : (T.get AO.gone (T.set (.cells n esz c') h id) 0).live with | false => rfl | true => (have := live_of 0 hl; rw [hr.zero] at this; cases this)⟩,
    Env.le_refl _, by simp, fun k hk hn => ?_, fun k hk ⟨i, M, hif, hi, hM, hk'⟩ => ⟨i, M, by rw [← hfs]; exact hif, live_of i hi, hM, hk'⟩, hfs,
    fun i hi => T.get_set_ne _ _ _ _ _ (by omega), rfl, rfl, rfl⟩
  · by_cases e : i = id
    · subst e
      rcases T.get_set_eq AO.gone (.cells n esz c') h i with g | g <;> rw [g]
      · exact ⟨L, arr', el, hL, by simp [hlt], by omega, by rw [hsz]; exact hro, hcs⟩
      · trivial
    · rw [T.get_set_ne _ _ _ _ _ e]
      have hob := hr.obj i
      cases ho : T.get AO.gone h i <;> rw [ho] at hob
      case gone => trivial
      case floor => trivial
      case facts => exact hob
      case ali => exact hob
      all_goals
        have hne : ∀ M, E i = some M → L.blk ≠ M.blk := fun M hM hbe => e (hr.inj i id M L (by rw [ho]; rfl) hlive hM hL hbe.symm)
      case cells => 
        obtain ⟨M, ar, e', h1, h2, h3⟩ := hob
        exact ⟨M, ar, e', h1, by simp only [Array.getElem?_setIfInBounds_ne (hne M h1)]; exact h2, h3⟩
      case map =>
        obtain ⟨M, ms, h1, h2, h3⟩ := hob
        exact ⟨M, ms, h1, by simp only [Array.getElem?_setIfInBounds_ne (hne M h1)]; exact h2, h3⟩
      case siter =>
        obtain ⟨M, h1, h2, h3⟩ := hob
        exact ⟨M, h1, h2, by simp only [Array.getElem?_setIfInBounds_ne (hne M h1)]; exact h3⟩
      case glob =>
        obtain ⟨M, ar, e', fr, h1, h2, h3, h4, h5⟩ := hob
        exact ⟨M, ar, e', fr, h1, h2, by simp only [Array.getElem?_setIfInBounds_ne (hne M h1)]; exact h3, h4, h5⟩
      case rows =>
        obtain ⟨M, ar, n9, h1, hb0, h2, h3⟩ := hob
        exact ⟨M, ar, n9, h1, hb0, by simp only [Array.getElem?_setIfInBounds_ne (hne M h1)]; exact h2, h3⟩
      case blob =>
        obtain ⟨M, ar, n9, h1, hb0, h2, h3⟩ := hob
        exact ⟨M, ar, n9, h1, hb0, by simp only [Array.getElem?_setIfInBounds_ne (hne M h1)]; exact h2, h3⟩
  · cases hl : (T.get AO.gone (T.set (.cells n esz c') h id) i).live with
    | false => rfl
    | true => have := live_of i hl; rw [hr.lt i hi] at this; cases this
  · simp only [Array.getElem?_setIfInBounds]
    split
    · rename_i hk'; exact absurd ⟨id, L, hfl, hlive, hL, hk'⟩ hn
    · rfl

noncomputable def lenIs (l : List AV) (n : Nat) : Bool := Nat.beq (List.rec (motive := fun _ => Nat) 0 (fun _ _ ih => Nat.succ ih) l) n
theorem lenIs_ok {l : List AV} {n : Nat} (h : lenIs l n = true) : l.length = n := by
  have : List.rec (motive := fun _ => Nat) 0 (fun _ _ ih => Nat.succ ih) l = l.length := by
    clear h
    induction l with
    | nil => rfl
    | cons a l ih => rw [List.length_cons, ← ih]
  unfold lenIs at h
  rw [this] at h
  exact Nat.eq_of_beq_eq_true h

noncomputable def evStore (P : Program) (t : TypeId) (x v : AV) (h : Heap) (k : Heap → Bool) : Bool := match x with
  | .p id off => match T.get .gone h id with
    | .cells n esz c => match P.info? t with
      | some i => cellsK v fun l => bc (lenIs l i.size) (bc (Nat.ble (off + i.size) n) (flrOK h id (wrC l c off fun c' => T.setK (.cells n esz c') h id k)) false) false
      | none => false
    | _ => false
  | _ => false

theorem RvL.leaves {l : List AV} : ∀ {vs : List Value}, RvL E l vs → allLeaf l = true → ∀ v ∈ vs, v.oneCell' = true := by
  induction l with
  | nil => intro vs r _ v hv; rw [RvL] at r; subst r; cases hv
  | cons a l ih =>
    intro vs r hl v hv
    rw [RvL] at r
    obtain ⟨V, vs', rfl, r1, r2⟩ := r
    obtain ⟨h1, h2⟩ := allLeaf_cons hl
    rcases List.mem_cons.1 hv with rfl | hv
    · exact (leaf_oneCell h1 r1).1
    · exact ih r2 h2 v hv

theorem evStore_ok {P : Program} {t : TypeId} {x v : AV} {X V : Value} {k : Heap → Bool} (he : evStore P t x v h k = true) (hx : Rv E x X) (hv : Rv E v V) (hr : HR E h nxt w) :
    ∃ h' w', (Instr.storeAt t X V).run P w = .ok () w' ∧ HR E h' nxt w' ∧ Goes E h w E h' w' ∧ k h' = true := by
  cases x <;> simp only [evStore, Bool.false_eq_true] at he
  rename_i id off
  rw [Rv] at hx
  obtain ⟨L, hL, rfl⟩ := hx
  cases hc : T.get AO.gone h id <;> simp only [hc, Bool.false_eq_true] at he
  rename_i n esz c
  obtain ⟨L', arr, el, hL', hb, hsz, _, hcs⟩ := hr.cells hc
  obtain rfl : L = L' := Option.some.inj (hL.symm.trans hL')
  cases hi : P.info? t <;> simp only [hi, Bool.false_eq_true] at he
  rename_i i
  obtain ⟨l, hl, hleaf, he⟩ := cellsK_ok he hv
  obtain ⟨hlen, he⟩ := bc_and he
  obtain ⟨hle, he⟩ := bc_and he
  have hlen := lenIs_ok hlen
  have hle : off + i.size ≤ n := Nat.le_of_ble_eq_true hle
  obtain ⟨hfl, he⟩ := flrOK_ok he
  rw [wrC_eq, T.setK_eq] at he
  have hvl := hl.length
  obtain ⟨g1, g2⟩ := hr.write hc (c' := wrCs l c off) (arr' := putL arr (L.base + off) V.cells.toList) hL hb (by simp) (wrCs_ok l V.cells.toList c arr off hl hsz hcs) hfl
  refine ⟨_, _, ?_, g1, g2, he⟩
  have hvs : V.cells.size = i.size := by rw [← hlen, ← hvl]; simp
  simp only [Instr.storeAt, Instr.sureAddr, Sem.run_bind, Sem.run_pure, Result.andThen_ok, storeVar, run_sizeOf' hi, hvs, ne_eq, not_true_eq_false, if_false]
  have := storeCells_run P (L := L) (L.base + off) V.cells.toList 0 w arr hb (by simp; omega) (hl.leaves hleaf)
  simpa using this

/-! #### a new block -/
noncomputable def big : T AV := T.full .no 24

theorem Env.le_set {E : Env} {nxt : Nat} (hf : E nxt = none) (L : Spot) : E.le (fun i => if i = nxt then some L else E i) := by
  intro i M hM
  by_cases e : i = nxt
  · subst e; rw [hf] at hM; cases hM
  · simp [e, hM]

/-- a new block: what is said of it holds in the environment that knows it -/
theorem HR.alloc (hr : HR E h nxt w) (o : Obj) (hz : Cold o) (L : Spot) (hL : L.blk = w.heap.size) (a : AO)
    (ha : RO (fun i => if i = nxt then some L else E i) { w with heap := w.heap.push o } nxt a) :
    HR (fun i => if i = nxt then some L else E i) (T.set a h nxt) (nxt + 1) { w with heap := w.heap.push o } ∧
    Goes E h w (fun i => if i = nxt then some L else E i) (T.set a h nxt) { w with heap := w.heap.push o } := by
  have hle := Env.le_set (hr.fresh nxt (Nat.le_refl _)) L
  have old : ∀ i M, i ≠ nxt → (if i = nxt then some L else E i) = some M → E i = some M := fun i M e hM => by simpa [e] using hM
  have live_of : ∀ i, i ≠ nxt → (T.get AO.gone (T.set a h nxt) i) = T.get .gone h i := fun i e => T.get_set_ne _ _ _ _ _ e
  have hp := hr.pos
  have hfl := hr.flle
  have hfs : flr (T.set a h nxt) = flr h := flr_set fun e => by omega
  refine ⟨⟨fun i => ?_, fun i j A B hi hj hA hB hAB => ?_, fun i hi => ?_, fun i hi => ?_, fun i M hM => ?_, by omega, by rw [hfs]; omega, by rw [live_of 0 (by omega)]; exact hr.zero⟩,
    hle, by simp, fun k hk _ => ?_, fun k hk hf => ?_, hfs, fun i hi => T.get_set_ne _ _ _ _ _ (by omega), rfl, rfl, rfl⟩
  · by_cases e : i = nxt
    · subst e
      rcases T.get_set_eq AO.gone a h i with g | g <;> rw [g]
      · exact ha
      · trivial
    · rw [live_of i e]
      have hob := hr.obj i
      have push_ok : ∀ (M : Spot) (x : Obj), w.heap[M.blk]? = some x → (w.heap.push o)[M.blk]? = some x := by
        intro M x hx
        have : M.blk < w.heap.size := by
          rcases Nat.lt_or_ge M.blk w.heap.size with hh | hh
          · exact hh
          · rw [Array.getElem?_eq_none hh] at hx; cases hx
        rw [Array.getElem?_push, if_neg (by omega)]; exact hx
      cases ho : T.get AO.gone h i <;> rw [ho] at hob
      case gone => trivial
      case floor => trivial
      case facts => exact fun p hp => den_mono hle _ _ (hob p hp)
      case ali =>
        obtain ⟨M9, M8, c9, h1, h2, h3, h4⟩ := hob
        exact ⟨M9, M8, c9, hle _ _ h1, hle _ _ h2, den_mono hle _ _ h3, h4⟩
      case cells =>
        obtain ⟨M, ar, e', h1, h2, h3, h4, h5⟩ := hob
        exact ⟨M, ar, e', by simp [e, h1], push_ok M _ h2, h3, h4, fun j hj => (h5 j hj).mono hle⟩
      case map es ck =>
        obtain ⟨M, ms, h1, h2, h3⟩ := hob
        have mono : ∀ (es : List Ent) (ms : List MapEntry), REntL E es ms → REntL (fun i => if i = nxt then some L else E i) es ms := by
          intro es
          induction es with
          | nil => intro ms r; exact r
          | cons x es ih => intro ms ⟨m, ms', e1, ⟨r1, r2, r3⟩, r4⟩; exact ⟨m, ms', e1, ⟨r1.mono hle, r2.mono hle, r3⟩, ih _ r4⟩
        exact ⟨M, ms, by simp [e, h1], push_ok M _ h2, mono _ _ h3⟩
      case siter =>
        obtain ⟨M, h1, h2, h3⟩ := hob
        exact ⟨M, by simp [e, h1], h2, push_ok M _ h3⟩
      case glob =>
        obtain ⟨M, ar, e', fr, h1, h2, h3, h4, h5⟩ := hob
        exact ⟨M, ar, e', fr, by simp [e, h1], h2, push_ok M _ h3, h4, (fun j hj => (h5.1 j hj).mono hle), h5.2.wide hle⟩
      case rows =>
        obtain ⟨M, ar, n9, h1, hb0, h2, h3, h4⟩ := hob
        exact ⟨M, ar, n9, by simp [e, h1], hb0, push_ok M _ h2, den_mono hle _ _ h3, h4⟩
      case blob =>
        obtain ⟨M, ar, n9, h1, hb0, h2, h3, h4, h5, c0, h6, h7, h8, h9⟩ := hob
        exact ⟨M, ar, n9, by simp [e, h1], hb0, push_ok M _ h2, den_mono hle _ _ h3, h4, h5, c0, den_mono hle _ _ h6, h7, h8, fun j a hj => (h9 j a hj).mono hle⟩
  · by_cases ei : i = nxt
    · by_cases ej : j = nxt
      · rw [ei, ej]
      · subst ei
        have hA' : A = L := by simpa using hA.symm
        have := hr.inw j B (old j B ej hB)
        subst hA'; omega
    · by_cases ej : j = nxt
      · subst ej
        have hB' : B = L := by simpa using hB.symm
        have := hr.inw i A (old i A ei hA)
        subst hB'; omega
      · rw [live_of i ei] at hi
        rw [live_of j ej] at hj
        exact hr.inj i j A B hi hj (old i A ei hA) (old j B ej hB) hAB
  · have e : i ≠ nxt := by omega
    rw [live_of i e]; exact hr.lt i (by omega)
  · have e : i ≠ nxt := by omega
    simp only [e, if_false]; exact hr.fresh i (by omega)
  · by_cases e : i = nxt
    · subst e
      have : M = L := by simpa using hM.symm
      subst this; simp; omega
    · have := hr.inw i M (old i M e hM); simp; omega
  · show (w.heap.push o)[k]? = w.heap[k]?
    rw [Array.getElem?_push, if_neg (by omega)]
  · obtain ⟨i, M, hif, hi, hM, rfl⟩ := hf
    by_cases e : i = nxt
    · subst e
      have : M = L := by simpa using hM.symm
      subst this; omega
    · rw [live_of i e] at hi
      exact ⟨i, M, by rw [← hfs]; exact hif, hi, old i M e hM, rfl⟩

/-- a row of cells laid into new memory -/
noncomputable def newCells (wd : Nat) (l : List AV) (n : Nat) (esz : Esz) (h : Heap) (nxt : Nat) (k : Heap → Nat → Bool) : Bool :=
  wrC l ⟨wd, bigR⟩ 0 fun c => T.setK (.cells n esz c) h nxt fun h' => forceN (Nat.succ nxt) fun m => k h' m

theorem wrLs_new (l : List AV) (vs : List Value) (hl : RvL E l vs) (j : Nat) (hj : j < l.length) : Rv E (T.get .no (wrLs l big 0) j) (vs.getD j undef) := by
  have hv := hl.length
  have := wrLs_ok (base := 0) (n := l.length) l vs big (Array.replicate l.length undef) 0 hl (by simp) (fun i _ => by rw [big, T.get_full]; simp [Rv]) j hj
  rw [Nat.zero_add, Nat.zero_add, putL_get _ _ _ _ (by omega) (by omega) (by simpa using hj)] at this
  simpa using this

/-- the row has the cells of the list, and perhaps more -/
theorem wrCs_new (wd : Nat) (l : List AV) (vs : List Value) (hl : RvL E l vs) (j : Nat) (hj : j < l.length) : Rv E ((wrCs l ⟨wd, bigR⟩ 0).get j) (vs.getD j undef) := by
  rcases wrCs_in (l := l) (c := ⟨wd, bigR⟩) (off := 0) (i := j) hj with e | e <;> rw [Nat.zero_add] at e <;> rw [e]
  · exact hl.nth j
  · simp [Rv]

theorem newCells_ok {wd : Nat} {l : List AV} {n room : Nat} {esz : Esz} {k : Heap → Nat → Bool} (hk : newCells wd l n esz h nxt k = true) (hr : HR E h nxt w) {cells : Array Value} {el : TypeId}
    (hn : n ≤ l.length) (hl : ∃ vs, RvL E l vs ∧ (∀ j, j < n → vs.getD j undef = cells.getD j undef)) (hsz : n ≤ cells.size) (hz : esz.ok ⟨w.heap.size, 0, room⟩ el cells.size n) :
    ∃ h' E', E' nxt = some ⟨w.heap.size, 0, room⟩ ∧ HR E' h' (nxt + 1) { w with heap := w.heap.push (.cells cells el (0, 0)) } ∧
      Goes E h w E' h' { w with heap := w.heap.push (.cells cells el (0, 0)) } ∧ k h' (nxt + 1) = true := by
  unfold newCells at hk
  rw [wrC_eq, T.setK_eq, forceN_eq] at hk
  obtain ⟨vs, hl, hvs⟩ := hl
  have hle := Env.le_set (hr.fresh nxt (Nat.le_refl _)) ⟨w.heap.size, 0, room⟩
  obtain ⟨g1, g2⟩ := hr.alloc (.cells cells el (0, 0)) (cold_cells _ _) ⟨w.heap.size, 0, room⟩ rfl (.cells n esz (wrCs l ⟨wd, bigR⟩ 0))
    ⟨⟨w.heap.size, 0, room⟩, cells, el, by simp, by simp, by simpa using hsz, hz, fun j hj => by
      have := (wrCs_new wd l vs hl j (by omega)).mono hle
      rw [hvs j hj] at this
      simpa using this⟩
  exact ⟨_, _, by simp, g1, g2, hk⟩

end
end Go.Proofs.YtbmekbpgoakkbaaGreatDoor.Vx
