/- A map with string keys whose entries the evaluator knows, in the words of the kit's laws on maps; its keys, sorted. No condition. -/
import Derived.Test.YtbmekbpgoakkbaaGreatDoorVxS
import Derived.Sort.KeysCollected
import Derived.Maps.Own
import Derived.StringKeys
set_option linter.unusedVariables false
set_option linter.unusedSimpArgs false
set_option linter.constructorNameAsVariable false
set_option linter.unusedSectionVars false
namespace Go.Proofs.YtbmekbpgoakkbaaGreatDoor.Vx
open Go Go.WideElems

/-- every element reads the same: nothing is asked of it -/
def anyR (_ : Value) : Option (DataW Unit × List MemPlace) := some (.lit (.bool true), [])

/-- the entries have just these keys, and their births rise -/
noncomputable def entsK (es : List Ent) : Nat → List (Nat × Nat) → Nat → Bool :=
  List.rec (motive := fun _ => Nat → List (Nat × Nat) → Nat → Bool)
    (fun lo ks clock => match ks with | [] => Nat.ble lo clock | _ => false)
    (fun e _ ih lo ks clock => match ks with
      | [] => false
      | p :: ks => (match e.key with
        | .s l b => bc (Nat.beq l p.1) (bc (Nat.beq b p.2) (bc (Nat.ble lo e.born) (bc (Nat.ble (l) 4096) (ih (Nat.succ e.born) ks clock) false) false) false) false
        | _ => false)) es

theorem entsK_ok {E : Env} : ∀ {es : List Ent} {ms : List MapEntry} {lo : Nat} {ks : List (Nat × Nat)} {clock : Nat}, entsK es lo ks clock = true → REntL E es ms →
    ms.map (·.key) = ks.map (fun p => Value.string (str p.1 p.2)) ∧ (∀ m ∈ ms, lo ≤ m.born ∧ m.born < clock) ∧ (ms.map (·.born)).Nodup ∧ (∀ p ∈ ks, p.1 ≤ 4096) ∧ lo ≤ clock
  | [], ms, lo, ks, clock, h, r => by
    rw [REntL] at r; subst r
    cases ks with
    | nil => exact ⟨rfl, fun m hm => (by cases hm), List.nodup_nil, fun p hp => (by cases hp), Nat.le_of_ble_eq_true h⟩
    | cons p ks => cases h
  | e :: es, ms, lo, ks, clock, h, r => by
    cases ks with
    | nil => cases h
    | cons p ks =>
      have h : (match e.key with
        | .s l b => bc (Nat.beq l p.1) (bc (Nat.beq b p.2) (bc (Nat.ble lo e.born) (bc (Nat.ble (l) 4096) (entsK es (Nat.succ e.born) ks clock) false) false) false) false
        | _ => false) = true := h
      obtain ⟨m, ms', rfl, ⟨r1, _, r3⟩, r4⟩ := r
      split at h <;> try (cases h; done)
      rename_i l b hk
      obtain ⟨h1, h⟩ := bc_and h
      obtain ⟨h2, h⟩ := bc_and h
      obtain ⟨h3, h⟩ := bc_and h
      obtain ⟨h4, h⟩ := bc_and h
      have h1 := Nat.eq_of_beq_eq_true h1
      have h2 := Nat.eq_of_beq_eq_true h2
      have h3 := Nat.le_of_ble_eq_true h3
      have h4 := Nat.le_of_ble_eq_true h4
      obtain ⟨k1, k2, k3, k4, k5⟩ := entsK_ok h r4
      rw [hk, Rv] at r1
      refine ⟨?_, fun x hx => ?_, ?_, fun q hq => ?_, ?_⟩
      · rw [List.map_cons, List.map_cons, k1, r1, h1, h2]
      · rcases List.mem_cons.1 hx with rfl | hx
        · rw [← r3]; exact ⟨h3, by omega⟩
        · have := k2 x hx; omega
      · rw [List.map_cons, List.nodup_cons]
        refine ⟨fun hm => ?_, k3⟩
        obtain ⟨x, hx, e'⟩ := List.mem_map.1 hm
        have := (k2 x hx).1
        omega
      · rcases List.mem_cons.1 hq with rfl | hq
        · omega
        · exact k4 q hq
      · omega

/-- the datum -/
def mapD (ks : List (Nat × Nat)) : DataW Unit := .map ((ks.map fun p => ((Lit.string (unpack p.1 p.2), .lit (.bool true)) : Lit × DataW Unit)).foldr DataW.insert [])

theorem ownsMap_of {P : Program} {k : TypeId} (hk : P.underlying k = some .string) {E : Env} {w : World} {b : Nat} {ms : Array MapEntry} {clock : Nat} {es : List Ent} {ks : List (Nat × Nat)} (hb : w.heap[b]? = some (.map ms clock))
    (r : REntL E es ms.toList) (he : entsK es 0 ks clock = true) (hlen : ks.length ≤ 4096) (hnd : (ks.map fun p => unpack p.1 p.2).Nodup) : w.ownsMap P k anyR b ks.length (mapD ks) := by
  obtain ⟨k1, k2, k3, k4, _⟩ := entsK_ok he r
  have hsz : ms.size = ks.length := by
    have := congrArg List.length k1
    simpa using this
  have key : ∀ m ∈ ms.toList, ∃ p ∈ ks, m.key = .string (str p.1 p.2) := fun m hm => by
    have : m.key ∈ ms.toList.map (·.key) := List.mem_map.2 ⟨m, hm, rfl⟩
    rw [k1] at this
    obtain ⟨p, hp, e⟩ := List.mem_map.1 this
    exact ⟨p, hp, e.symm⟩
  have rdm : ∀ m : MapEntry, ∀ p : Nat × Nat, p.1 ≤ 4096 → m.key = .string (str p.1 p.2) → rd P k anyR m = some (.string (unpack p.1 p.2), .lit (.bool true)) := fun m p hp hm => by
    have := Go.WideMaps.keyOf_string_mk (P := P) hk (s := str p.1 p.2) (by rw [str_size]; unfold maxLen; omega)
    unfold rd
    rw [hm, this, str_toList]; rfl
  refine ⟨ms, clock, hb, ⟨by rw [hsz]; unfold maxLen; omega, ⟨fun x hx => (k2 x hx).2, k3, ?_⟩, fun x hx => ?_⟩, by omega, ?_⟩
  · rw [k1]
    have hinj : ∀ p q : Nat × Nat, Value.string (str p.1 p.2) = Value.string (str q.1 q.2) → unpack p.1 p.2 = unpack q.1 q.2 := fun p q h => by
      have h := Value.string.inj h
      rw [← str_toList, ← str_toList, h]
    have aux : ∀ l : List (Nat × Nat), (l.map fun p => unpack p.1 p.2).Nodup → (l.map fun p => Value.string (str p.1 p.2)).Nodup := by
      intro l
      induction l with
      | nil => intro _; exact List.nodup_nil
      | cons p l ih =>
        intro h
        rw [List.map_cons, List.nodup_cons] at h ⊢
        refine ⟨fun hm => h.1 ?_, ih h.2⟩
        obtain ⟨q, hq, e⟩ := List.mem_map.1 hm
        exact List.mem_map.2 ⟨q, hq, hinj q p e⟩
    exact aux ks hnd
  · obtain ⟨p, hp, e⟩ := key x hx
    exact ⟨_, rdm x p (k4 p hp) e⟩
  · unfold mapD
    congr 2
    have aux : ∀ (l : List MapEntry) (l' : List (Nat × Nat)), (∀ p ∈ l', p.1 ≤ 4096) → l.map (·.key) = l'.map (fun p => Value.string (str p.1 p.2)) →
        (l'.map fun p => ((Lit.string (unpack p.1 p.2), .lit (.bool true)) : Lit × DataW Unit)) = l.map (rg P k anyR) := by
      intro l
      induction l with
      | nil =>
        intro l' _ h
        cases l' with
        | nil => rfl
        | cons p l' => cases h
      | cons m l ih =>
        intro l' hl h
        cases l' with
        | nil => cases h
        | cons p l' =>
          rw [List.map_cons, List.map_cons, List.cons.injEq] at h
          rw [List.map_cons, List.map_cons, ih l' (fun q hq => hl q (by simp [hq])) h.2, rg_of (rdm m p (hl p (by simp)) h.1)]
    exact aux _ _ k4 k1

/-- the keys that came, in whatever order, sorted: the sorted ones -/
theorem sorted_keys {ss : List (List UInt8)} {D : DataW Unit} (h : ss.Perm (strKeys D)) (hs : (strKeys D).Pairwise (fun x y => x ≤ y)) : ss.mergeSort (fun x y => decide (x ≤ y)) = strKeys D := by
  have h1 := mergeSort_of_perm h
  have h2 : (strKeys D).mergeSort leB = strKeys D := List.mergeSort_of_pairwise (hs.imp fun h => by simpa [leB] using h)
  exact h1.trans h2

/-- a closed run that hands back a map -/
theorem closedMap {P : Program} {call : CallF} (hc : CallOK P call) {k : TypeId} (hk : P.underlying k = some .string) {g : FuncId} {ks : List (Nat × Nat)} (hlen : ks.length ≤ 4096) (hnd : (ks.map fun p => unpack p.1 p.2).Nodup)
    (he : call g [] (T.full .gone 20) 1 (fun v h _ => match v with | .mp id => (match T.get .gone h id with | .map es clock => entsK es 0 ks clock | _ => false) | _ => false) = true) (w : World) :
    Calls P g #[] w fun e w' => ∃ b, e = .returned (.map (some b)) ∧ w.heap.size ≤ b ∧ w'.ownsMap P k anyR b ks.length (mapD ks) ∧ RowKit.Below w.heap.size w w' := by
  have hg : ∀ i, T.get .gone (T.full AO.gone 20) i = .gone := fun i => T.get_full _ _ _
  have hr : HR (fun _ => none) (T.full .gone 20) 1 w := by
    refine ⟨fun i => by rw [hg]; trivial, fun i j L M hi => ?_, fun i _ => by rw [hg]; rfl, fun _ _ => rfl, fun i L h => (by cases h), Nat.le_refl _, ?_, by rw [hg]; rfl⟩
    · rw [hg] at hi; cases hi
    · unfold Vx.flr; rw [hg]; exact Nat.zero_le _
  have nofp : ∀ k, ¬ fp (fun _ => none) (T.full AO.gone 20) k := fun k => by
    rintro ⟨j, L, _, hl, _, _⟩
    rw [hg] at hl; cases hl
  refine (hc g [] #[] (fun _ => none) _ 1 w _ he RvL.nil hr trivial).mono ?_
  rintro e w' (⟨V, rfl, v, h', nxt', E', rv, hr', gs, hk'⟩ | ⟨V, rfl, v, h', nxt', E', rv, hr', gs, hk'⟩)
  case inr => cases hk'
  simp only at hk'
  split at hk' <;> try (cases hk'; done)
  rename_i id
  split at hk' <;> try (cases hk'; done)
  rename_i es clock hes
  rw [Rv] at rv
  obtain ⟨L, hL, rfl⟩ := rv
  have ho := hr'.obj id
  rw [hes] at ho
  obtain ⟨L', ms, hL', hb, hre⟩ := ho
  obtain rfl : L = L' := Option.some.inj (hL.symm.trans hL')
  have fl : flr h' = 0 := by rw [gs.flr]; unfold Vx.flr; rw [hg]
  refine ⟨L.blk, rfl, ?_, ownsMap_of hk hb hre hk' hlen hnd, below_of gs nofp⟩
  rcases Nat.lt_or_ge L.blk w.heap.size with hlt | hge
  · exact absurd (gs.fpm L.blk hlt ⟨id, L, by rw [fl]; exact Nat.zero_le _, by rw [hes]; rfl, hL, rfl⟩) (nofp _)
  · exact hge
end Go.Proofs.YtbmekbpgoakkbaaGreatDoor.Vx
