/- Runs over what a law is given: symbols at their places, and what is known of them. No condition. -/
import Derived.Test.YtnkmiphcgjpgkaaGreatDoorVxZa
set_option linter.unusedVariables false
set_option linter.unusedSimpArgs false
set_option linter.constructorNameAsVariable false
namespace Go.Proofs.YtnkmiphcgjpgkaaGreatDoor.Vx
open Go

/-- symbols: numbered from n0 on -/
noncomputable def symE0 (gl : List (Nat × List AV)) (n0 : Nat) (Ls : List Spot) : Env := fun i => if n0 ≤ i then Ls[i - n0]? else startE gl i

theorem symE0_ok {gl : List (Nat × List AV)} {n0 m : Nat} {Ls : List Spot} {w : World} (hn : gl.all (fun p => Nat.ble (p.1 + 2) n0) = true) (h1 : Nat.ble 1 n0 = true) (hw : HoldsG w gl) (hm : Ls.length = m) (hL : ∀ L ∈ Ls, L.blk = 0) (hs : 0 < w.heap.size) :
    HR (symE0 gl n0 Ls) (startH gl n0) (n0 + m) w := by
  have hr := startH_ok hn h1 hw
  have z := startH_zero gl n0
  have fl : flr (startH gl n0) = n0 := by unfold flr; rw [z]
  have hlt : ∀ i, (T.get .gone (startH gl n0) i).live = true → i < n0 := fun i hi => by
    rcases Nat.lt_or_ge i n0 with h | h
    · exact h
    · rw [hr.lt i h] at hi; cases hi
  have old : ∀ i, i < n0 → symE0 gl n0 Ls i = startE gl i := fun i hi => by unfold symE0; rw [if_neg (by omega)]
  have hle : (startE gl).le (symE0 gl n0 Ls) := fun i L hi => by
    rcases Nat.lt_or_ge i n0 with h | h
    · rw [old i h]; exact hi
    · rw [hr.fresh i h] at hi; cases hi
  refine ⟨fun i => (hr.obj i).wide hle, fun i j L M hi hj hLi hMj e => ?_, fun i hi => hr.lt i (by omega), fun i hi => ?_, fun i L hi => ?_, by have := hr.pos; omega, by rw [fl]; omega, hr.zero⟩
  · rw [old i (hlt i hi)] at hLi
    rw [old j (hlt j hj)] at hMj
    exact hr.inj i j L M hi hj hLi hMj e
  · unfold symE0
    rw [if_pos (by omega)]
    exact List.getElem?_eq_none (by omega)
  · rcases Nat.lt_or_ge i n0 with h | h
    · rw [old i h] at hi; exact hr.inw i L hi
    · unfold symE0 at hi
      rw [if_pos h] at hi
      rw [hL L (List.mem_of_getElem? hi)]; exact hs

/-- a run of what is given: what the evaluator sees at the end -/
theorem closedX {P : Program} {call : CallF} (hc : CallOK P call) {gl : List (Nat × List AV)} {n0 m nn : Nat} {Ls : List Spot} {fs : Facts} {g : FuncId} {args : List AV} {ARGS : Array Value} {fin : AV → Heap → Bool}
    (hn : gl.all (fun p => Nat.ble (p.1 + 2) n0) = true) (h1 : Nat.ble 1 n0 = true) (hm : Ls.length = m) (hnn : n0 + m = nn) (hL : ∀ L ∈ Ls, L.blk = 0) (hf : Holds (symE0 gl n0 Ls) fs) (ra : RvL (symE0 gl n0 Ls) args ARGS.toList)
    (hp : ∀ v h, fin (.pk v) h = false)
    (he : setF fs (startH gl n0) (fun h => call g args h nn (fun v h _ => fin v h)) = true) (w : World) (hs : 0 < w.heap.size) (hw : HoldsG w gl) :
    Calls P g ARGS w fun e w' => ∃ V v h' E' n', e = .returned V ∧ Rv E' v V ∧ HR E' h' n' w' ∧ (symE0 gl n0 Ls).le E' ∧ fin v h' = true ∧ RowKit.Below w.heap.size w w' := by
  subst hnn
  have hr0 := startH_ok hn h1 hw
  have hr := symE0_ok hn h1 hw hm hL hs
  obtain ⟨h1', he, hr1, fk⟩ := setF_ok he hr hf
  have z := startH_zero gl n0
  have fl : flr (startH gl n0) = n0 := by unfold flr; rw [z]
  have nofp : ∀ k, ¬ fp (symE0 gl n0 Ls) h1' k := by
    rintro k ⟨i, L, a1, a2, _, _⟩
    rw [fk.flr, fl] at a1
    rw [fk.live, hr0.lt i a1] at a2
    cases a2
  refine (hc g args ARGS _ _ _ w _ he ra hr1).mono ?_
  rintro e w' (⟨V, rfl, v, h', nxt', E', rv, hr', gs, hk⟩ | ⟨V, rfl, v, h', nxt', E', rv, _, gs, hk⟩)
  · exact ⟨V, v, h', E', nxt', rfl, rv, hr', gs.ext, hk, below_of gs nofp⟩
  · have hk : fin (.pk v) h' = true := hk
    rw [hp] at hk; cases hk

/-- the end of a law: true, on every way -/
noncomputable def finT (v : AV) (h : Heap) : Bool := condK v h (fun _ => true) (fun _ => false)
theorem closedXT {P : Program} {call : CallF} (hc : CallOK P call) {gl : List (Nat × List AV)} {n0 m nn : Nat} {Ls : List Spot} {fs : Facts} {g : FuncId} {args : List AV} {ARGS : Array Value}
    (hn : gl.all (fun p => Nat.ble (p.1 + 2) n0) = true) (h1 : Nat.ble 1 n0 = true) (hm : Ls.length = m) (hnn : n0 + m = nn) (hL : ∀ L ∈ Ls, L.blk = 0) (hf : Holds (symE0 gl n0 Ls) fs) (ra : RvL (symE0 gl n0 Ls) args ARGS.toList)
    (he : setF fs (startH gl n0) (fun h => call g args h nn (fun v h _ => finT v h)) = true) (w : World) (hs : 0 < w.heap.size) (hw : HoldsG w gl) :
    Calls P g ARGS w fun e w' => e = .returned (.bool true) ∧ RowKit.Below w.heap.size w w' := by
  refine (closedX hc hn h1 hm hnn hL hf ra (fun v h => rfl) he w hs hw).mono ?_
  rintro e w' ⟨V, v, h', E', n', rfl, rv, hr', hle, hk, hb⟩
  obtain ⟨x, _, rfl, _, _, hx⟩ := condK_ok hk rv hr'
  rcases hx with ⟨rfl, _⟩ | ⟨_, hx⟩
  · exact ⟨rfl, hb⟩
  · cases hx

/-! ### Symbols for values -/
theorem sym_float (x : Nat) : symV ⟨0, 0, x⟩ = .float .f64 x := rfl
theorem sym_str (s : ByteArray) : symV ⟨0, 3 * s.size + 2, pack s.data.toList⟩ = .string s := by
  have e1 : (3 * s.size + 2) % 3 = 2 := by omega
  have e2 : (3 * s.size + 2) / 3 = s.size := by omega
  unfold symV
  simp only [e1, e2]
  congr 1
  have : s.size = s.data.toList.length := Array.length_toList.symm
  rw [this]
  unfold str
  rw [unpack_pack]
theorem sym_int (k : IntKind) (n : Int) : symV ⟨0, 3 * kc k + 1, if 0 ≤ n then 2 * n.toNat else 2 * (-n - 1).toNat + 1⟩ = .int k n := by
  have e1 : (3 * kc k + 1) % 3 = 1 := by omega
  have e2 : (3 * kc k + 1) / 3 = kc k := by omega
  unfold symV
  simp only [e1, e2]
  have e3 : symK (kc k) = k := by cases k <;> rfl
  rw [e3]
  congr 1
  by_cases h : 0 ≤ n
  · simp only [h, if_true]
    have a1 : 2 * n.toNat % 2 = 0 := by omega
    have a2 : 2 * n.toNat / 2 = n.toNat := by omega
    rw [if_pos a1, a2]; omega
  · simp only [h, if_false]
    have a1 : ¬ (2 * (-n - 1).toNat + 1) % 2 = 0 := by omega
    have a2 : (2 * (-n - 1).toNat + 1) / 2 = (-n - 1).toNat := by omega
    rw [if_neg a1, a2]; omega
/-! ### Values that are given -/
noncomputable def spotOf (V : Value) : Spot := match V with
  | .float _ x => ⟨0, 0, x⟩
  | .string s => ⟨0, 3 * s.size + 2, pack s.data.toList⟩
  | .int k n => ⟨0, 3 * kc k + 1, if 0 ≤ n then 2 * n.toNat else 2 * (-n - 1).toNat + 1⟩
  | _ => ⟨0, 0, 0⟩
def symOK (V : Value) : Prop := (∃ x, V = .float .f64 x) ∨ (∃ s, V = .string s) ∨ ∃ k n, V = .int k n
theorem symV_spot {V : Value} (h : symOK V) : symV (spotOf V) = V := by
  rcases h with ⟨x, rfl⟩ | ⟨s, rfl⟩ | ⟨k, n, rfl⟩
  · exact sym_float x
  · exact sym_str s
  · exact sym_int k n
theorem spot_blk (V : Value) : (spotOf V).blk = 0 := by cases V <;> rfl
/-- the values' places -/
noncomputable abbrev symEV (gl : List (Nat × List AV)) (n0 : Nat) (Vs : List Value) : Env := symE0 gl n0 (Vs.map spotOf)
theorem den_sym {gl : List (Nat × List AV)} {n0 : Nat} {Vs : List Value} (j : Nat) {V : Value} (h : Vs[j]? = some V) (ok : symOK V) : den (symEV gl n0 Vs) (.sy (n0 + j)) = some V := by
  show (symE0 gl n0 (Vs.map spotOf) (n0 + j)).map symV = some V
  unfold symE0
  rw [if_pos (by omega), Nat.add_sub_cancel_left, List.getElem?_map, h]
  show some (symV (spotOf V)) = some V
  rw [symV_spot ok]
theorem rv_sym {gl : List (Nat × List AV)} {n0 : Nat} {Vs : List Value} {s : Srt} (j : Nat) {V : Value} (h : Vs[j]? = some V) (ok : symOK V) (hs : hasS s V) : Rv (symEV gl n0 Vs) (.x s (.sy (n0 + j))) V := by
  rw [Rv]; exact ⟨den_sym j h ok, hs⟩
theorem sok_f (x : Nat) : symOK (.float .f64 x) := .inl ⟨x, rfl⟩
theorem sok_s (s : ByteArray) : symOK (.string s) := .inr (.inl ⟨s, rfl⟩)
theorem sok_i (k : IntKind) (n : Int) : symOK (.int k n) := .inr (.inr ⟨k, n, rfl⟩)

/-- a law of what is given, on one way of it -/
theorem closedVal {P : Program} {call : CallF} (hc : CallOK P call) {Vs : List Value} {fs : Facts} {g : FuncId} {args : List AV} {ARGS : Array Value} {nn : Nat}
    (hnn : 1 + Vs.length = nn) (hf : Holds (symEV [] 1 Vs) fs) (ra : RvL (symEV [] 1 Vs) args ARGS.toList)
    (he : setF fs (startH [] 1) (fun h => call g args h nn (fun v h _ => finT v h)) = true) (w : World) (hs : 0 < w.heap.size) :
    Calls P g ARGS w fun e w' => e = .returned (.bool true) ∧ RowKit.Below w.heap.size w w' :=
  closedXT hc rfl rfl (List.length_map _) hnn (fun L hL => by obtain ⟨V, _, rfl⟩ := List.mem_map.1 hL; exact spot_blk V) hf ra he w hs (fun p hp => by cases hp)

/-- whole numbers in facts -/
theorem fact_eq {E : Env} {e : SE} {k : IntKind} {n c : Int} (h : den E e = some (.int k n)) : den E (.cmp .eql e (.li k c)) = some (.bool (decide (n = c))) := by
  simp only [den, h, cmpV, if_true, Option.map]
  show some (Value.bool (n == c)) = _
  congr 2
theorem fact_le {E : Env} {e : SE} {k : IntKind} {n c : Int} (h : den E e = some (.int k n)) : den E (.cmp .leq e (.li k c)) = some (.bool (decide (n ≤ c))) := by
  simp only [den, h, cmpV, if_true, Option.map]
  rfl
end Go.Proofs.YtnkmiphcgjpgkaaGreatDoor.Vx
