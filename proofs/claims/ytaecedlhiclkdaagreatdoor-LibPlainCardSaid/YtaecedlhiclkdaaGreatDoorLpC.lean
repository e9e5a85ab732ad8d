/- LibPlain: a coercion led to its end, a value's text: as contracts. No condition. -/
import Derived.Test.YtaecedlhiclkdaaGreatDoorLpB
namespace Go.Proofs.YtaecedlhiclkdaaGreatDoor.Lp
open Go Vx Con RowKit
set_option linter.unusedVariables false
set_option linter.constructorNameAsVariable false
set_option maxRecDepth 100000

theorem sym_ok {i : Nat} {S V : Value} (h : Vx.formOK i S V) : Vx.symOK S := by
  unfold Vx.formOK at h
  split at h
  · rw [h.1]; exact Vx.sok_i _ _
  · rw [h.1]; exact Vx.sok_i _ _
  · rw [h.1]; exact Vx.sok_i _ _
  · rw [h.1]; exact Vx.sok_i _ _
  · obtain ⟨x, rfl, _⟩ := h; exact Vx.sok_f _
  · obtain ⟨s, rfl, _⟩ := h; exact Vx.sok_s _
  · obtain ⟨r, _, rfl, _⟩ := h; exact Vx.sok_i _ _
theorem fs_ok {E : Env} {i n : Nat} {S V : Value} (h : formOK i S V) (hd : den E (.sy n) = some S) (hf : Holds E (formFs i n)) : Holds E (fsO i n) := by
  unfold fsO
  split
  · obtain ⟨s, rfl, _, _⟩ := h
    refine holds_cons (((den_fn (c := 7) (den_fn (c := 5) hd rfl) rfl)).trans ?_) hf
    rw [read_may]
  · exact hf
theorem tab_in {w : World} (ht : TableIn w 2) : ∃ zs : List Int, zs.length = 20 ∧ (∀ z ∈ zs, 0 ≤ z ∧ z ≤ 18446744073709551615) ∧ ∀ Us : List Value, ∀ p ∈ GB, ∃ arr el fr, w.heap[p.1]? = some (.cells arr el fr) ∧ RvL (symEV GB 6 (zs.map (Value.int .u64) ++ Us)) p.2 (arr.toList.take p.2.length) := by
  obtain ⟨arr, el, fr, zs, h1, h2, h3, h4⟩ := ht
  refine ⟨zs, h3, h4, fun Us p hp => ?_⟩
  obtain rfl : p = (2, tabAVs 20 6) := by simpa [GB] using hp
  refine ⟨arr, el, fr, h1, ?_⟩
  have hl : (tabAVs 20 6).length = 20 := rfl
  show RvL _ (tabAVs 20 6) (arr.toList.take (tabAVs 20 6).length)
  rw [hl, h2]
  refine tab_rv (gl := GB) (n0 := 6) 20 0 zs h3 (fun i z hz => ?_) h4
  rw [Nat.zero_add, List.getElem?_append_left (by rw [List.length_map]; exact (List.getElem?_eq_some_iff.1 hz).1), List.getElem?_map, hz]
  rfl
theorem at_us {zs : List Int} (h : zs.length = 20) (Us : List Value) (j : Nat) : (zs.map (Value.int .u64) ++ Us)[20 + j]? = Us[j]? := by
  rw [List.getElem?_append_right (by simp; omega)]
  congr 1
  simp; omega
theorem us_den {zs : List Int} (h : zs.length = 20) {Us : List Value} (j : Nat) {V : Value} (hj : Us[j]? = some V) (ok : symOK V) : den (symEV GB 6 (zs.map (Value.int .u64) ++ Us)) (.sy (26 + j)) = some V := by
  have := den_sym (gl := GB) (n0 := 6) (Vs := zs.map (Value.int .u64) ++ Us) (20 + j) (by rw [at_us h]; exact hj) ok
  rw [show 6 + (20 + j) = 26 + j from by omega] at this
  exact this

/-- a value's four cells -/
noncomputable def val4 (v : AV) (k : SE → SE → SE → SE → Bool) : Bool := match v with
  | .ag [c1, c2, c3, c4] => asI .u8 c1 fun a => asF c2 fun b => asS c3 fun c => asI .i64 c4 fun d => k a b c d
  | _ => false
theorem val4_ok {E : Env} {v : AV} {V : Value} {k : SE → SE → SE → SE → Bool} (he : val4 v k = true) (r : Rv E v V) :
    ∃ (a b c d : SE) (u : V4), u.ok ∧ V = .agg u.cells.toArray ∧ den E a = some (.int .u8 u.k) ∧ den E b = some (.float .f64 u.x) ∧ den E c = some (.string u.s) ∧ den E d = some (.int .i64 u.r) ∧ k a b c d = true := by
  unfold val4 at he
  split at he <;> try (cases he; done)
  rw [Rv] at r
  obtain ⟨vs, rfl, r⟩ := r
  simp only [RvL] at r
  obtain ⟨A, _, rfl, rA, B, _, rfl, rB, C, _, rfl, rC, D, _, rfl, rD, rfl⟩ := r
  obtain ⟨a, m, rfl, m1, m2, da, he⟩ := asI_ok he rA
  obtain ⟨b, x, rfl, hx, db, he⟩ := asF_ok he rB
  obtain ⟨c, s, rfl, hs, dc, he⟩ := asS_ok he rC
  obtain ⟨d, z, rfl, z1, z2, dd, he⟩ := asI_ok he rD
  exact ⟨a, b, c, d, ⟨m, x, s, z⟩, ⟨⟨m1, m2⟩, hx, hs, z1, z2⟩, rfl, da, db, dc, dd, he⟩
theorem forms5 {v : V4} (ok : v.ok) (hm : v.may = true) (h5 : v.k ≤ 5) : ∃ i S, i < 7 ∧ formOK i S (.agg v.cells.toArray) := by
  obtain ⟨i, S, hi, hf⟩ := forms ok.1.1 ok.2.1 ok.2.2.2.2 hm
  refine ⟨i, S, ?_, hf⟩
  rcases Nat.lt_or_ge i 7 with h | h
  · exact h
  · exfalso
    have obj : ∀ k : Int, formKind i = k → 6 ≤ k → False := fun k hk h6 => by
      have e : ∃ r, (Value.agg v.cells.toArray) = .agg #[.int .u8 (formKind i), .float .f64 0, .string (str 0 0), .int .i64 r] := by
        match i, h, hi, hf with
        | 7, _, _, hf => obtain ⟨r, _, _, _, e⟩ := hf; exact ⟨r, e⟩
        | 8, _, _, hf => obtain ⟨r, _, _, _, e⟩ := hf; exact ⟨r, e⟩
        | 9, _, _, hf => obtain ⟨r, _, _, _, e⟩ := hf; exact ⟨r, e⟩
      obtain ⟨r, e⟩ := e
      have e := congrArg (fun V => match V with | Value.agg a => a.toList.head? | _ => none) e
      have e : some (Value.int .u8 v.k) = some (Value.int .u8 (formKind i)) := e
      injection e with e
      injection e with _ e
      omega
    match i, h, hi with
    | 7, _, _ => exact obj 6 rfl (by decide)
    | 8, _, _ => exact obj 7 rfl (by decide)
    | 9, _, _ => exact obj 8 rfl (by decide)
/-- a run by forms, at a world that holds the table -/
theorem runO_ok {C : CallF} (hC : CallOK P C) {fin : AV → Heap → Bool} {g : Nat} {w : World} (ht : TableIn w 2) (hs : 0 < w.heap.size) {v : V4} (ok : v.ok) (hm : v.may = true) (h5 : v.k ≤ 5) (hp : ∀ v h, fin (.pk v) h = false) {pre : List AV} {PRE : List Value} (rp : ∀ E, RvL E pre PRE)
    {q : Nat → Prop} (hq : ∀ i, i < 7 → q i → runO C fin (fsO i 26) g (pre ++ [formAV i 26]) 27 = true) (hqi : ∀ i S, i < 7 → formOK i S (.agg v.cells.toArray) → q i) :
    Calls P g (PRE ++ [Value.agg v.cells.toArray]).toArray w fun e w' => (∃ V v h' E', e = .returned V ∧ Rv E' v V ∧ Holds E' (factsOf h') ∧ fin v h' = true) ∧ Below w.heap.size w w' := by
  obtain ⟨i, S, hi, hf⟩ := forms5 ok hm h5
  obtain ⟨zs, z1, _, z3⟩ := tab_in ht
  have hj : (zs.map (Value.int .u64) ++ [S])[20]? = some S := at_us z1 [S] 0
  obtain ⟨r1, f1⟩ := form_ok' (gl := GB) (n0 := 6) 20 (by omega) hf hj
  have f2 := fs_ok hf (den_sym (gl := GB) (n0 := 6) 20 hj (sym_ok hf)) f1
  exact closedXG hC (gl := GB) (n0 := 6) (Vs := zs.map (Value.int .u64) ++ [S]) rfl rfl rfl (by rw [List.length_append, List.length_map, z1]; rfl) f2 (by rw [List.toList_toArray]; exact rvl_app (rp _) (rvl_cons r1 rvl_nil)) hp (hq i hi (hqi i S hi hf)) w hs (z3 _)
/-! ### led -/
theorem ledA2 : ((List.range 7).all (ledR [1] 2)) = true := by kernel_rfl
theorem ledA3 : ((List.range 7).all (ledR [2] 3)) = true := by kernel_rfl
theorem ledA4 : ((List.range 7).all (ledR [2, 3] 4)) = true := by kernel_rfl
noncomputable def six (l : List AV) : Bool := match l with
  | [a, b, c, d, e, f] => bc (leaf a) (bc (leaf b) (bc (leaf c) (bc (leaf d) (bc (leaf e) (leaf f) false) false) false) false) false
  | _ => false
noncomputable def preLed (kd : Int) (args : List AV) (h : Heap) : Bool := match args with
  | [.ag l, .i .u8 k, v] => bc (bc (sameX (.i .u8 k) (.i .u8 kd)) (bc (six l) (hasTab 2 h) false) false) (val4 v (mVal (factsOf h))) false
  | _ => false
noncomputable def ledC : Ct := fun args h n k => match args with
  | [_, .i .u8 (.ofNat 2), _] => gapC (preLed 2) (altO [1]) args h n k
  | [_, .i .u8 (.ofNat 3), _] => gapC (preLed 3) (altO [2]) args h n k
  | [_, .i .u8 (.ofNat 4), _] => gapC (preLed 4) (altO [2, 3]) args h n k
  | _ => false
theorem any_of {E E' : Env} {a : AV} {V : Value} (h : leaf a = true) (r : Rv E a V) : Rv E' .any V := by rw [Rv]; exact leaf_oneCell h r
theorem six_ok {E E' : Env} {l : List AV} {vs : List Value} (h : six l = true) (r : RvL E l vs) : RvL E' [.any, .any, .any, .any, .any, .any] vs := by
  unfold six at h
  split at h <;> try (cases h; done)
  obtain ⟨h1, h⟩ := bc_and h
  obtain ⟨h2, h⟩ := bc_and h
  obtain ⟨h3, h⟩ := bc_and h
  obtain ⟨h4, h⟩ := bc_and h
  obtain ⟨h5, h6⟩ := bc_and h
  simp only [RvL] at r
  obtain ⟨_, _, rfl, r1, _, _, rfl, r2, _, _, rfl, r3, _, _, rfl, r4, _, _, rfl, r5, _, _, rfl, r6, rfl⟩ := r
  exact rvl_cons (any_of h1 r1) (rvl_cons (any_of h2 r2) (rvl_cons (any_of h3 r3) (rvl_cons (any_of h4 r4) (rvl_cons (any_of h5 r5) (rvl_cons (any_of h6 r6) rvl_nil)))))
theorem finO_pk (cls : List Nat) (v : AV) (h : Heap) : finO cls (.pk v) h = false := rfl
theorem led_one {cls : List Nat} {kd : Int} (hR : ∀ i, i < 7 → ledR cls kd i = true) : CtOK P 97 (gapC (preLed kd) (altO cls)) := by
  refine gapC_ok fun args ARGS E h n w hp ra hr => ?_
  unfold preLed at hp
  split at hp <;> try (cases hp; done)
  rename_i l k v
  obtain ⟨h1, hv⟩ := bc_and hp
  obtain ⟨h1, h2⟩ := bc_and h1
  obtain ⟨h2, h3⟩ := bc_and h2
  obtain ⟨ht, hs⟩ := tableIn_of h3 hr
  obtain rfl : k = kd := by have := sameX_ok h1; injection this
  simp only [RvL] at ra
  obtain ⟨L, _, e1, rl, K, _, rfl, rk, V, _, rfl, rv, rfl⟩ := ra
  obtain ⟨a, b, c, d, u, ok, rfl, da, db, dc, dd, hm⟩ := val4_ok hv rv
  obtain ⟨hm, h5⟩ := mVal_ok (factsOf_ok hr) da db dc dd hm
  rw [Rv] at rl
  obtain ⟨ls, rfl, rl⟩ := rl
  rw [Rv] at rk
  subst rk
  have hA : ARGS = ([Value.agg ls.toArray, Value.int .u8 k] ++ [Value.agg u.cells.toArray]).toArray := by apply Array.ext'; rw [e1]; rfl
  rw [hA]
  refine ⟨hs, (runO_ok c3_ok (fin := finO cls) ht hs ok hm h5 (finO_pk cls) (pre := [anys, .i .u8 k]) (q := fun _ => True) (fun E' => rvl_cons (by unfold anys; rw [Rv]; exact ⟨_, rfl, six_ok h2 rl⟩) (rvl_cons (by rw [Rv]) rvl_nil)) (fun i hi _ => hR i hi) (fun _ _ _ _ => trivial)).mono ?_⟩
  rintro e w' ⟨⟨V, v, h', E', rfl, rv, hf, hk⟩, hb⟩
  exact ⟨⟨V, rfl, out_alt (finO_ok hf hk rv)⟩, hb⟩
theorem ledC_ok : CtOK P 97 ledC := by
  intro args ARGS E h n w k he ra hr
  unfold ledC at he
  split at he <;> try (cases he; done)
  · exact led_one (fun i hi => List.all_eq_true.1 ledA2 i (List.mem_range.2 hi)) _ _ _ _ _ _ _ he ra hr
  · exact led_one (fun i hi => List.all_eq_true.1 ledA3 i (List.mem_range.2 hi)) _ _ _ _ _ _ _ he ra hr
  · exact led_one (fun i hi => List.all_eq_true.1 ledA4 i (List.mem_range.2 hi)) _ _ _ _ _ _ _ he ra hr
/-! ### value.Text -/
noncomputable def finT' (v : AV) (h : Heap) : Bool := match v with
  | .x .s (.fn2 3 (.ls l _) e) => bc (Nat.ble l 2000) (Nat.beq (decX (factsOf h) (.cmp .leq (.len e) (.li .i64 2000))) 1) false
  | v => asS v fun c => short (factsOf h) c
theorem finT_ok {E : Env} {v : AV} {V : Value} {h : Heap} (hf : Holds E (factsOf h)) (he : finT' v h = true) (r : Rv E v V) : ∃ s : ByteArray, V = .string s ∧ (s.size : Int) ≤ 4096 := by
  unfold finT' at he
  split at he
  · rename_i l x e
    obtain ⟨h1, h2⟩ := bc_and he
    have h1 := Nat.le_of_ble_eq_true h1
    simp only [Rv, hasS] at r
    obtain ⟨hd, s, rfl, hs⟩ := r
    simp only [den] at hd
    cases he' : den E e with
    | none => rw [he'] at hd; cases hd
    | some U =>
      rw [he'] at hd
      cases U <;> try (cases hd; done)
      rename_i t
      have h2 := of_decide_eq_true ((decX_ok hf (fact_le (k := .i64) (c := 2000) (den_len he'))).1 (Nat.eq_of_beq_eq_true h2))
      simp only [apf2] at hd
      split at hd
      · cases hd
        refine ⟨_, rfl, ?_⟩
        rw [ByteArray.size_append, str_size]
        omega
      · cases hd
  · obtain ⟨c, s, rfl, _, dc, hk⟩ := asS_ok he r
    exact ⟨s, rfl, short_ok hf dc hk⟩
noncomputable def notS (i : Nat) : Bool := match i with
  | 5 => true
  | i => runO c3 finT' (fsO i 26) 99 [formAV i 26] 27
theorem textA : ((List.range 7).all notS) = true := by kernel_rfl
noncomputable def altT (n : Nat) : List Alt := [(1, [(.cmp .leq (.len (.sy n)) (.li .i64 4096), true)], .x .s (.sy n))]
theorem text_alt {s : ByteArray} (hs : (s.size : Int) ≤ 4096) (n : Nat) : ∃ p ∈ altT n, ∃ Vs, Vs.length = p.1 ∧ Tells n Vs p.2.1 p.2.2 (.string s) := by
  refine ⟨_, List.mem_cons_self, [.string s], rfl, (fun U hU => ?_), fun E' hd => ?_⟩
  · rcases List.mem_singleton.1 hU with rfl
    exact sok_s _
  · have d := hd 0 _ rfl
    have d : den E' (.sy n) = some (.string s) := d
    exact ⟨by rw [Rv]; exact ⟨d, s, rfl, by omega⟩, holds_cons ((fact_le (den_len d)).trans (by rw [decide_eq_true hs])) holds_nil⟩
noncomputable def preT (args : List AV) (h : Heap) : Bool := match args with
  | [v] => bc (hasTab 2 h) (val4 v fun a b c d => bc (mVal (factsOf h) a b c d) (Nat.ble 2 (decX (factsOf h) (.cmp .eql a (.li .u8 4)))) false) false
  | _ => false
noncomputable def textVC : Ct := gapC preT altT
theorem textVC_ok : CtOK P 99 textVC := by
  refine gapC_ok fun args ARGS E h n w hp ra hr => ?_
  unfold preT at hp
  split at hp <;> try (cases hp; done)
  rename_i v
  obtain ⟨h1, hv⟩ := bc_and hp
  obtain ⟨ht, hs⟩ := tableIn_of h1 hr
  obtain ⟨V, hA, rx⟩ := ra.one
  obtain ⟨a, b, c, d, u, ok, rfl, da, db, dc, dd, hm⟩ := val4_ok hv rx
  obtain ⟨hm, h4⟩ := bc_and hm
  obtain ⟨hm, h5⟩ := mVal_ok (factsOf_ok hr) da db dc dd hm
  have h4 := of_decide_eq_false ((decX_ok (factsOf_ok hr) (fact_eq (k := .u8) (c := 4) da)).2 (Nat.le_of_ble_eq_true h4))
  have hA : ARGS = ([] ++ [Value.agg u.cells.toArray]).toArray := by apply Array.ext'; rw [hA]; rfl
  rw [hA]
  refine ⟨hs, (runO_ok c3_ok (fin := finT') ht hs ok hm h5 (fun _ _ => rfl) (pre := []) (q := fun i => i ≠ 5) (fun E' => rvl_nil) (fun i hi hn => ?_) (fun i S _ hf hi => ?_)).mono ?_⟩
  · have := List.all_eq_true.1 textA i (List.mem_range.2 hi)
    unfold notS at this
    split at this
    · exact absurd rfl hn
    · exact this
  · subst hi
    obtain ⟨s, _, _, e⟩ := hf
    have e := congrArg (fun V => match V with | Value.agg a => a.toList.head? | _ => none) e
    have e : some (Value.int .u8 u.k) = some (Value.int .u8 4) := e
    injection e with e
    injection e with _ e
    exact h4 e
  · rintro e w' ⟨⟨V, v, h', E', rfl, rv, hf, hk⟩, hb⟩
    obtain ⟨s, rfl, hs⟩ := finT_ok hf hk rv
    exact ⟨⟨_, rfl, text_alt hs⟩, hb⟩
end Go.Proofs.YtaecedlhiclkdaaGreatDoor.Lp
