/- LibPlain: what is given, opened; the law whatever is given. No condition. -/
import Derived.Test.YtaecedlhiclkdaaGreatDoorLpG
import Derived.Test.YtaecedlhiclkdaaGreatDoorLpR0
import Derived.Test.YtaecedlhiclkdaaGreatDoorLpR1
import Derived.Test.YtaecedlhiclkdaaGreatDoorLpR2
import Derived.Test.YtaecedlhiclkdaaGreatDoorLpR3
import Derived.Test.YtaecedlhiclkdaaGreatDoorLpQ0
import Derived.Test.YtaecedlhiclkdaaGreatDoorLpQ1
import Derived.Test.YtaecedlhiclkdaaGreatDoorLpQ2
import Derived.ProofKit
import Derived.OpenShut
import Derived.HandedShaped
import Derived.Deep.Slices
namespace Go.Proofs.YtaecedlhiclkdaaGreatDoor.Lp
open Go Vx Con RowKit
set_option linter.unusedVariables false
set_option linter.constructorNameAsVariable false
set_option maxRecDepth 100000

theorem does : DoesOK := ⟨fun c i hc hi => by
  rcases Nat.lt_or_ge c 17 with h | h
  · exact doA0 c (by omega) h i hi
  rcases Nat.lt_or_ge c 34 with h' | h'
  · exact doA1 c h h' i hi
  rcases Nat.lt_or_ge c 51 with h'' | h''
  · exact doA2 c h' h'' i hi
  · exact doA3 c h'' hc i hi⟩
theorem SLw_ok : SpecOK P SLw := by
  intro g C hC
  unfold SLw at hC
  split at hC
  · cases hC; exact aliveC_ok
  · cases hC; exact objK_ok
  · cases hC; exact mayK_ok valMay
  · cases hC; exact contK_ok
  · cases hC; exact doC_ok does
  · exact S2_ok _ C hC
theorem cL_ok : CallOK P cL := run_ok SLw_ok 40
end Go.Proofs.YtaecedlhiclkdaaGreatDoor.Lp
namespace Go.Proofs.YtaecedlhiclkdaaGreatDoor.Lp
open Go.ChangeShapes Go.WideShapes Go.ChangeAt Go.RowKit
set_option linter.unusedVariables false
set_option linter.constructorNameAsVariable false
set_option maxRecDepth 100000

def kindsV : List TypeDesc := [.int .u8, .float .f64, .string, .int .i64]
theorem world_pos {W : World} (h : W.ShapedOpen Tryz.prog) : 0 < W.heap.size := by
  have e : ∃ z t, ((begin Tryz.prog (fun _ _ => 0) default).world.heap[0]?).bind Obj.row? = some (z, t) := by
    have e1 : (((begin Tryz.prog (fun _ _ => 0) default).world.heap[0]?).bind Obj.row?).isSome = true := by kernel_rfl
    cases h0 : ((begin Tryz.prog (fun _ _ => 0) default).world.heap[0]?).bind Obj.row? with
    | none => rw [h0] at e1; cases e1
    | some p => exact ⟨p.1, p.2, rfl⟩
  obtain ⟨z, t, e⟩ := e
  exact Vx.heap_pos h (of_decide_eq_true (by kernel_rfl)) e
theorem val_cells {cs : List Value} (h : Vx.All2 Vx.leafOk kindsV cs) : ∃ (c : Int) (x : Nat) (s : ByteArray) (r : Int), cs = [.int .u8 c, .float .f64 x, .string s, .int .i64 r] ∧ (0 ≤ c ∧ c ≤ 255) ∧ x < 18446744073709551616 ∧ (s.size : Int) ≤ 9223372036854775807 ∧ (-9223372036854775808 ≤ r ∧ r ≤ 9223372036854775807) := by
  obtain ⟨v0, cs1, e0, h0, k1⟩ := Vx.all2_cons h
  obtain ⟨v1, cs2, e1, h1, k2⟩ := Vx.all2_cons k1
  obtain ⟨v2, cs3, e2, h2, k3⟩ := Vx.all2_cons k2
  obtain ⟨v3, cs4, e3, h3, k4⟩ := Vx.all2_cons k3
  have e4 : cs4 = [] := by cases cs4 with | nil => rfl | cons => exact k4.elim
  obtain ⟨c, rfl, w0⟩ := h0
  obtain ⟨x, rfl, w1⟩ := h1
  obtain ⟨s, rfl, w2⟩ := h2
  obtain ⟨r, rfl, w3⟩ := h3
  exact ⟨c, x, s, r, by rw [e0, e1, e2, e3, e4], Vx.wf_int w0, Vx.wf_f64 w1, by have : s.size ≤ 9223372036854775807 := w2; omega, Vx.wf_int w3⟩
/-! ### Where a slice may lie -/
theorem rowAt_le {P : Program} {fits : TypeId → Bool} {e : TypeId} {count off n : Nat} : ∀ {d : Nat}, rowAt P fits d e count off n = true → off ≤ count * P.cellsOf e
  | 0, h => by cases h
  | d + 1, h => by
    unfold rowAt at h
    dsimp only at h
    split at h
    · cases h
    · rename_i hs
      have hd := Nat.div_add_mod off (P.cellsOf e)
      have hlt := Nat.mod_lt off (Nat.pos_of_ne_zero hs)
      rw [Bool.or_eq_true] at h
      rcases h with h | h
      · simp only [Bool.and_eq_true, beq_iff_eq, decide_eq_true_eq] at h
        obtain ⟨⟨h1, h2⟩, _⟩ := h
        have := Nat.mul_le_mul_right (P.cellsOf e) (show off / P.cellsOf e ≤ count by omega)
        rw [Nat.mul_comm (P.cellsOf e)] at hd
        omega
      · rw [Bool.and_eq_true, decide_eq_true_eq] at h
        have := Nat.mul_le_mul_right (P.cellsOf e) (Nat.succ_le_of_lt h.1)
        rw [Nat.succ_mul] at this
        rw [Nat.mul_comm (P.cellsOf e)] at hd
        omega
theorem liesAt_le {P : Program} {e : TypeId} {count off : Nat} : ∀ {d : Nat} {u : TypeId} {n : Nat}, liesAt P d e count off u n = true → off ≤ count * P.cellsOf e
  | 0, _, _, h => by cases h
  | d + 1, _, _, h => by
    unfold liesAt at h
    rw [Bool.or_eq_true] at h
    rcases h with h | h
    · exact rowAt_le h
    · split at h
      · exact liesAt_le h
      · cases h
section
variable {P : Program} {W : World} {b0 : Nat} {t : TypeId} {v : Value}
theorem cw_slice {e : TypeId} {a : Addr} {len cap : Nat} (hu : P.underlying t = some (.slice e)) (h : Cell.okWide P W .any b0 t (.slice (some a) len cap)) : len ≤ cap ∧ (cap : Int) ≤ IntKind.i64.max ∧ a.spot = none ∧ ∃ arr el fr, W.heap[a.block]? = some (.cells arr el fr) ∧ a.off ≤ arr.size := by
  unfold Cell.okWide at h
  rw [hu] at h
  dsimp only at h
  unfold Cell.ok at h
  rw [hu] at h
  obtain ⟨h1, h2, _, h3, row, cells, h4, h5⟩ := h
  refine ⟨h1, h2, h3, ?_⟩
  unfold World.shape? at h4
  cases hb : W.heap[a.block]? with
  | none => rw [hb] at h4; cases h4
  | some o =>
    rw [hb] at h4
    cases o <;> try (cases h4; done)
    cases h4
    have h6 := liesAt_le h5
    exact ⟨_, _, _, rfl, Nat.le_trans h6 (Nat.div_mul_le_self _ _)⟩
end
theorem cell_at {W : World} {a : Addr} {V : Value} (h : W.cell? a = some V) : ∃ arr el fr, W.heap[a.block]? = some (.cells arr el fr) ∧ arr[a.off]? = some V := by
  unfold World.cell? at h
  split at h
  · rename_i c el fr hb
    split at h
    · cases h
    · exact ⟨c, el, fr, hb, h⟩
  · cases h
theorem add_off {a : Addr} (n : Nat) : (a.add n).off = a.off + n ∧ (a.add n).block = a.block := by
  unfold Addr.add
  by_cases e : n = 0
  · rw [if_pos e]; exact ⟨by omega, rfl⟩
  · rw [if_neg e]; exact ⟨rfl, rfl⟩
/-- a slice's cells -/
def RowV (W : World) (n : Nat) (kinds : List TypeDesc) (l : Value) : Prop := l = .slice none 0 0 ∨ ∃ (L : Vx.Spot) (len cap : Nat) (arr : Array Value) (el : TypeId) (fr : Nat × Nat), l = .slice (some ⟨L.blk, L.base, none⟩) len cap ∧ len ≤ 9223372036854775807 ∧ cap ≤ 9223372036854775807 ∧
  W.heap[L.blk]? = some (.cells arr el fr) ∧ L.base + n * len ≤ arr.size ∧ ∀ k, k < len → ∃ cs, Vx.All2 Vx.leafOk kinds cs ∧ ∀ (i : Nat) (V : Value), cs[i]? = some V → arr.getD (L.base + (n * k + i)) undef = V
section
variable {H : Type} {enc : TypeId × Value → H}
theorem open_row {W : World} {b0 : Nat} {sp : Nat → Bool} {hd : Bool} {fuel n : Nat} {tS tE : TypeId} {kinds : List TypeDesc} {l : Value} {x : DataW H × List MemPlace} (hu : Tryz.prog.underlying tS = some (.slice tE)) (hn : Tryz.prog.cellsOf tE = n) (hpos : 0 < n) (hkl : kinds.length = n) (hfl : Vx.flatT Tryz.prog 4 tE = some kinds)
    (hs : ∃ a len cap, l = .slice a len cap) (hv : Cell.okWide Tryz.prog W .any b0 tS l) (h : DataW.trod enc Tryz.prog W 0 sp hd fuel tS [l] = some x) : RowV W n kinds l := by
  rcases Deep.open_slice hu h with ⟨h0, _⟩ | ⟨a, len, cap, q, m, D, Pl, h0, _, hlc, _, hq, _, hel⟩
  · injection h0 with h0 _
    exact .inl h0
  injection h0 with h0 _
  subst h0
  obtain ⟨_, hcap, hspot, arr, el, fr, hb, hoff⟩ := cw_slice hu hv
  have hlq : len ≤ q := by rw [hq]; split <;> omega
  have each : ∀ k, k < len → ∃ cs, Vx.All2 Vx.leafOk kinds cs ∧ a.off + n * (k + 1) ≤ arr.size ∧ ∀ (i : Nat) (V : Value), cs[i]? = some V → arr.getD (a.off + (n * k + i)) undef = V := fun k hk => by
    obtain ⟨cs, hc, ht⟩ := hel k (by omega)
    obtain ⟨hcs, _⟩ := Vx.flatT_ok 4 tE kinds _ _ _ hfl ht
    have hlen : cs.length = n := by rw [← hkl]; exact hcs.length.symm
    rw [hn] at hc
    unfold World.cells? at hc
    rw [if_pos (Nat.zero_le _)] at hc
    have cell : ∀ (i : Nat) V, cs[i]? = some V → arr[a.off + (n * k + i)]? = some V := fun i V hi => by
      have hin : i < n := by have := (List.getElem?_eq_some_iff.1 hi).1; omega
      have := mapM_some_get hc i i (by rw [List.getElem?_range hin])
      rw [hi, Deep.add_add] at this
      obtain ⟨arr', el', fr', g1, g2⟩ := cell_at this
      rw [(add_off _).1] at g2
      rw [(add_off _).2, hb] at g1
      cases g1
      rw [Nat.mul_comm k n] at g2
      exact g2
    refine ⟨cs, hcs, ?_, fun i V hi => ?_⟩
    · obtain ⟨V, hV⟩ : ∃ V, cs[n - 1]? = some V := ⟨cs[n - 1]'(by omega), List.getElem?_eq_getElem (by omega)⟩
      have := (Array.getElem?_eq_some_iff.1 (cell _ V hV)).1
      rw [Nat.mul_succ]
      omega
    · rw [Array.getD_eq_getD_getElem?, cell i V hi]; rfl
  have hc : cap ≤ 9223372036854775807 := by
    have e : IntKind.i64.max = 9223372036854775807 := rfl
    omega
  obtain ⟨ab, ao, asp⟩ := a
  have : asp = none := hspot
  subst this
  refine .inr ⟨⟨ab, ao, 0⟩, len, cap, arr, el, fr, rfl, by omega, hc, hb, ?_, fun k hk => ?_⟩
  · cases len with
    | zero => exact hoff
    | succ m => exact (each m (Nat.lt_succ_self _)).choose_spec.2.1
  · obtain ⟨cs, h1, _, h3⟩ := each k hk
    exact ⟨cs, h1, h3⟩
theorem open_args {W : World} {b0 : Nat} {sp : Nat → Bool} {hd : Bool} {l : Value} {d : DataW H} {p : List MemPlace} (hv : Value.okWide Tryz.prog W .any b0 25 l) (h : DataW.Trod enc Tryz.prog W 0 sp hd 25 l d p) : RowV W 4 kindsV l := by
  have hs := okWide_slice Tryz.underlying25 hv
  obtain ⟨fuel, hf⟩ := h
  obtain ⟨a0, len0, cap0, rfl⟩ := hs
  unfold Value.okWide at hv
  rw [Tryz.underlying25] at hv
  exact open_row Tryz.underlying25 (by kernel_rfl) (by decide) rfl (by kernel_rfl) ⟨_, _, _, rfl⟩ hv hf
end
/-- the table's cells, whatever they are -/
theorem table {W : World} (h : W.ShapedOpen Tryz.prog) : ∃ (arr : Array Value) (fr : Nat × Nat) (zs : List Int), W.heap[2]? = some (.cells arr 197 fr) ∧ arr.toList.take 20 = zs.map (Value.int .u64) ∧ zs.length = 20 ∧ (∀ z ∈ zs, 0 ≤ z ∧ z ≤ 18446744073709551615) ∧ arr.size = 20 := by
  have e : ∃ z, ((begin Tryz.prog (fun _ _ => 0) default).world.heap[2]?).bind Obj.row? = some (z, 197) ∧ z.size = 20 := by
    have e1 : (match ((begin Tryz.prog (fun _ _ => 0) default).world.heap[2]?).bind Obj.row? with | some (z, t) => Nat.beq z.size 20 && Nat.beq t 197 | none => false) = true := by kernel_rfl
    cases h0 : ((begin Tryz.prog (fun _ _ => 0) default).world.heap[2]?).bind Obj.row? with
    | none => rw [h0] at e1; cases e1
    | some p =>
      rw [h0] at e1
      obtain ⟨z, t⟩ := p
      have e1 : (Nat.beq z.size 20 && Nat.beq t 197) = true := e1
      rw [Bool.and_eq_true] at e1
      exact ⟨z, by rw [Nat.eq_of_beq_eq_true e1.2], Nat.eq_of_beq_eq_true e1.1⟩
  obtain ⟨z, e, hz⟩ := e
  obtain ⟨cs, hh, hs, hr⟩ := h.1 2 z 197 (of_decide_eq_true (by kernel_rfl)) e
  obtain ⟨ts, hts, _, hall⟩ := hr (by kernel_rfl)
  have ec : Tryz.prog.cellTypes Tryz.prog.depth 197 = some (List.replicate 20 130) := by kernel_rfl
  rw [ec] at hts
  cases hts
  have hsz : cs.size = 20 := by rw [hs, hz]
  have hc : ∀ i (hi : i < cs.size), ∃ n : Int, cs[i] = .int .u64 n ∧ 0 ≤ n ∧ n ≤ 18446744073709551615 := fun i hi => by
    obtain ⟨u, hu, hok⟩ := hall i cs[i] (by simp [hi])
    have : u = 130 := by
      have h1 := List.mem_of_getElem? hu
      exact (List.mem_replicate.1 h1).2
    subst this
    unfold Cell.ok at hok
    rw [Tryz.underlying130] at hok
    cases hv : cs[i] <;> rw [hv] at hok <;> simp at hok
    case int k' n =>
      obtain ⟨rfl, hn⟩ := hok
      exact ⟨n, rfl, hn⟩
  have hl : ∀ (l : List Value), (∀ v ∈ l, ∃ n : Int, v = .int .u64 n ∧ 0 ≤ n ∧ n ≤ 18446744073709551615) → ∃ zs : List Int, l = zs.map (Value.int .u64) ∧ ∀ z ∈ zs, 0 ≤ z ∧ z ≤ 18446744073709551615 := by
    intro l
    induction l with
    | nil => exact fun _ => ⟨[], rfl, fun z hz => by cases hz⟩
    | cons v l ih =>
      intro hv
      obtain ⟨n, rfl, hn⟩ := hv v (by simp)
      obtain ⟨zs, rfl, hzs⟩ := ih fun v hv' => hv v (by simp [hv'])
      refine ⟨n :: zs, rfl, fun z hz => ?_⟩
      rcases List.mem_cons.1 hz with rfl | hz
      · exact hn
      · exact hzs z hz
  obtain ⟨zs, hzs, hb⟩ := hl cs.toList fun v hv => by
    obtain ⟨i, hi, rfl⟩ := List.getElem_of_mem hv
    exact hc i (by simpa using hi)
  refine ⟨cs, _, zs, hh, ?_, ?_, hb, hsz⟩
  · rw [← hzs, List.take_of_length_le (by simp; omega)]
  · have := congrArg List.length hzs
    simp at this; omega
/-- the greatest length's cell -/
theorem maxLen {W : World} (h : W.ShapedOpen Tryz.prog) : ∃ (arr : Array Value) (fr : Nat × Nat), W.heap[1]? = some (.cells arr 3 fr) ∧ arr.size = 1 := by
  have e : ∃ z, ((begin Tryz.prog (fun _ _ => 0) default).world.heap[1]?).bind Obj.row? = some (z, 3) ∧ z.size = 1 := by
    have e1 : (match ((begin Tryz.prog (fun _ _ => 0) default).world.heap[1]?).bind Obj.row? with | some (z, t) => Nat.beq z.size 1 && Nat.beq t 3 | none => false) = true := by kernel_rfl
    cases h0 : ((begin Tryz.prog (fun _ _ => 0) default).world.heap[1]?).bind Obj.row? with
    | none => rw [h0] at e1; cases e1
    | some p =>
      rw [h0] at e1
      obtain ⟨z, t⟩ := p
      have e1 : (Nat.beq z.size 1 && Nat.beq t 3) = true := e1
      rw [Bool.and_eq_true] at e1
      exact ⟨z, by rw [Nat.eq_of_beq_eq_true e1.2], Nat.eq_of_beq_eq_true e1.1⟩
  obtain ⟨z, e, hz⟩ := e
  obtain ⟨cs, hh, hs, _⟩ := h.1 1 z 3 (of_decide_eq_true (by kernel_rfl)) e
  exact ⟨cs, _, hh, by rw [hs, hz]⟩
/-- values lie in no table -/
noncomputable def lieB (row n C : Nat) : Bool := (List.range (n + 1)).all fun off => !(liesAt Tryz.prog Tryz.prog.depth row 1 off 24 C)
theorem lieT1 : ((List.range 21).all (lieB 197 20)) = true := by kernel_rfl
theorem lieT2 (k : Nat) : lieB 197 20 (k + 21) = true := by kernel_rfl
theorem lieM1 : ((List.range 2).all (lieB 3 1)) = true := by kernel_rfl
theorem lieM2 (k : Nat) : lieB 3 1 (k + 2) = true := by kernel_rfl
theorem lieT (C : Nat) : lieB 197 20 C = true := by
  rcases Nat.lt_or_ge C 21 with h | h
  · exact List.all_eq_true.1 lieT1 C (List.mem_range.2 h)
  · obtain ⟨k, rfl⟩ : ∃ k, C = k + 21 := ⟨C - 21, by omega⟩
    exact lieT2 k
theorem lieM (C : Nat) : lieB 3 1 C = true := by
  rcases Nat.lt_or_ge C 2 with h | h
  · exact List.all_eq_true.1 lieM1 C (List.mem_range.2 h)
  · obtain ⟨k, rfl⟩ : ∃ k, C = k + 2 := ⟨C - 2, by omega⟩
    exact lieM2 k
theorem cellsT : Tryz.prog.cellsOf 197 = 20 := by kernel_rfl
theorem cellsM : Tryz.prog.cellsOf 3 = 1 := by kernel_rfl
theorem not_there {W : World} {b0 : Nat} {a : Addr} {len cap : Nat} (h : Value.okWide Tryz.prog W .any b0 25 (.slice (some a) len cap)) {g row n : Nat} {arr : Array Value} {fr : Nat × Nat} (hb : W.heap[g]? = some (.cells arr row fr)) (hs : arr.size = n) (hc : Tryz.prog.cellsOf row = n) (hn : 0 < n)
    (no : lieB row n cap = true) : a.block ≠ g := by
  rintro rfl
  unfold lieB at no
  unfold Value.okWide at h
  rw [Tryz.underlying25] at h
  dsimp only at h
  unfold Cell.okWide at h
  rw [Tryz.underlying25] at h
  dsimp only at h
  unfold Cell.ok at h
  rw [Tryz.underlying25] at h
  obtain ⟨_, _, _, _, row', cells, h4, h5⟩ := h
  unfold World.shape? at h4
  rw [hb] at h4
  cases h4
  rw [hs, hc, Nat.div_self hn] at h5
  have hle := liesAt_le h5
  rw [hc, Nat.one_mul] at hle
  have := List.all_eq_true.1 no a.off (List.mem_range.2 (by omega))
  rw [h5] at this
  cases this
/-! ### The law -/
theorem answered {W : World} {I : Inp} {L : Vx.Spot} {args : List Vx.AV} {ARGS : Array Value} {h0 : Vx.Heap} (hr : Vx.HR (E0 I L) h0 292 W ∧ (∀ b, ¬ Vx.fp (E0 I L) h0 b)) (ra : Vx.RvL (E0 I L) args ARGS.toList)
    (he : cL 3 args h0 292 (fun v h _ => finB v h) = true) : Calls Tryz.prog 3 ARGS W fun e w' => e = .returned (.bool true) ∧ Below W.heap.size W w' := by
  refine (closedXH cL_ok hr.1 hr.2 ra (fin := fun v h => finB v h) (fun _ _ => rfl) he).mono ?_
  rintro e w' ⟨⟨V, v, h', E', rfl, rv, hf, hk⟩, hb⟩
  exact ⟨by rw [finB_ok hf hk rv], hb⟩
theorem walk {nm : ByteArray} {u : V4} {l : Value} {W : World} (hnm : (nm.size : Int) ≤ 9223372036854775807) (uok : u.ok) (hl : RowV W 4 kindsV l) {b0 : Nat} (hv : Value.okWide Tryz.prog W .any b0 25 l) (hsh : W.ShapedOpen Tryz.prog) :
    Calls Tryz.prog 3 #[.string nm, .agg u.cells.toArray, l] W fun e w' => e = .returned (.bool true) ∧ Below W.heap.size W w' := by
  have hs := world_pos hsh
  obtain ⟨arrT, frT, zs, t1, t2, t3, t4, t5⟩ := table hsh
  obtain ⟨arrM, frM, m1, m2⟩ := maxLen hsh
  obtain ⟨m0, hm0⟩ := Tryz.laysM143.s1_3 W hsh
  have mx := Vx.holds_of_cell hm0
  have T0 : ∀ I : Inp, I.zs = zs → I.Q = ⟨0, 0, 0⟩ → Laid I W := fun I e q => ⟨⟨arrT, 197, frT, t1, by rw [e]; exact t2⟩, mx, by rw [q]; exact hs⟩
  have hi : ∀ (m M C : Nat) (g : Nat → Value), M ≤ 9223372036854775807 → Inp.ok ⟨zs, M, C, u, nm, m, g, ⟨0, 0, 0⟩⟩ := fun m M C g hM => ⟨t3, t4, uok, hnm, hM⟩
  have args : ∀ (m M C : Nat) (g : Nat → Value) (hM : M ≤ 9223372036854775807) (L : Vx.Spot) (a : Vx.AV), Vx.Rv (E0 ⟨zs, M, C, u, nm, m, g, ⟨0, 0, 0⟩⟩ L) a l → Vx.RvL (E0 ⟨zs, M, C, u, nm, m, g, ⟨0, 0, 0⟩⟩ L) [.x .s (.sy 33), .ag (vS 29), a] (#[.string nm, .agg u.cells.toArray, l] : Array Value).toList := fun m M C g hM L a ra =>
    Vx.rvl_cons (by rw [Vx.Rv]; exact ⟨den_nm (hi m M C g hM) L, _, rfl, hnm⟩) (Vx.rvl_cons (by rw [Vx.Rv]; exact ⟨_, rfl, rv_vS uok (dens_v (hi m M C g hM) L)⟩) (Vx.rvl_cons ra Vx.rvl_nil))
  rcases hl with rfl | ⟨L, n, CA, arr, el, fr, rfl, h1, h2, h3, h4, h5⟩
  · have ok := hi 0 0 0 (fun _ => undef) (by decide)
    obtain ⟨q1, q2, _⟩ := baseG ok (T0 _ rfl rfl) (L := ⟨0, 0, 0⟩) hs Vx.holds_nil
    exact answered ⟨q1, q2⟩ (args 0 0 0 _ (by decide) _ .sn (by rw [Vx.Rv])) law_nil
  have hL : L.blk < W.heap.size := (Array.getElem?_eq_some_iff.1 h3).1
  by_cases m64 : n ≤ 64
  case neg =>
    have ok := hi 0 n CA (fun _ => undef) h1
    obtain ⟨q1, q2, _⟩ := baseG ok (T0 _ rfl rfl) (L := L) hL (fs := [lenF 64 false]) (Vx.holds_cons ((Vx.fact_le (c := Int.ofNat 64) (den_M ok L)).trans (by rw [decide_eq_false (show ¬ ((n : Int) ≤ Int.ofNat 64) by show ¬ ((n : Int) ≤ ((64 : Nat) : Int)); omega)]; rfl)) Vx.holds_nil)
    refine answered ⟨q1, q2⟩ (args 0 n CA _ h1 L (LA 0) ?_) law_many
    unfold LA
    rw [Vx.Rv]
    exact ⟨L, n, CA, six_E0, den_M ok L, den_C ok L, Nat.zero_le _, by omega, rfl⟩
  have rsl : ∀ I : Inp, Vx.Rv (E0 I L) (LN n CA) (.slice (some ⟨L.blk, L.base, none⟩) n CA) := fun I => by
    unfold LN
    rw [Vx.Rv]
    exact ⟨_, six_E0, rfl⟩
  have n2 : L.blk ≠ 2 := not_there hv t1 t5 cellsT (by decide) (lieT CA)
  have n1 : L.blk ≠ 1 := not_there hv m1 m2 cellsM (by decide) (lieM CA)
  cases n with
  | zero =>
    have ok := hi 0 0 CA (fun j => arr.getD (L.base + j) undef) (by decide)
    have A' : ArgsW ⟨zs, 0, CA, u, nm, 0, fun j => arr.getD (L.base + j) undef, ⟨0, 0, 0⟩⟩ W L (fun _ => z4) := ⟨hL, n2, n1, fun j hj => absurd hj (Nat.not_lt_zero _), arr, el, fr, h3, h4, fun j _ => rfl, fun j hj => absurd hj (Nat.not_lt_zero _)⟩
    obtain ⟨q1, q2, _⟩ := baseAll ok (T0 _ rfl rfl) A' (n := 0) (Nat.le_refl _) (by decide) Vx.holds_nil
    exact answered ⟨q1, q2⟩ (args 0 0 CA _ (by decide) L (LN 0 CA) (rsl _)) (law_0 CA)
  | succ k =>
    have each : ∀ j, ∃ v : V4, j < k + 1 → v.ok ∧ ∀ (i : Nat) V, v.cells[i]? = some V → arr.getD (L.base + (4 * j + i)) undef = V := fun j => by
      by_cases hj : j < k + 1
      · obtain ⟨cs, hc, hat⟩ := h5 j hj
        obtain ⟨c, x, s, r, rfl, p1, p2, p3, p4⟩ := val_cells hc
        exact ⟨⟨c, x, s, r⟩, fun _ => ⟨⟨p1, p2, p3, p4⟩, hat⟩⟩
      · exact ⟨z4, fun h => absurd h hj⟩
    obtain ⟨a, ha⟩ := Classical.axiomOfChoice each
    have ok := hi (k + 1) (k + 1) CA (fun j => arr.getD (L.base + j) undef) h1
    have A' : ArgsW ⟨zs, k + 1, CA, u, nm, k + 1, fun j => arr.getD (L.base + j) undef, ⟨0, 0, 0⟩⟩ W L a := ⟨hL, n2, n1, fun j hj => (ha j hj).1, arr, el, fr, h3, h4, fun j _ => rfl, fun j hj i V hV => (ha j hj).2 i V hV⟩
    obtain ⟨q1, q2, _⟩ := baseAll ok (T0 _ rfl rfl) A' (n := k + 1) (Nat.le_refl _) m64 Vx.holds_nil
    refine answered ⟨q1, q2⟩ (args (k + 1) (k + 1) CA _ h1 L (LN (k + 1) CA) (rsl _)) ?_
    rcases Nat.lt_or_ge (k + 1) 36 with h | h
    · exact lawQ0 (k + 1) CA (by omega) h
    rcases Nat.lt_or_ge (k + 1) 54 with h' | h'
    · exact lawQ1 (k + 1) CA h h'
    · exact lawQ2 (k + 1) CA h' (by omega)
end Go.Proofs.YtaecedlhiclkdaaGreatDoor.Lp
