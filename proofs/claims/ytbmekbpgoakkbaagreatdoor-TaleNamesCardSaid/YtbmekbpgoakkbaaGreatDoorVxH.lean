/- The built-in append of the evaluator. No condition. -/
import Derived.Test.YtbmekbpgoakkbaaGreatDoorVxG
set_option linter.unusedVariables false
set_option linter.unusedSimpArgs false
set_option linter.constructorNameAsVariable false
set_option linter.unusedSectionVars false
namespace Go.Proofs.YtbmekbpgoakkbaaGreatDoor.Vx
open Go

section
variable {E : Env} {h : Heap} {nxt : Nat} {w : World}

theorem run_append_room {P : Program} {st xt ty el : TypeId} {i : TypeInfo} {d : TypeDesc} {base : Option Addr} {Y : Value} {sLen sCap n : Nat} {vs : Array Value} (hu : P.underlying st = some (.slice el)) (hi : P.info? el = some i)
    (hx : P.underlying xt = some d) (hd : ∀ j, d ≠ .int j) (hy : ∀ w' : World, (Builtin.lenOf Y).run P w' = .ok n w') (hv : (Builtin.firstCells i.size n Y).run P w = .ok vs w) (hn : sLen + n ≤ sCap) :
    (Builtin.append_ #[st, xt] ty #[.slice base sLen sCap, Y]).run P w =
      ((match base with | some a => storeCells (a.add (sLen * i.size)) vs.toList | none => pure () : Sem Unit).run P w).andThen fun _ w' => .ok (.slice base (sLen + n) sCap) w' := by
  have hz : (d matches .int _) = false := by
    cases d <;> first | rfl | exact absurd rfl (hd _)
  simp only [Builtin.append_, List.getElem?_toArray, List.getElem?_cons_zero, List.getElem?_cons_succ, Sem.run_bind, run_underlying' hu, run_underlying' hx, Result.andThen_ok, run_sizeOf' hi, Sem.run_pure, hz,
    Bool.false_eq_true, if_false, hy, hn, if_true, Bool.not_false, hv]
  cases base
  · rfl
  · simp only [Sem.run_bind, Sem.run_pure]

theorem run_append_grow {P : Program} {st xt ty el : TypeId} {i : TypeInfo} {z : Value} {d : TypeDesc} {base : Option Addr} {Y : Value} {sLen sCap n : Nat} {old vs : Array Value} (hu : P.underlying st = some (.slice el)) (hi : P.info? el = some i)
    (hz0 : i.zero = some z) (hx : P.underlying xt = some d) (hd : ∀ j, d ≠ .int j) (ho : ∀ w' : World, w'.heap = w.heap → (Builtin.firstCells i.size sLen (.slice base sLen sCap)).run P w' = .ok old w')
    (hy : ∀ w' : World, (Builtin.lenOf Y).run P w' = .ok n w') (hv : ∀ w' : World, w'.heap = w.heap → (Builtin.firstCells i.size n Y).run P w' = .ok vs w') (hn : ¬ sLen + n ≤ sCap) (hb : sLen + n ≤ 1073741824) (hbb : i.bytes ≤ 65536) :
    ∃ cap, sLen + n ≤ cap ∧ (Builtin.append_ #[st, xt] ty #[.slice base sLen sCap, Y]).run P w =
      .ok (.slice (some ⟨w.heap.size, 0, none⟩) (sLen + n) cap)
        { w with drawn := w.drawn + 1, heap := w.heap.push (.cells (old ++ vs ++ Builtin.zeroCells z.cells (cap - (sLen + n))) el (0, 0)) } := by
  have hz : (d matches .int _) = false := by
    cases d <;> first | rfl | exact absurd rfl (hd _)
  have h1 : ¬ (((sLen + n : Nat) : Int) > IntKind.i64.max) := by
    have : IntKind.i64.max = 9223372036854775807 := rfl
    rw [this]; omega
  have h2 : ¬ (Builtin.nextslicecap (sLen + n) sCap * i.bytes > 2 ^ 48) := by
    have := nextslicecap_le (show sCap < sLen + n by omega)
    have := Nat.mul_le_mul (Nat.le_trans this (show 2 * (sLen + n) ≤ 2147483648 by omega)) hbb
    omega
  refine ⟨(Question.appendCap (sLen + n) sCap el).cut (w.tape w.drawn (.appendCap (sLen + n) sCap el)), ?_, ?_⟩
  · simp only [Question.cut]; omega
  · simp only [Builtin.append_, List.getElem?_toArray, List.getElem?_cons_zero, List.getElem?_cons_succ, Sem.run_bind, run_underlying' hu, run_underlying' hx, Result.andThen_ok, run_sizeOf' hi, Sem.run_pure, hz,
      Bool.false_eq_true, if_false, hy, hn, h1, false_and, run_typeInfo' hi, h2, run_choose, Question.forced, run_askRoom, Bool.not_false, if_true]
    rw [ho { w with drawn := w.drawn + 1 } rfl]
    simp only [Result.andThen_ok]
    rw [hv { w with drawn := w.drawn + 1 } rfl]
    simp only [Result.andThen_ok, run_zeroValue' hi hz0, newRow, Sem.run_bind, run_newObj, Sem.run_pure]

theorem zeroCells_size (z : Array Value) (n : Nat) : (Builtin.zeroCells z n).size = n * z.size := by simp [Builtin.zeroCells]

noncomputable def elK (e : Option TypeId) (el : TypeId) (k : Option TypeId → Bool) : Bool := match e with
  | some t => bc (Nat.beq t el) (k (some el)) (k none)
  | none => k none
theorem elK_ok {e : Option TypeId} {el : TypeId} {k : Option TypeId → Bool} (h : elK e el k = true) : ∃ o, k o = true ∧ ∀ t, o = some t → t = el ∧ e = some el := by
  unfold elK at h
  split at h
  · rename_i t
    rcases bc_or h with ⟨hb, h⟩ | ⟨_, h⟩
    · have := Nat.eq_of_beq_eq_true hb
      subst this
      exact ⟨_, h, fun t' ht => by cases ht; exact ⟨rfl, rfl⟩⟩
    · exact ⟨_, h, fun t' ht => by cases ht⟩
  · exact ⟨_, h, fun t' ht => by cases ht⟩

/-- the cells of a value -/
noncomputable def isTy4 (l : List AV) : Bool := match l with
  | [a, b, c, d] => bc (match a with
    | .x (.i .u8) _ => true
    | .i .u8 n => bc (decide (0 ≤ n)) (decide (n ≤ 255)) false
    | _ => false) (bc (match b with
    | .x .f _ => true
    | .f .f64 x => Nat.ble (Nat.succ x) 18446744073709551616
    | _ => false) (bc (match c with
    | .x .s _ => true
    | .s l _ => Nat.ble l 9223372036854775807
    | _ => false) (match d with
    | .x (.i .i64) _ => true
    | .i .i64 n => bc (decide (-9223372036854775808 ≤ n)) (decide (n ≤ 9223372036854775807)) false
    | _ => false) false) false) false
  | _ => false
theorem isTy4_ok {E : Env} {l : List AV} {vs : List Value} (h : isTy4 l = true) (r : RvL E l vs) : vs.length = 4 ∧ ∀ j, j < 4 → kTy 0 j (vs.getD j undef) := by
  unfold isTy4 at h
  split at h <;> try (cases h; done)
  rename_i a b c d
  obtain ⟨h0, h⟩ := bc_and h
  obtain ⟨h1, h⟩ := bc_and h
  obtain ⟨h2, h3⟩ := bc_and h
  simp only [RvL] at r
  obtain ⟨A, _, rfl, ra, B, _, rfl, rb, C, _, rfl, rc, D, _, rfl, rd, rfl⟩ := r
  refine ⟨rfl, fun j hj => ?_⟩
  match j, hj with
  | 0, _ =>
    show ∃ n, A = .int .u8 n ∧ 0 ≤ n ∧ n ≤ 255
    split at h0 <;> try (cases h0; done)
    · rw [Rv] at ra; obtain ⟨_, n, rfl, k⟩ := ra; exact ⟨n, rfl, k⟩
    · rw [Rv] at ra; obtain ⟨g1, g2⟩ := bc_and h0; exact ⟨_, ra, of_decide_eq_true g1, of_decide_eq_true g2⟩
  | 1, _ =>
    show ∃ x, B = .float .f64 x ∧ x < 18446744073709551616
    split at h1 <;> try (cases h1; done)
    · rw [Rv] at rb; obtain ⟨_, n, rfl, k⟩ := rb; exact ⟨n, rfl, k⟩
    · rw [Rv] at rb; exact ⟨_, rb, Nat.le_of_ble_eq_true h1⟩
  | 2, _ =>
    show ∃ s : ByteArray, C = .string s ∧ (s.size : Int) ≤ 9223372036854775807
    split at h2 <;> try (cases h2; done)
    · rw [Rv] at rc; obtain ⟨_, n, rfl, k⟩ := rc; exact ⟨n, rfl, k⟩
    · rw [Rv] at rc
      refine ⟨_, rc, ?_⟩
      rw [str_size]
      have := Nat.le_of_ble_eq_true h2
      omega
  | 3, _ =>
    show ∃ n, D = .int .i64 n ∧ -9223372036854775808 ≤ n ∧ n ≤ 9223372036854775807
    split at h3 <;> try (cases h3; done)
    · rw [Rv] at rd; obtain ⟨_, n, rfl, k⟩ := rd; exact ⟨n, rfl, k⟩
    · rw [Rv] at rd; obtain ⟨g1, g2⟩ := bc_and h3; exact ⟨_, rd, of_decide_eq_true g1, of_decide_eq_true g2⟩
theorem kTy_mod {p j j' : Nat} {V : Value} (h : j % 4 = j' % 4) (k : kTy 0 j V) : kTy 0 j' V := by
  unfold kTy at *
  rw [if_pos rfl] at *
  rw [← h]; exact k
noncomputable def evAppend (P : Program) (st xt : TypeId) (s y : AV) (h : Heap) (nxt : Nat) (k : K) : Bool := match P.underlying st with
  | some (.slice el) => match P.info? el with
    | some i => match i.zero with
      | some z => bc (Nat.beq z.cells.size i.size) (bc (Nat.ble 1 i.size) (bc (Nat.ble i.bytes 65536) (srcK P xt y i.size h fun n l => match s with
        | .sn => bc (Nat.beq n 0) (k .sn h nxt) (bc (Nat.ble n 1073741824) (forceN (Nat.mul n i.size) fun m => newCells i.size l m ⟨i.size, some el, true⟩ h nxt (k (.so nxt 0 n 0))) false)
        | .sl id off len cap => (match T.get .gone h id with
          | .cells ext esz c => bc (Nat.ble (len + n) cap)
              (bc (Nat.ble (off + (len + n) * i.size) ext) (bc (allLeaf l) (flrOK h id (wrC l c (off + len * i.size) fun c' => T.setK (.cells ext esz c') h id fun h' => forceN (Nat.add len n) fun m => k (.sl id off m cap) h' nxt)) false) false)
              (bc (Nat.ble (len + n) 1073741824) (bc (Nat.ble (off + len * i.size) ext) (rdC c (len * i.size) off fun lo => forceN (Nat.add len n) fun m => forceN (Nat.mul m i.size) fun mm => newCells i.size (lo ++ l) mm ⟨i.size, some el, true⟩ h nxt (k (.so nxt 0 m 0))) false) false)
          | _ => false)
        | .so id off len used => (match T.get .gone h id with
          | .cells ext esz c => bc (Nat.beq n 0) (k (.so id off len used) h nxt) (bc (Nat.beq esz.sz i.size) (bc (Nat.beq off (used * i.size)) (bc (allLeaf l) (flrOK h id (bc (Nat.ble (off + (len + n) * i.size) ext)
              (wrC l c (off + len * i.size) fun c' => T.setK (.cells ext esz c') h id fun h' => forceN (Nat.add len n) fun m => k (.so id off m used) h' nxt)
              (bc (Nat.ble (len + n) 1073741824) (bc (Nat.ble (off + len * i.size) ext) (rdC c (len * i.size) off fun lo => forceN (Nat.add len n) fun m => forceN (Nat.mul m i.size) fun mm =>
                T.setK .gone h id fun h1 => elK esz.el el fun o => newCells i.size (lo ++ l) mm ⟨i.size, o, bc esz.z (Nat.beq used 0) false⟩ h1 nxt (k (.so nxt 0 m 0))) false) false))) false) false) false)
          | _ => false)
        | .sr id len => (match T.get .gone h id with
          | .cells _ esz _ => bc (Nat.beq esz.sz i.size) (bc (belowS len 1000000 (factsOf h)) (bc (Nat.ble n 1000000) (bc (allLeaf l) (flrOK h id (T.setK .gone h id fun h1 => elK esz.el el fun o => newCells i.size [] 0 ⟨i.size, o, esz.z⟩ h1 nxt (k (.sr nxt (.fn2 4 len (.li .i64 (.ofNat n))))))) false) false) false) false
          | .rows el' len' => bc (bc (Nat.beq i.size 4) (bc (seEq len len') (bc (Nat.beq el' el) (Nat.beq n 1) false) false) false) (bc (belowS len 1000000 (factsOf h)) (bc (allLeaf l) (bc (isTy4 l) (flrOK h id (T.setK .gone h id fun h1 => T.setK (.rows el (.fn2 4 len (.li .i64 1))) h1 nxt fun h2 => forceN (Nat.succ nxt) fun m => k (.sr nxt (.fn2 4 len (.li .i64 1))) h2 m)) false) false) false) false
          | .blob el' sz S0 l0 len' => bc (bc (Nat.beq i.size sz) (bc (seEq len len') (bc (Nat.beq el' el) (Nat.beq n 1) false) false) false) (bc (belowS len 1000000 (factsOf h)) (bc (allLeaf l) (flrOK h id (T.setK .gone h id fun h1 => T.setK (.blob el sz S0 (l0 ++ l) (.fn2 4 len (.li .i64 1))) h1 nxt fun h2 => forceN (Nat.succ nxt) fun m => k (.sr nxt (.fn2 4 len (.li .i64 1))) h2 m)) false) false) false
          | _ => false)
        | _ => false) false) false) false
      | none => false
    | none => false
  | _ => false

/-- a block that is spoken of no more -/
theorem HR.forget (hr : HR E h nxt w) (id : Nat) (hz : id = 0 → (T.get .gone h 0).live = true) : HR E (T.set .gone h id) nxt w ∧ (∀ k, fp E (T.set .gone h id) k → fp E h k) ∧ flr (T.set .gone h id) = flr h := by
  have hfs : flr (T.set .gone h id) = flr h := by
    by_cases e : 0 = id
    · subst e
      rw [flr_live (hz rfl)]
      rcases T.get_set_eq AO.gone .gone h 0 with g | g <;> exact flr_gone g
    · unfold flr; rw [T.get_set_ne _ _ _ _ _ e]
  have live_of : ∀ i, (T.get AO.gone (T.set .gone h id) i).live = true → i ≠ id ∧ T.get AO.gone (T.set .gone h id) i = T.get .gone h i := by
    intro i hi
    by_cases e : i = id
    · subst e
      rcases T.get_set_eq AO.gone .gone h i with g | g <;> rw [g] at hi <;> cases hi
    · exact ⟨e, T.get_set_ne _ _ _ _ _ e⟩
  refine ⟨⟨fun i => ?_, fun i j L M hi hj => ?_, fun i hi => ?_, hr.fresh, hr.inw, hr.pos, by rw [hfs]; exact hr.flle, by cases hl : (T.get AO.gone (T.set .gone h id) 0).live with | false => rfl | true => (obtain ⟨_, e1⟩ := live_of 0 hl; rw [e1, hr.zero] at hl; cases hl)⟩, fun k ⟨i, L, hif, hi, hL, hk⟩ => ?_, hfs⟩
  · by_cases e : i = id
    · subst e
      rcases T.get_set_eq AO.gone .gone h i with g | g <;> rw [g] <;> trivial
    · rw [T.get_set_ne _ _ _ _ _ e]; exact hr.obj i
  · obtain ⟨_, e1⟩ := live_of i hi
    obtain ⟨_, e2⟩ := live_of j hj
    rw [e1] at hi; rw [e2] at hj
    exact hr.inj i j L M hi hj
  · cases hl : (T.get AO.gone (T.set .gone h id) i).live with
    | false => rfl
    | true => obtain ⟨_, e1⟩ := live_of i hl; rw [e1, hr.lt i hi] at hl; cases hl
  · obtain ⟨_, e1⟩ := live_of i hi
    rw [e1] at hi
    exact ⟨i, L, by rw [← hfs]; exact hif, hi, hL, hk⟩

/-- a dead block of the abstract memory comes back under a new name, at the place of a part of it -/
theorem HR.rename (hr : HR E h nxt w) {id n : Nat} {esz : Esz} {c : Cs} (hc : T.get .gone h id = .cells n esz c) {L M : Spot} {arr arr' : Array Value} {el : TypeId} (hL : E id = some L) (hM : M.blk = L.blk)
    (hb : w.heap[L.blk]? = some (.cells arr el (0, 0))) (hsz : arr'.size = arr.size) {n' : Nat} {esz' : Esz} {c' : Cs} (hn : M.base + n' ≤ arr.size) (hz : esz'.ok M el arr.size n')
    (hcs : ∀ j, j < n' → Rv E (c'.get j) (arr'.getD (M.base + j) undef)) (hfl : flr h ≤ id) :
    HR (fun i => if i = nxt then some M else E i) (T.set (.cells n' esz' c') (T.set .gone h id) nxt) (nxt + 1) { w with heap := w.heap.setIfInBounds L.blk (.cells arr' el (0, 0)) } ∧
    Goes E h w (fun i => if i = nxt then some M else E i) (T.set (.cells n' esz' c') (T.set .gone h id) nxt) { w with heap := w.heap.setIfInBounds L.blk (.cells arr' el (0, 0)) } := by
  have hle := Env.le_set (hr.fresh nxt (Nat.le_refl _)) M
  have hlt := hr.inw id L hL
  have hlive : (T.get .gone h id).live = true := by rw [hc]; rfl
  have old : ∀ i N, i ≠ nxt → (if i = nxt then some M else E i) = some N → E i = some N := fun i N e hN => by simpa [e] using hN
  have get_of : ∀ i, i ≠ nxt → i ≠ id → (T.get AO.gone (T.set (.cells n' esz' c') (T.set .gone h id) nxt) i) = T.get .gone h i := fun i e e' => by
    rw [T.get_set_ne _ _ _ _ _ e, T.get_set_ne _ _ _ _ _ e']
  have hid : id ≠ nxt := fun e => by have := hr.lt id (by omega); rw [hlive] at this; cases this
  have get_id : T.get AO.gone (T.set (.cells n' esz' c') (T.set .gone h id) nxt) id = .gone := by
    rw [T.get_set_ne _ _ _ _ _ hid]
    rcases T.get_set_eq AO.gone .gone h id with g | g <;> exact g
  have live_of : ∀ i, i ≠ nxt → (T.get AO.gone (T.set (.cells n' esz' c') (T.set .gone h id) nxt) i).live = true → i ≠ id ∧ (T.get .gone h i).live = true := by
    intro i e hi
    have e' : i ≠ id := fun e' => by subst e'; rw [get_id] at hi; cases hi
    rw [get_of i e e'] at hi
    exact ⟨e', hi⟩
  have hne : ∀ i N, i ≠ id → (T.get .gone h i).live = true → E i = some N → L.blk ≠ N.blk := fun i N e hi hN hb' => e (hr.inj i id N L hi hlive hN hL hb'.symm)
  have hp := hr.pos
  have hflle := hr.flle
  have hfs : flr (T.set (.cells n' esz' c') (T.set .gone h id) nxt) = flr h := by
    rw [flr_set fun e => by omega]
    exact (hr.forget id fun e => by rw [e] at hlive; exact hlive).2.2
  refine ⟨⟨fun i => ?_, fun i j A B hi hj hA hB hAB => ?_, fun i hi => ?_, fun i hi => ?_, fun i N hN => ?_, by omega, by rw [hfs]; omega, by cases hl : (T.get AO.gone (T.set (.cells n' esz' c') (T.set .gone h id) nxt) 0).live with | false => rfl | true => (have := (live_of 0 (by omega) hl).2; rw [hr.zero] at this; cases this)⟩, hle, by simp, fun k hk hn' => ?_, fun k hk ⟨i, N, hif, hi, hN, hk'⟩ => ?_, hfs,
    fun i hi => get_of i (by omega) (by omega), rfl, rfl, rfl⟩
  · by_cases e : i = nxt
    · subst e
      rcases T.get_set_eq AO.gone (.cells n' esz' c') (T.set .gone h id) i with g | g <;> rw [g]
      · exact ⟨M, arr', el, by simp, by simp [hM, hlt], by omega, by rw [hsz]; exact hz, fun j hj => (hcs j hj).mono hle⟩
      · trivial
    · by_cases e' : i = id
      · subst e'; rw [get_id]; trivial
      · rw [get_of i e e']
        have hob := hr.obj i
        cases ho : T.get AO.gone h i <;> rw [ho] at hob
        case gone => trivial
        case floor => trivial
        case facts => exact fun p hp => den_mono hle _ _ (hob p hp)
        case ali =>
          obtain ⟨M9, M8, c9, h1, h2, h3, h4⟩ := hob
          exact ⟨M9, M8, c9, hle _ _ h1, hle _ _ h2, den_mono hle _ _ h3, h4⟩
        case cells =>
          obtain ⟨N, ar, e2, h1, h2, h3, h4, h5⟩ := hob
          exact ⟨N, ar, e2, by simp [e, h1], by simp only [Array.getElem?_setIfInBounds_ne (hne i N e' (by rw [ho]; rfl) h1)]; exact h2, h3, h4, fun j hj => (h5 j hj).mono hle⟩
        case map es ck =>
          obtain ⟨N, ms, h1, h2, h3⟩ := hob
          have mono : ∀ (es : List Ent) (ms : List MapEntry), REntL E es ms → REntL (fun i => if i = nxt then some M else E i) es ms := by
            intro es
            induction es with
            | nil => intro ms r; exact r
            | cons x es ih => intro ms ⟨m, ms', e1, ⟨r1, r2, r3⟩, r4⟩; exact ⟨m, ms', e1, ⟨r1.mono hle, r2.mono hle, r3⟩, ih _ r4⟩
          exact ⟨N, ms, by simp [e, h1], by simp only [Array.getElem?_setIfInBounds_ne (hne i N e' (by rw [ho]; rfl) h1)]; exact h2, mono _ _ h3⟩
        case siter =>
          obtain ⟨N, h1, h2, h3⟩ := hob
          exact ⟨N, by simp [e, h1], h2, by simp only [Array.getElem?_setIfInBounds_ne (hne i N e' (by rw [ho]; rfl) h1)]; exact h3⟩
        case glob =>
          obtain ⟨N, ar, e2, fr, h1, h2, h3, h4, h5⟩ := hob
          exact ⟨N, ar, e2, fr, by simp [e, h1], h2, by simp only [Array.getElem?_setIfInBounds_ne (hne i N e' (by rw [ho]; rfl) h1)]; exact h3, h4, (fun j hj => (h5.1 j hj).mono hle), h5.2.wide hle⟩
        case rows =>
          obtain ⟨N, ar, n9, h1, hb0, h2, h3, h4⟩ := hob
          exact ⟨N, ar, n9, by simp [e, h1], hb0, by simp only [Array.getElem?_setIfInBounds_ne (hne i N e' (by rw [ho]; rfl) h1)]; exact h2, den_mono hle _ _ h3, h4⟩
        case blob =>
          obtain ⟨N, ar, n9, h1, hb0, h2, h3, h4, h5, c0, h6, h7, h8, h9⟩ := hob
          exact ⟨N, ar, n9, by simp [e, h1], hb0, by simp only [Array.getElem?_setIfInBounds_ne (hne i N e' (by rw [ho]; rfl) h1)]; exact h2, den_mono hle _ _ h3, h4, h5, c0, den_mono hle _ _ h6, h7, h8, fun j a hj => (h9 j a hj).mono hle⟩
  · by_cases ei : i = nxt
    · by_cases ej : j = nxt
      · rw [ei, ej]
      · subst ei
        have hA' : A = M := by simpa using hA.symm
        obtain ⟨e', hl⟩ := live_of j ej hj
        subst hA'
        exact absurd (hM.symm.trans hAB) (hne j B e' hl (old j B ej hB))
    · by_cases ej : j = nxt
      · subst ej
        have hB' : B = M := by simpa using hB.symm
        obtain ⟨e', hl⟩ := live_of i ei hi
        subst hB'
        exact absurd (hM.symm.trans hAB.symm) (hne i A e' hl (old i A ei hA))
      · exact hr.inj i j A B (live_of i ei hi).2 (live_of j ej hj).2 (old i A ei hA) (old j B ej hB) hAB
  · have e : i ≠ nxt := by omega
    cases hl : (T.get AO.gone (T.set (.cells n' esz' c') (T.set .gone h id) nxt) i).live with
    | false => rfl
    | true => have := (live_of i e hl).2; rw [hr.lt i (by omega)] at this; cases this
  · have e : i ≠ nxt := by omega
    simp only [e, if_false]; exact hr.fresh i (by omega)
  · by_cases e : i = nxt
    · subst e
      have : N = M := by simpa using hN.symm
      subst this; simp; omega
    · have := hr.inw i N (old i N e hN); simpa using this
  · simp only [Array.getElem?_setIfInBounds]
    split
    · rename_i hk'; exact absurd ⟨id, L, hfl, hlive, hL, hk'⟩ hn'
    · rfl
  · by_cases e : i = nxt
    · subst e
      have : N = M := by simpa using hN.symm
      subst this
      exact ⟨id, L, hfl, hlive, hL, by rw [← hM]; exact hk'⟩
    · exact ⟨i, N, by rw [← hfs]; exact hif, (live_of i e hi).2, old i N e hN, hk'⟩

theorem HR.rename2 (hr : HR E h nxt w) {id : Nat} (hlive : (T.get .gone h id).live = true) {L M : Spot} {arr' : Array Value} {el : TypeId} (hL : E id = some L) (hM : M.blk = L.blk) {ao' : AO}
    (hro : RO (fun i => if i = nxt then some M else E i) { w with heap := w.heap.setIfInBounds L.blk (.cells arr' el (0, 0)) } nxt ao') (hfl : flr h ≤ id) :
    HR (fun i => if i = nxt then some M else E i) (T.set ao' (T.set .gone h id) nxt) (nxt + 1) { w with heap := w.heap.setIfInBounds L.blk (.cells arr' el (0, 0)) } ∧
    Goes E h w (fun i => if i = nxt then some M else E i) (T.set ao' (T.set .gone h id) nxt) { w with heap := w.heap.setIfInBounds L.blk (.cells arr' el (0, 0)) } := by
  have hle := Env.le_set (hr.fresh nxt (Nat.le_refl _)) M
  have hlt := hr.inw id L hL
  have old : ∀ i N, i ≠ nxt → (if i = nxt then some M else E i) = some N → E i = some N := fun i N e hN => by simpa [e] using hN
  have get_of : ∀ i, i ≠ nxt → i ≠ id → (T.get AO.gone (T.set ao' (T.set .gone h id) nxt) i) = T.get .gone h i := fun i e e' => by
    rw [T.get_set_ne _ _ _ _ _ e, T.get_set_ne _ _ _ _ _ e']
  have hid : id ≠ nxt := fun e => by have := hr.lt id (by omega); rw [hlive] at this; cases this
  have get_id : T.get AO.gone (T.set ao' (T.set .gone h id) nxt) id = .gone := by
    rw [T.get_set_ne _ _ _ _ _ hid]
    rcases T.get_set_eq AO.gone .gone h id with g | g <;> exact g
  have live_of : ∀ i, i ≠ nxt → (T.get AO.gone (T.set ao' (T.set .gone h id) nxt) i).live = true → i ≠ id ∧ (T.get .gone h i).live = true := by
    intro i e hi
    have e' : i ≠ id := fun e' => by subst e'; rw [get_id] at hi; cases hi
    rw [get_of i e e'] at hi
    exact ⟨e', hi⟩
  have hne : ∀ i N, i ≠ id → (T.get .gone h i).live = true → E i = some N → L.blk ≠ N.blk := fun i N e hi hN hb' => e (hr.inj i id N L hi hlive hN hL hb'.symm)
  have hp := hr.pos
  have hflle := hr.flle
  have hfs : flr (T.set ao' (T.set .gone h id) nxt) = flr h := by
    rw [flr_set fun e => by omega]
    exact (hr.forget id fun e => by rw [e] at hlive; exact hlive).2.2
  refine ⟨⟨fun i => ?_, fun i j A B hi hj hA hB hAB => ?_, fun i hi => ?_, fun i hi => ?_, fun i N hN => ?_, by omega, by rw [hfs]; omega, by cases hl : (T.get AO.gone (T.set ao' (T.set .gone h id) nxt) 0).live with | false => rfl | true => (have := (live_of 0 (by omega) hl).2; rw [hr.zero] at this; cases this)⟩, hle, by simp, fun k hk hn' => ?_, fun k hk ⟨i, N, hif, hi, hN, hk'⟩ => ?_, hfs,
    fun i hi => get_of i (by omega) (by omega), rfl, rfl, rfl⟩
  · by_cases e : i = nxt
    · subst e
      rcases T.get_set_eq AO.gone ao' (T.set .gone h id) i with g | g <;> rw [g]
      · exact hro
      · trivial
    · by_cases e' : i = id
      · subst e'; rw [get_id]; trivial
      · rw [get_of i e e']
        have hob := hr.obj i
        cases ho : T.get AO.gone h i <;> rw [ho] at hob
        case gone => trivial
        case floor => trivial
        case facts => exact fun p hp => den_mono hle _ _ (hob p hp)
        case ali =>
          obtain ⟨M9, M8, c9, h1, h2, h3, h4⟩ := hob
          exact ⟨M9, M8, c9, hle _ _ h1, hle _ _ h2, den_mono hle _ _ h3, h4⟩
        case cells =>
          obtain ⟨N, ar, e2, h1, h2, h3, h4, h5⟩ := hob
          exact ⟨N, ar, e2, by simp [e, h1], by simp only [Array.getElem?_setIfInBounds_ne (hne i N e' (by rw [ho]; rfl) h1)]; exact h2, h3, h4, fun j hj => (h5 j hj).mono hle⟩
        case map es ck =>
          obtain ⟨N, ms, h1, h2, h3⟩ := hob
          have mono : ∀ (es : List Ent) (ms : List MapEntry), REntL E es ms → REntL (fun i => if i = nxt then some M else E i) es ms := by
            intro es
            induction es with
            | nil => intro ms r; exact r
            | cons x es ih => intro ms ⟨m, ms', e1, ⟨r1, r2, r3⟩, r4⟩; exact ⟨m, ms', e1, ⟨r1.mono hle, r2.mono hle, r3⟩, ih _ r4⟩
          exact ⟨N, ms, by simp [e, h1], by simp only [Array.getElem?_setIfInBounds_ne (hne i N e' (by rw [ho]; rfl) h1)]; exact h2, mono _ _ h3⟩
        case siter =>
          obtain ⟨N, h1, h2, h3⟩ := hob
          exact ⟨N, by simp [e, h1], h2, by simp only [Array.getElem?_setIfInBounds_ne (hne i N e' (by rw [ho]; rfl) h1)]; exact h3⟩
        case glob =>
          obtain ⟨N, ar, e2, fr, h1, h2, h3, h4, h5⟩ := hob
          exact ⟨N, ar, e2, fr, by simp [e, h1], h2, by simp only [Array.getElem?_setIfInBounds_ne (hne i N e' (by rw [ho]; rfl) h1)]; exact h3, h4, (fun j hj => (h5.1 j hj).mono hle), h5.2.wide hle⟩
        case rows =>
          obtain ⟨N, ar, n9, h1, hb0, h2, h3, h4⟩ := hob
          exact ⟨N, ar, n9, by simp [e, h1], hb0, by simp only [Array.getElem?_setIfInBounds_ne (hne i N e' (by rw [ho]; rfl) h1)]; exact h2, den_mono hle _ _ h3, h4⟩
        case blob =>
          obtain ⟨N, ar, n9, h1, hb0, h2, h3, h4, h5, c0, h6, h7, h8, h9⟩ := hob
          exact ⟨N, ar, n9, by simp [e, h1], hb0, by simp only [Array.getElem?_setIfInBounds_ne (hne i N e' (by rw [ho]; rfl) h1)]; exact h2, den_mono hle _ _ h3, h4, h5, c0, den_mono hle _ _ h6, h7, h8, fun j a hj => (h9 j a hj).mono hle⟩
  · by_cases ei : i = nxt
    · by_cases ej : j = nxt
      · rw [ei, ej]
      · subst ei
        have hA' : A = M := by simpa using hA.symm
        obtain ⟨e', hl⟩ := live_of j ej hj
        subst hA'
        exact absurd (hM.symm.trans hAB) (hne j B e' hl (old j B ej hB))
    · by_cases ej : j = nxt
      · subst ej
        have hB' : B = M := by simpa using hB.symm
        obtain ⟨e', hl⟩ := live_of i ei hi
        subst hB'
        exact absurd (hM.symm.trans hAB.symm) (hne i A e' hl (old i A ei hA))
      · exact hr.inj i j A B (live_of i ei hi).2 (live_of j ej hj).2 (old i A ei hA) (old j B ej hB) hAB
  · have e : i ≠ nxt := by omega
    cases hl : (T.get AO.gone (T.set ao' (T.set .gone h id) nxt) i).live with
    | false => rfl
    | true => have := (live_of i e hl).2; rw [hr.lt i (by omega)] at this; cases this
  · have e : i ≠ nxt := by omega
    simp only [e, if_false]; exact hr.fresh i (by omega)
  · by_cases e : i = nxt
    · subst e
      have : N = M := by simpa using hN.symm
      subst this; simp; omega
    · have := hr.inw i N (old i N e hN); simpa using this
  · simp only [Array.getElem?_setIfInBounds]
    split
    · rename_i hk'; exact absurd ⟨id, L, hfl, hlive, hL, hk'⟩ hn'
    · rfl
  · by_cases e : i = nxt
    · subst e
      have : N = M := by simpa using hN.symm
      subst this
      exact ⟨id, L, hfl, hlive, hL, by rw [← hM]; exact hk'⟩
    · exact ⟨i, N, by rw [← hfs]; exact hif, (live_of i e hi).2, old i N e hN, hk'⟩

theorem HR.of_heap (hr : HR E h nxt w) {w' : World} (e : w'.heap = w.heap) : HR E h nxt w' := by
  refine ⟨fun i => ?_, hr.inj, hr.lt, hr.fresh, by rw [e]; exact hr.inw, hr.pos, hr.flle, hr.zero⟩
  have := hr.obj i
  cases ho : T.get AO.gone h i <;> rw [ho] at this <;> simp only [RO, e] at * <;> exact this

theorem Goes.of_drew {E' : Env} {h' : Heap} {w' : World} (g : Goes E h { w with drawn := w.drawn + 1 } E' h' w') : Goes E h w E' h' w' := (Goes.drew E h w).trans g

theorem allLeaf_one {l : List AV} {vs : Array Value} (hl : RvL E l vs.toList) (ha : allLeaf l = true) : ∀ v ∈ vs.toList, v.oneCell' = true := hl.leaves ha

theorem Goes.weaken {E' : Env} {h0 h' : Heap} {w' : World} (g : Goes E h0 w E' h' w') (hh : ∀ k, fp E h0 k → fp E h k) (hf : Vx.flr h0 = Vx.flr h) (hk : ∀ i, i < Vx.flr h → T.get .gone h0 i = T.get .gone h i) : Goes E h w E' h' w' :=
  ⟨g.ext, g.size, fun k hk hn => g.fr k hk (fun hf => hn (hh k hf)), fun k hk hf => hh k (g.fpm k hk hf), g.flr.trans hf, fun i hi => (g.keep i (by rw [hf]; exact hi)).trans (hk i hi), g.os, g.output, g.tape⟩

theorem rvl_nilH {E : Env} : RvL E [] ([] : List Value) := by simp [RvL]
set_option maxHeartbeats 2000000 in
theorem evAppend_ok {P : Program} {st xt ty : TypeId} {s y : AV} {S Y : Value} {k : K} (he : evAppend P st xt s y h nxt k = true) (rs : Rv E s S) (ry : Rv E y Y) (hr : HR E h nxt w) :
    Made' P (Builtin.append_ #[st, xt] ty #[S, Y]) E h w k := by
  unfold evAppend at he
  split at he <;> try (cases he; done)
  rename_i el hu
  split at he <;> try (cases he; done)
  rename_i i hi
  split at he <;> try (cases he; done)
  rename_i z hz
  obtain ⟨hzs, he1⟩ := bc_and he
  obtain ⟨h1, he2⟩ := bc_and he1
  obtain ⟨hbb, he3⟩ := bc_and he2
  clear he he1 he2
  have hzs := Nat.eq_of_beq_eq_true hzs
  have h1 := Nat.le_of_ble_eq_true h1
  have hbb := Nat.le_of_ble_eq_true hbb
  obtain ⟨n, l, vs, hy, ⟨d, hx, hd⟩, hv, hl, hvs, he⟩ := srcK_ok he3 ry hr
  clear he3
  have hll := hl.length
  have hll : l.length = n * i.size := by rw [← hll]; simpa using hvs
  split at he
  · rw [Rv] at rs; subst rs
    rcases bc_or he with ⟨hn, he⟩ | ⟨hn, he⟩
    · have hn := Nat.eq_of_beq_eq_true hn
      subst hn
      refine Made'.same hr (V := .slice none 0 0) ?_ (by rw [Rv]) he
      rw [run_append_room hu hi hx hd hy (hv w rfl) (by omega)]; rfl
    · have hn := Nat.ne_of_beq_eq_false hn
      obtain ⟨hle, he⟩ := bc_and he
      have hle := Nat.le_of_ble_eq_true hle
      rw [forceN_eq] at he
      obtain ⟨cap, hc1, hc2⟩ := run_append_grow (w := w) (ty := ty) (base := none) (sLen := 0) (sCap := 0) (n := n) (Y := Y) (old := #[]) (vs := vs) hu hi hz hx hd (fun w' _ => by simp [Builtin.firstCells]) hy hv (by omega) (by omega) hbb
      obtain ⟨h', E', e1, e2, e3, e4⟩ := newCells_ok (w := { w with drawn := w.drawn + 1 }) (room := cap) (cells := #[] ++ vs ++ Builtin.zeroCells z.cells (cap - (0 + n))) (el := el) he hr.drew
        (by show n * i.size ≤ l.length; omega)
        ⟨vs.toList, hl, fun j hj => by
          have hj : j < n * i.size := hj
          have : j < vs.size := by omega
          simp [Array.getElem?_append, this]⟩
        (by show n * i.size ≤ _; simp [zeroCells_size]; omega)
        (Esz.ok_row _ fun _ => ⟨by simp [zeroCells_size, hvs, hzs]; rw [← Nat.add_mul]; exact Nat.mul_le_mul_right _ (by omega), by exact Nat.mul_le_mul_right _ (by omega)⟩)
      refine ⟨_, h', _, E', _, .slice (some ⟨w.heap.size, 0, none⟩) (0 + n) cap, hc2, ?_, e2, Goes.of_drew e3, e4⟩
      rw [Rv]
      exact ⟨_, e1, by simp, by simp; omega⟩
  · rename_i id off len cap
    rw [Rv] at rs
    obtain ⟨L, hL, rfl⟩ := rs
    split at he <;> try (cases he; done)
    rename_i ext esz tr hc
    obtain ⟨L', arr, el', hL', hb, hsz, hro, hcs⟩ := hr.cells hc
    obtain rfl : L = L' := Option.some.inj (hL.symm.trans hL')
    rcases bc_or he with ⟨hn, he⟩ | ⟨hn, he⟩
    · have hn := Nat.le_of_ble_eq_true hn
      obtain ⟨hfit, he⟩ := bc_and he
      have hfit := Nat.le_of_ble_eq_true hfit
      obtain ⟨hlf, he⟩ := bc_and he
      obtain ⟨hflo, he⟩ := flrOK_ok he
      rw [wrC_eq, T.setK_eq, forceN_eq] at he
      rw [Nat.add_mul] at hfit
      obtain ⟨g1, g2⟩ := hr.write hc (c' := wrCs l tr (off + len * i.size)) (arr' := putL arr (L.base + (off + len * i.size)) vs.toList) hL hb (by simp) (wrCs_ok l vs.toList tr arr _ hl hsz hcs) hflo
      refine ⟨_, _, _, E, _, .slice (some ⟨L.blk, L.base + off, none⟩) (len + n) cap, ?_, by rw [Rv]; exact ⟨L, hL, rfl⟩, g1, g2, he⟩
      rw [run_append_room hu hi hx hd hy (hv w rfl) hn]
      simp only [addr_add]
      have := storeCells_run P (L := L) (L.base + off + len * i.size) vs.toList 0 w arr hb (by simp; omega) (allLeaf_one hl hlf)
      rw [this]
      simp [Nat.add_assoc]
    · have hn : ¬ (len + n ≤ cap) := fun hh => by rw [Nat.ble_eq_true_of_le hh] at hn; cases hn
      obtain ⟨hle, he⟩ := bc_and he
      have hle := Nat.le_of_ble_eq_true hle
      obtain ⟨hfit, he⟩ := bc_and he
      have hfit := Nat.le_of_ble_eq_true hfit
      rw [rdC_ok, forceN_eq, forceN_eq] at he
      obtain ⟨cap', hc1, hc2⟩ := run_append_grow (w := w) (ty := ty) (base := some ⟨L.blk, L.base + off, none⟩) (sLen := len) (sCap := cap) (n := n) (Y := Y)
        (old := ((List.range' (L.base + off) (len * i.size)).map fun j => arr.getD j undef).toArray) (vs := vs) hu hi hz hx hd
        (fun w' hw' => loadCells_run P (by rw [hw']; exact hb) (L.base + off) (len * i.size) (by omega)) hy hv hn hle hbb
      have hlo : RvL E ((List.range' off (len * i.size)).map fun j => tr.get j) ((List.range' (L.base + off) (len * i.size)).map fun j => arr.getD j undef) := by
        rw [range_shift]; exact RvL.of_range _ _ fun j j1 j2 => hcs j (by omega)
      obtain ⟨h', E', e1, e2, e3, e4⟩ := newCells_ok (w := { w with drawn := w.drawn + 1 }) (room := cap') (cells := ((List.range' (L.base + off) (len * i.size)).map fun j => arr.getD j undef).toArray ++ vs ++ Builtin.zeroCells z.cells (cap' - (len + n))) (el := el) he hr.drew
        (by show (len + n) * i.size ≤ _; simp [hll, Nat.add_mul])
        ⟨_, hlo.append hl, fun j hj => by
          have hj : j < (len + n) * i.size := hj
          rw [Nat.add_mul] at hj
          have hsz2 : j < (((List.range' (L.base + off) (len * i.size)).map fun j => arr.getD j undef).toArray ++ vs).size := by simp; omega
          rw [Array.getD_eq_getD_getElem?, Array.getElem?_append_left hsz2]
          rw [List.getD_eq_getElem?_getD]
          congr 1
          rw [← Array.getElem?_toList]
          simp⟩
        (by show (len + n) * i.size ≤ _; simp [zeroCells_size, hvs, Nat.add_mul])
        (Esz.ok_row _ fun _ => ⟨by
          simp [zeroCells_size, hvs, hzs]
          rw [← Nat.add_mul, ← Nat.add_mul]
          exact Nat.mul_le_mul_right _ (by omega), by exact Nat.mul_le_mul_right _ (by omega)⟩)
      refine ⟨_, h', _, E', _, .slice (some ⟨w.heap.size, 0, none⟩) (len + n) cap', hc2, ?_, e2, Goes.of_drew e3, e4⟩
      rw [Rv]
      exact ⟨_, e1, by simp, by simp; omega⟩
  · rename_i id off len used
    rw [Rv] at rs
    obtain ⟨L, hL, rfl, hroom⟩ := rs
    split at he <;> try (cases he; done)
    rename_i ext esz tr hc
    obtain ⟨L', arr, el', hL', hb, hsz, hro, hcs⟩ := hr.cells hc
    obtain rfl : L = L' := Option.some.inj (hL.symm.trans hL')
    rcases bc_or he with ⟨hn, he⟩ | ⟨hn0, he⟩
    · have hn := Nat.eq_of_beq_eq_true hn
      subst hn
      have hvs0 : vs = #[] := by
        have : vs.size = 0 := by rw [hvs]; simp
        exact Array.eq_empty_of_size_eq_zero this
      refine Made'.same hr (V := .slice (some ⟨L.blk, L.base + off, none⟩) len (L.room - used)) ?_ (by rw [Rv]; exact ⟨L, hL, rfl, hroom⟩) he
      rw [run_append_room hu hi hx hd hy (hv w rfl) (by omega)]
      simp [hvs0, storeCells]
    · have hn0 := Nat.ne_of_beq_eq_false hn0
      obtain ⟨hesz, he⟩ := bc_and he
      have hesz := Nat.eq_of_beq_eq_true hesz
      obtain ⟨hoff, he⟩ := bc_and he
      have hoff := Nat.eq_of_beq_eq_true hoff
      obtain ⟨hlf, he⟩ := bc_and he
      obtain ⟨hflo, he⟩ := flrOK_ok he
      obtain ⟨hr1, hr2⟩ := hro.1 (by omega)
      rw [hesz] at hr1 hr2
      rcases bc_or he with ⟨hfit, he⟩ | ⟨hfit, he⟩
      · have hfit := Nat.le_of_ble_eq_true hfit
        rw [wrC_eq, T.setK_eq, forceN_eq] at he
        have hcap : used + (len + n) ≤ L.room := by
          have : (used + (len + n)) * i.size ≤ L.room * i.size := by rw [Nat.add_mul]; omega
          exact Nat.le_of_mul_le_mul_right this h1
        rw [Nat.add_mul] at hfit
        obtain ⟨g1, g2⟩ := hr.write hc (c' := wrCs l tr (off + len * i.size)) (arr' := putL arr (L.base + (off + len * i.size)) vs.toList) hL hb (by simp) (wrCs_ok l vs.toList tr arr _ hl hsz hcs) hflo
        refine ⟨_, _, _, E, _, .slice (some ⟨L.blk, L.base + off, none⟩) (len + n) (L.room - used), ?_, by rw [Rv]; exact ⟨L, hL, rfl, hcap⟩, g1, g2, he⟩
        rw [run_append_room hu hi hx hd hy (hv w rfl) (by omega)]
        simp only [addr_add]
        have := storeCells_run P (L := L) (L.base + off + len * i.size) vs.toList 0 w arr hb (by simp; omega) (allLeaf_one hl hlf)
        rw [this]
        simp [Nat.add_assoc]
      · obtain ⟨hle, he⟩ := bc_and he
        have hle := Nat.le_of_ble_eq_true hle
        obtain ⟨hfit2, he⟩ := bc_and he
        have hfit2 := Nat.le_of_ble_eq_true hfit2
        rw [rdC_ok, forceN_eq, forceN_eq, T.setK_eq] at he
        obtain ⟨eo, he, heo⟩ := elK_ok he
        have hzid : id = 0 → (T.get AO.gone h 0).live = true := fun e => by rw [← e, hc]; rfl
        obtain ⟨hf1, hf2, hf3⟩ := hr.forget id hzid
        have hlo : RvL E ((List.range' off (len * i.size)).map fun j => tr.get j) ((List.range' (L.base + off) (len * i.size)).map fun j => arr.getD j undef) := by
          rw [range_shift]; exact RvL.of_range _ _ fun j j1 j2 => hcs j (by omega)
        by_cases hroomy : len + n ≤ L.room - used
        · -- in place, under a new name
          unfold newCells at he
          rw [wrC_eq, T.setK_eq, forceN_eq] at he
          have hrm : (L.room - used) * i.size = L.room * i.size - used * i.size := Nat.sub_mul _ _ _
          have hle2 : (len + n) * i.size ≤ (L.room - used) * i.size := Nat.mul_le_mul_right _ hroomy
          have hur : used * i.size ≤ L.room * i.size := Nat.mul_le_mul_right _ (by omega)
          have hlen2 : (((List.range' off (len * i.size)).map fun j => tr.get j) ++ l).length = (len + n) * i.size := by simp [hll, Nat.add_mul]
          have hnew := wrCs_new (E := E) i.size _ _ (hlo.append hl)
          have hfit3 : L.base + (off + len * i.size) + vs.toList.length ≤ arr.size := by
            simp only [Array.length_toList, hvs]; rw [Nat.add_mul] at hle2; omega
          obtain ⟨g1, g2⟩ := hr.rename (M := ⟨L.blk, L.base + off, L.room - used⟩) (arr' := putL arr (L.base + (off + len * i.size)) vs.toList) (n' := (len + n) * i.size) (esz' := ⟨i.size, eo, bc esz.z (Nat.beq used 0) false⟩)
            (c' := wrCs (((List.range' off (len * i.size)).map fun j => tr.get j) ++ l) ⟨i.size, bigR⟩ 0) hc hL rfl hb (by simp) (by show L.base + off + (len + n) * i.size ≤ arr.size; omega)
            ⟨fun _ => ⟨by show L.base + off + (L.room - used) * i.size ≤ arr.size; omega, hle2⟩, fun t ht => (by rw [(heo t ht).1]; exact hro.2.1 _ (heo t ht).2), fun hh => (by
              obtain ⟨z1, z2⟩ := bc_and hh
              have z2 := Nat.eq_of_beq_eq_true z2
              have z3 := hro.2.2 z1
              show L.base + off = 0
              rw [z3, hoff, z2]; simp)⟩
            (fun j hj => by
              have hj' := hnew j (by rw [hlen2]; exact hj)
              have hgoal : (((List.range' (L.base + off) (len * i.size)).map fun j => arr.getD j undef) ++ vs.toList).getD j undef = (putL arr (L.base + (off + len * i.size)) vs.toList).getD (L.base + off + j) undef := ?_
              · rw [hgoal] at hj'; exact hj'
              rw [Array.getD_eq_getD_getElem?, ← Array.getElem?_toList, putL_toList _ _ _ hfit3, List.getD_eq_getElem?_getD]
              congr 1
              simp only [List.getElem?_append, List.length_map, List.length_range', List.length_take, Array.length_toList]
              have hmin : min (L.base + (off + len * i.size)) arr.size = L.base + (off + len * i.size) := by omega
              rw [hmin]
              by_cases hjl : j < len * i.size
              · rw [if_pos hjl, if_pos (by omega)]
                have h3 : L.base + (off + j) < arr.size := by omega
                simp [hjl, h3, Nat.add_assoc, show off + j < off + len * i.size by omega]
              · rw [Nat.add_mul] at hj
                rw [if_neg hjl, if_neg (by omega), if_pos (by rw [hvs]; omega)]
                congr 1
                omega) hflo
          refine ⟨_, _, _, _, _, .slice (some ⟨L.blk, L.base + off, none⟩) (len + n) (L.room - used), ?_, ?_, g1, g2, he⟩
          · rw [run_append_room hu hi hx hd hy (hv w rfl) hroomy]
            simp only [addr_add]
            have := storeCells_run P (L := L) (L.base + off + len * i.size) vs.toList 0 w arr hb (by simp at hfit3 ⊢; omega) (allLeaf_one hl hlf)
            rw [this]
            simp [Nat.add_assoc]
          · rw [Rv]
            exact ⟨⟨L.blk, L.base + off, L.room - used⟩, by simp, by simp, by show 0 + (len + n) ≤ L.room - used; omega⟩
        · obtain ⟨cap', hc1, hc2⟩ := run_append_grow (w := w) (ty := ty) (base := some ⟨L.blk, L.base + off, none⟩) (sLen := len) (sCap := L.room - used) (n := n) (Y := Y)
            (old := ((List.range' (L.base + off) (len * i.size)).map fun j => arr.getD j undef).toArray) (vs := vs) hu hi hz hx hd
            (fun w' hw' => loadCells_run P (by rw [hw']; exact hb) (L.base + off) (len * i.size) (by omega)) hy hv hroomy hle hbb
          obtain ⟨h', E', e1, e2, e3, e4⟩ := newCells_ok (w := { w with drawn := w.drawn + 1 }) (room := cap') (cells := ((List.range' (L.base + off) (len * i.size)).map fun j => arr.getD j undef).toArray ++ vs ++ Builtin.zeroCells z.cells (cap' - (len + n))) (el := el) he hf1.drew
            (by show (len + n) * i.size ≤ _; simp [hll, Nat.add_mul])
            ⟨_, hlo.append hl, fun j hj => by
              have hj : j < (len + n) * i.size := hj
              rw [Nat.add_mul] at hj
              have hsz2 : j < (((List.range' (L.base + off) (len * i.size)).map fun j => arr.getD j undef).toArray ++ vs).size := by simp; omega
              rw [Array.getD_eq_getD_getElem?, Array.getElem?_append_left hsz2]
              rw [List.getD_eq_getElem?_getD]
              congr 1
              rw [← Array.getElem?_toList]
              simp⟩
            (by show (len + n) * i.size ≤ _; simp [zeroCells_size, hvs, Nat.add_mul])
            ⟨fun _ => ⟨by
              simp [zeroCells_size, hvs, hzs]
              rw [← Nat.add_mul, ← Nat.add_mul]
              exact Nat.mul_le_mul_right _ (by omega), by exact Nat.mul_le_mul_right _ (by omega)⟩, fun t ht => (heo t ht).1.symm, fun hh => rfl⟩
          refine ⟨_, h', _, E', _, .slice (some ⟨w.heap.size, 0, none⟩) (len + n) cap', hc2, ?_, e2, Goes.of_drew (e3.weaken hf2 hf3 (fun i hi => T.get_set_ne _ _ _ _ _ (by omega))), e4⟩
          rw [Rv]
          exact ⟨_, e1, by simp, by simp; omega⟩
  · rename_i id len
    rw [Rv] at rs
    obtain ⟨L, N, hL, hdN, hN0, hNL, rfl⟩ := rs
    split at he <;> try (cases he; done)
    · rename_i ext esz tr hc
      obtain ⟨L', arr, el', hL', hb, hsz, hro, hcs⟩ := hr.cells hc
      obtain rfl : L = L' := Option.some.inj (hL.symm.trans hL')
      obtain ⟨hesz, he⟩ := bc_and he
      have hesz := Nat.eq_of_beq_eq_true hesz
      obtain ⟨hbel, he⟩ := bc_and he
      have hN := belowS_ok (factsOf_ok hr) len hdN hbel
      obtain ⟨hnn, he⟩ := bc_and he
      have hnn := Nat.le_of_ble_eq_true hnn
      obtain ⟨hlf, he⟩ := bc_and he
      obtain ⟨hflo, he⟩ := flrOK_ok he
      rw [T.setK_eq] at he
      obtain ⟨eo, he, heo⟩ := elK_ok he
      obtain ⟨hr1, hr2⟩ := hro.1 (by omega)
      rw [hesz] at hr1 hr2
      have hNr : N * i.size ≤ L.room * i.size := Nat.mul_le_mul_right _ hNL
      have dsum : ∀ E' : Env, E.le E' → den E' (.fn2 4 len (.li .i64 (.ofNat n))) = some (.int .i64 (N + n : Nat)) := fun E' hle => by
        have d1 := den_mono hle _ _ hdN
        simp only [den, d1, apf2]
        rw [if_pos (by constructor <;> (show _ ≤ _) <;> simp only [Int.ofNat_eq_natCast] <;> omega)]
        rfl
      by_cases hroomy : N + n ≤ L.room
      · have hle2 : (N + n) * i.size ≤ L.room * i.size := Nat.mul_le_mul_right _ hroomy
        have hfit3 : L.base + N * i.size + vs.toList.length ≤ arr.size := by
          simp only [Array.length_toList, hvs]; rw [Nat.add_mul] at hle2; omega
        unfold newCells at he
        rw [wrC_eq, T.setK_eq, forceN_eq] at he
        obtain ⟨g1, g2⟩ := hr.rename (M := L) (arr' := putL arr (L.base + N * i.size) vs.toList) (n' := 0) (esz' := ⟨i.size, eo, esz.z⟩) (c' := wrCs [] ⟨i.size, bigR⟩ 0) hc hL rfl hb (by simp) (by omega)
          ⟨fun _ => ⟨by show L.base + L.room * i.size ≤ arr.size; omega, Nat.zero_le _⟩, fun t ht => (by rw [(heo t ht).1]; exact hro.2.1 _ (heo t ht).2), fun hh => hro.2.2 hh⟩ (fun j hj => absurd hj (Nat.not_lt_zero _)) hflo
        refine ⟨_, _, _, _, _, .slice (some ⟨L.blk, L.base, none⟩) (N + n) L.room, ?_, ?_, g1, g2, he⟩
        · rw [run_append_room hu hi hx hd hy (hv w rfl) hroomy]
          simp only [addr_add]
          have := storeCells_run P (L := L) (L.base + N * i.size) vs.toList 0 w arr hb (by simp at hfit3 ⊢; omega) (allLeaf_one hl hlf)
          rw [this]
          simp
        · rw [Rv]
          exact ⟨L, N + n, by simp, dsum _ g2.ext, by omega, hroomy, rfl⟩
      · obtain ⟨cap', hc1, hc2⟩ := run_append_grow (w := w) (ty := ty) (base := some ⟨L.blk, L.base, none⟩) (sLen := N) (sCap := L.room) (n := n) (Y := Y)
          (old := ((List.range' L.base (N * i.size)).map fun j => arr.getD j undef).toArray) (vs := vs) hu hi hz hx hd
          (fun w' hw' => loadCells_run P (by rw [hw']; exact hb) L.base (N * i.size) (by omega)) hy hv hroomy (by omega) hbb
        have hzid : id = 0 → (T.get AO.gone h 0).live = true := fun e => by rw [← e, hc]; rfl
        obtain ⟨hf1, hf2, hf3⟩ := hr.forget id hzid
        obtain ⟨h', E', e1, e2, e3, e4⟩ := newCells_ok (w := { w with drawn := w.drawn + 1 }) (room := cap') (cells := ((List.range' L.base (N * i.size)).map fun j => arr.getD j undef).toArray ++ vs ++ Builtin.zeroCells z.cells (cap' - (N + n))) (el := el) he hf1.drew
          (Nat.zero_le _) ⟨[], rvl_nilH, fun j hj => absurd hj (Nat.not_lt_zero _)⟩ (Nat.zero_le _)
          ⟨fun _ => ⟨by
            simp [zeroCells_size, hvs, hzs]
            rw [← Nat.add_mul, ← Nat.add_mul]
            exact Nat.mul_le_mul_right _ (by omega), Nat.zero_le _⟩, fun t ht => (heo t ht).1.symm, fun hh => rfl⟩
        refine ⟨_, h', _, E', _, .slice (some ⟨w.heap.size, 0, none⟩) (N + n) cap', hc2, ?_, e2, Goes.of_drew (e3.weaken hf2 hf3 (fun i hi => T.get_set_ne _ _ _ _ _ (by omega))), e4⟩
        rw [Rv]
        exact ⟨_, N + n, e1, dsum _ e3.ext, by omega, hc1, rfl⟩
    · skip
      rename_i el' len' hc
      obtain ⟨e1, heR⟩ := bc_and he
      clear he
      obtain ⟨hi4, e1⟩ := bc_and e1
      obtain ⟨hle, e1⟩ := bc_and e1
      obtain ⟨hee, hn1⟩ := bc_and e1
      have hi4 := Nat.eq_of_beq_eq_true hi4
      have hee := Nat.eq_of_beq_eq_true hee
      have hn1 := Nat.eq_of_beq_eq_true hn1
      have hle := seEq_ok hle
      subst hle hee hn1
      obtain ⟨hbel, he⟩ := bc_and heR
      clear heR
      have hN := belowS_ok (factsOf_ok hr) len hdN hbel
      obtain ⟨hlf, he⟩ := bc_and he
      obtain ⟨hty, he⟩ := bc_and he
      obtain ⟨hflo, he⟩ := flrOK_ok he
      rw [T.setK_eq, T.setK_eq, forceN_eq] at he
      obtain ⟨hv4, hvt⟩ := isTy4_ok hty hl
      have hlive : (T.get .gone h id).live = true := by rw [hc]; rfl
      have hob := hr.obj id
      rw [hc] at hob
      obtain ⟨L', arr, N', hL', hb0, hb, hdN', hNr', hsz, hcs⟩ := hob
      obtain rfl : L = L' := Option.some.inj (hL.symm.trans hL')
      obtain rfl : N = N' := by rw [hdN] at hdN'; injection hdN' with q; injection q with _ q; omega
      have dsum : ∀ E' : Env, E.le E' → den E' (.fn2 4 len (.li .i64 1)) = some (.int .i64 (N + 1 : Nat)) := fun E' hle => by
        have d1 := den_mono hle _ _ hdN
        simp only [den, d1, apf2]
        rw [if_pos (by constructor <;> (show _ ≤ _) <;> omega)]
        rfl
      have hleE := fun M => Env.le_set (hr.fresh nxt (Nat.le_refl _)) M
      have hvl : vs.toList.length = 4 := hv4
      have hvz : vs.size = 4 := by simpa using hvl
      by_cases hroomy : N + 1 ≤ L.room
      · obtain ⟨g1, g2⟩ := hr.rename2 hlive (M := L) (arr' := putL arr (L.base + N * i.size) vs.toList) (el := el') (ao' := .rows el' (.fn2 4 len (.li .i64 1))) hL rfl
          ⟨L, putL arr (L.base + N * i.size) vs.toList, N + 1, by simp, hb0, by simp [hr.inw id L hL], dsum _ (hleE L), hroomy, by rw [putL_size]; exact hsz, fun j hj => by
            rw [hb0, hi4]
            rcases Nat.lt_or_ge j (4 * N) with h | h
            · rw [putL_out _ _ _ _ (.inl (by omega))]; exact hcs j h
            · rw [putL_get _ _ _ _ (by omega) (by omega) (by omega)]
              exact kTy_mod (p := 0) (by omega) (hvt (j - (0 + N * 4)) (by omega))⟩ hflo
        refine ⟨_, _, _, _, _, .slice (some ⟨L.blk, L.base, none⟩) (N + 1) L.room, ?_, ?_, g1, g2, he⟩
        · rw [run_append_room hu hi hx hd hy (hv w rfl) hroomy]
          simp only [addr_add]
          have := storeCells_run P (L := L) (L.base + N * i.size) vs.toList 0 w arr hb (by rw [hvl, hi4, hb0]; omega) (allLeaf_one hl hlf)
          rw [this]
          simp
        · rw [Rv]
          exact ⟨L, N + 1, by simp, dsum _ g2.ext, by omega, hroomy, rfl⟩
      · obtain ⟨cap', hc1, hc2⟩ := run_append_grow (w := w) (ty := ty) (base := some ⟨L.blk, L.base, none⟩) (sLen := N) (sCap := L.room) (n := 1) (Y := Y)
          (old := ((List.range' L.base (N * i.size)).map fun j => arr.getD j undef).toArray) (vs := vs) hu hi hz hx hd
          (fun w' hw' => loadCells_run P (by rw [hw']; exact hb) L.base (N * i.size) (by rw [hb0, hi4]; omega)) hy hv hroomy (by omega) hbb
        obtain ⟨hf1, hf2, hf3⟩ := hr.forget id fun e => by rw [e] at hlive; exact hlive
        obtain ⟨g1, g2⟩ := hf1.drew.alloc (.cells (((List.range' L.base (N * i.size)).map fun j => arr.getD j undef).toArray ++ vs ++ Builtin.zeroCells z.cells (cap' - (N + 1))) el' (0, 0)) (cold_cells _ _) ⟨w.heap.size, 0, cap'⟩ rfl (.rows el' (.fn2 4 len (.li .i64 1)))
          ⟨⟨w.heap.size, 0, cap'⟩, ((List.range' L.base (N * i.size)).map fun j => arr.getD j undef).toArray ++ vs ++ Builtin.zeroCells z.cells (cap' - (N + 1)), N + 1, by simp, rfl, by simp, dsum _ (hleE _), hc1, by
            simp [zeroCells_size, hvz, hzs, hi4]
            omega, fun j hj => by
            have hs2 : j < (((List.range' L.base (N * i.size)).map fun j => arr.getD j undef).toArray ++ vs).size := by simp [hi4, hvz]; omega
            rw [Array.getD_eq_getD_getElem?, Array.getElem?_append_left hs2]
            rcases Nat.lt_or_ge j (4 * N) with h | h
            · have hs1 : j < ((List.range' L.base (N * i.size)).map fun j => arr.getD j undef).toArray.size := by simp [hi4]; omega
              rw [Array.getElem?_append_left hs1]
              have : (((List.range' L.base (N * i.size)).map fun j => arr.getD j undef).toArray)[j]? = some (arr.getD j undef) := by
                rw [List.getElem?_toArray, List.getElem?_map, List.getElem?_range' (by rw [hi4]; omega)]
                simp [hb0]
              rw [this]; exact hcs j h
            · have hs1 : ((List.range' L.base (N * i.size)).map fun j => arr.getD j undef).toArray.size ≤ j := by simp [hi4]; omega
              rw [Array.getElem?_append_right hs1]
              have := hvt (j - 4 * N) (by omega)
              rw [List.getD_eq_getElem?_getD, Array.getElem?_toList] at this
              have e : j - ((List.range' L.base (N * i.size)).map fun j => arr.getD j undef).toArray.size = j - 4 * N := by simp [hi4]; omega
              rw [e]
              exact kTy_mod (p := 0) (by omega) this⟩
        refine ⟨_, _, _, _, _, .slice (some ⟨w.heap.size, 0, none⟩) (N + 1) cap', hc2, ?_, g1, Goes.of_drew (g2.weaken hf2 hf3 (fun i hi => T.get_set_ne _ _ _ _ _ (by omega))), he⟩
        rw [Rv]
        exact ⟨⟨w.heap.size, 0, cap'⟩, N + 1, by simp, dsum _ g2.ext, by omega, hc1, rfl⟩
    · skip
      rename_i el' sz S0 l0 len' hc
      obtain ⟨e1, heR⟩ := bc_and he
      clear he
      obtain ⟨hi4, e1⟩ := bc_and e1
      obtain ⟨hle, e1⟩ := bc_and e1
      obtain ⟨hee, hn1⟩ := bc_and e1
      have hi4 := Nat.eq_of_beq_eq_true hi4
      have hee := Nat.eq_of_beq_eq_true hee
      have hn1 := Nat.eq_of_beq_eq_true hn1
      have hle := seEq_ok hle
      subst hle hee hn1 hi4
      obtain ⟨hbel, he⟩ := bc_and heR
      clear heR
      have hN := belowS_ok (factsOf_ok hr) len hdN hbel
      obtain ⟨hlf, he⟩ := bc_and he
      obtain ⟨hflo, he⟩ := flrOK_ok he
      rw [T.setK_eq, T.setK_eq, forceN_eq] at he
      have hlive : (T.get .gone h id).live = true := by rw [hc]; rfl
      have hob := hr.obj id
      rw [hc] at hob
      obtain ⟨L', arr, N', hL', hb0, hb, hdN', hNr', hsz, c0, hdS, hcl, hc0, hcs⟩ := hob
      obtain rfl : L = L' := Option.some.inj (hL.symm.trans hL')
      obtain rfl : N = N' := by rw [hdN] at hdN'; injection hdN' with q; injection q with _ q; omega
      have dsum : ∀ E' : Env, E.le E' → den E' (.fn2 4 len (.li .i64 1)) = some (.int .i64 (N + 1 : Nat)) := fun E' hle => by
        have d1 := den_mono hle _ _ hdN
        simp only [den, d1, apf2]
        rw [if_pos (by constructor <;> (show _ ≤ _) <;> omega)]
        rfl
      have hleE := fun M => Env.le_set (hr.fresh nxt (Nat.le_refl _)) M
      have hvz : vs.size = i.size := by rw [hvs]; omega
      have hvl : vs.toList.length = i.size := by simpa using hvz
      have hll1 : l.length = i.size := by omega
      have hNs : i.size * N = N * i.size := Nat.mul_comm _ _
      have hN1 : i.size * (N + 1) = N * i.size + i.size := by rw [Nat.mul_comm, Nat.succ_mul]
      have hNr1 : N * i.size ≤ L.room * i.size := Nat.mul_le_mul_right _ hNr'
      have hgv : ∀ (E' : Env), E.le E' → ∀ q a, l[q]? = some a → q < i.size ∧ Rv E' a (vs.toList.getD q undef) := fun E' hle q a ha => by
        have hq := (List.getElem?_eq_some_iff.1 ha).1
        obtain ⟨V, h1, h2⟩ := hl.get q a ha
        refine ⟨by omega, ?_⟩
        rw [List.getD_eq_getElem?_getD, h1]
        exact h2.mono hle
      have hsplit : ∀ j a, (l0 ++ l)[j]? = some a → (j < l0.length ∧ l0[j]? = some a) ∨ (l0.length ≤ j ∧ l[j - l0.length]? = some a) := fun j a hj => by
        rcases Nat.lt_or_ge j l0.length with h | h
        · exact .inl ⟨h, by rw [List.getElem?_append_left h] at hj; exact hj⟩
        · exact .inr ⟨h, by rw [List.getElem?_append_right h] at hj; exact hj⟩
      by_cases hroomy : N + 1 ≤ L.room
      · have hroom2 : N * i.size + i.size ≤ L.room * i.size := by rw [← Nat.succ_mul]; exact Nat.mul_le_mul_right _ hroomy
        obtain ⟨g1, g2⟩ := hr.rename2 hlive (M := L) (arr' := putL arr (L.base + N * i.size) vs.toList) (el := el') (ao' := .blob el' i.size S0 (l0 ++ l) (.fn2 4 len (.li .i64 1))) hL rfl
          ⟨L, putL arr (L.base + N * i.size) vs.toList, N + 1, by simp, hb0, by simp [hr.inw id L hL], dsum _ (hleE L), hroomy, by rw [putL_size]; exact hsz, c0, den_mono (hleE L) _ _ hdS, by rw [List.length_append, hll1, hN1]; omega, fun j hj => by
            rw [hb0, putL_out _ _ _ _ (.inl (by omega))]; exact hc0 j hj, fun j a hj => by
            rw [hb0]
            rcases hsplit j a hj with ⟨h, hj⟩ | ⟨h, hj⟩
            · rw [putL_out _ _ _ _ (.inl (by omega))]; exact (hcs j a hj).mono (hleE L)
            · obtain ⟨hq, hr⟩ := hgv _ (hleE L) _ _ hj
              rw [putL_get _ _ _ _ (by omega) (by omega) (by omega)]
              rw [show c0.length + j - (0 + N * i.size) = j - l0.length by omega]
              exact hr⟩ hflo
        refine ⟨_, _, _, _, _, .slice (some ⟨L.blk, L.base, none⟩) (N + 1) L.room, ?_, ?_, g1, g2, he⟩
        · rw [run_append_room hu hi hx hd hy (hv w rfl) hroomy]
          simp only [addr_add]
          have := storeCells_run P (L := L) (L.base + N * i.size) vs.toList 0 w arr hb (by rw [hvl, hb0]; omega) (allLeaf_one hl hlf)
          rw [this]
          simp
        · rw [Rv]
          exact ⟨L, N + 1, by simp, dsum _ g2.ext, by omega, hroomy, rfl⟩
      · obtain ⟨cap', hc1, hc2⟩ := run_append_grow (w := w) (ty := ty) (base := some ⟨L.blk, L.base, none⟩) (sLen := N) (sCap := L.room) (n := 1) (Y := Y)
          (old := ((List.range' L.base (N * i.size)).map fun j => arr.getD j undef).toArray) (vs := vs) hu hi hz hx hd
          (fun w' hw' => loadCells_run P (by rw [hw']; exact hb) L.base (N * i.size) (by rw [hb0]; omega)) hy hv hroomy (by omega) hbb
        obtain ⟨hf1, hf2, hf3⟩ := hr.forget id fun e => by rw [e] at hlive; exact hlive
        have hold : (((List.range' L.base (N * i.size)).map fun j => arr.getD j undef).toArray).size = N * i.size := by simp
        have hcapm : N * i.size + i.size ≤ cap' * i.size := by rw [← Nat.succ_mul]; exact Nat.mul_le_mul_right _ (by omega)
        have hsz2 : (((List.range' L.base (N * i.size)).map fun j => arr.getD j undef).toArray ++ vs ++ Builtin.zeroCells z.cells (cap' - (N + 1))).size = cap' * i.size := by
          rw [Array.size_append, Array.size_append, hold, hvz, zeroCells_size, hzs, Nat.sub_mul, Nat.succ_mul]
          omega
        have hlo : ∀ j, j < N * i.size → (((List.range' L.base (N * i.size)).map fun j => arr.getD j undef).toArray ++ vs ++ Builtin.zeroCells z.cells (cap' - (N + 1))).getD j undef = arr.getD j undef := fun j hj => by
          rw [Array.getD_eq_getD_getElem?, Array.getElem?_append_left (by rw [Array.size_append, hold]; omega), Array.getElem?_append_left (by rw [hold]; exact hj), List.getElem?_toArray, List.getElem?_map, List.getElem?_range' hj]
          simp [hb0]
        have hhi : ∀ q, q < i.size → (((List.range' L.base (N * i.size)).map fun j => arr.getD j undef).toArray ++ vs ++ Builtin.zeroCells z.cells (cap' - (N + 1))).getD (N * i.size + q) undef = vs.toList.getD q undef := fun q hq => by
          rw [Array.getD_eq_getD_getElem?, Array.getElem?_append_left (by rw [Array.size_append, hold, hvz]; omega), Array.getElem?_append_right (by rw [hold]; omega), hold, Nat.add_sub_cancel_left, List.getD_eq_getElem?_getD, Array.getElem?_toList]
        obtain ⟨g1, g2⟩ := hf1.drew.alloc (.cells (((List.range' L.base (N * i.size)).map fun j => arr.getD j undef).toArray ++ vs ++ Builtin.zeroCells z.cells (cap' - (N + 1))) el' (0, 0)) (cold_cells _ _) ⟨w.heap.size, 0, cap'⟩ rfl (.blob el' i.size S0 (l0 ++ l) (.fn2 4 len (.li .i64 1)))
          ⟨⟨w.heap.size, 0, cap'⟩, ((List.range' L.base (N * i.size)).map fun j => arr.getD j undef).toArray ++ vs ++ Builtin.zeroCells z.cells (cap' - (N + 1)), N + 1, by simp, rfl, by simp, dsum _ (hleE _), hc1, by rw [hsz2]; exact Nat.le_refl _, c0, den_mono (hleE _) _ _ hdS, by rw [List.length_append, hll1, hN1]; omega, fun j hj => by
            rw [hlo j (by omega)]; exact hc0 j hj, fun j a hj => by
            rcases hsplit j a hj with ⟨h, hj⟩ | ⟨h, hj⟩
            · rw [hlo _ (by omega)]; exact (hcs j a hj).mono (hleE _)
            · obtain ⟨hq, hr⟩ := hgv _ (hleE ⟨w.heap.size, 0, cap'⟩) _ _ hj
              rw [show c0.length + j = N * i.size + (j - l0.length) by omega, hhi _ hq]
              exact hr⟩
        refine ⟨_, _, _, _, _, .slice (some ⟨w.heap.size, 0, none⟩) (N + 1) cap', hc2, ?_, g1, Goes.of_drew (g2.weaken hf2 hf3 (fun i hi => T.get_set_ne _ _ _ _ _ (by omega))), he⟩
        rw [Rv]
        exact ⟨⟨w.heap.size, 0, cap'⟩, N + 1, by simp, dsum _ g2.ext, by omega, hc1, rfl⟩
  · cases he
end
end Go.Proofs.YtbmekbpgoakkbaaGreatDoor.Vx
