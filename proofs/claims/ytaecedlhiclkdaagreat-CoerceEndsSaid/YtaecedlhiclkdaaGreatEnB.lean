/- CoerceEnds: what is asked of a value's kind (one fact each), and what the ends reckon (one of several answers), by contract. No condition. -/
import Derived.Test.YtaecedlhiclkdaaGreatCon
import Derived.Test.YtaecedlhiclkdaaGreatRead
import Derived.Test.YtaecedlhiclkdaaGreatFmt
import Derived.Test.YtaecedlhiclkdaaGreatVxZh
import Derived.Test.YtaecedlhiclkdaaGreatVxZr
import Derived.WalkKit
import Derived.WalkLawsBesides
import Derived.Lib.Hide
import Derived.Handy
namespace Go.Proofs.YtaecedlhiclkdaaGreat.En
open Go Vx Con RowKit
set_option linter.unusedVariables false
set_option linter.constructorNameAsVariable false
set_option maxRecDepth 100000

theorem noneV : OfVal P 154 (fun n _ _ _ => decide (n ≤ 1)) := by
  intro n x s m w hn hx hs hm h0
  go_enter Tryz.func154, Tryz.ntmps154
  go_wp2
  all_goals go_returns
  all_goals refine ⟨?_, (Below.refl w.heap.size w).alloc (Nat.le_refl _) _⟩
  all_goals show Ending.returned (Value.bool _) = Ending.returned (Value.bool _)
  all_goals refine congrArg (fun b => Ending.returned (Value.bool b)) ?_
  all_goals first | omega | (rw [Bool.eq_iff_iff]; simp; try omega)
theorem objV : OfVal P 12 (fun n _ _ _ => (!decide (n ≤ 5)) && decide (n ≤ 8)) := by
  intro n x s m w hn hx hs hm h0
  go_enter Tryz.func12, Tryz.ntmps12
  go_wp2
  all_goals go_returns
  all_goals refine ⟨?_, (Below.refl w.heap.size w).alloc (Nat.le_refl _) _⟩
  all_goals show Ending.returned (Value.bool _) = Ending.returned (Value.bool _)
  all_goals refine congrArg (fun b => Ending.returned (Value.bool b)) ?_
  all_goals first | omega | (rw [Bool.eq_iff_iff]; simp; try omega)
theorem callsV : OfVal P 84 (fun n _ _ _ => (!decide (n ≤ 6)) && decide (n ≤ 8)) := by
  intro n x s m w hn hx hs hm h0
  go_enter Tryz.func84, Tryz.ntmps84
  go_wp2
  all_goals go_returns
  all_goals refine ⟨?_, (Below.refl w.heap.size w).alloc (Nat.le_refl _) _⟩
  all_goals show Ending.returned (Value.bool _) = Ending.returned (Value.bool _)
  all_goals refine congrArg (fun b => Ending.returned (Value.bool b)) ?_
  all_goals first | omega | (rw [Bool.eq_iff_iff]; simp; try omega)
theorem den_not {E : Env} {e : SE} {b : Bool} (h : den E e = some (.bool b)) : den E (.not e) = some (.bool (!b)) := by
  simp only [den, h]
noncomputable def noneC : Ct := valF fun a _ _ _ => .cmp .leq a (.li .u8 1)
theorem noneC_ok : CtOK P 154 noneC := valF_ok noneV fun da _ _ _ => fact_le da
noncomputable def objC : Ct := valF fun a _ _ _ => .and (.not (.cmp .leq a (.li .u8 5))) (.cmp .leq a (.li .u8 8))
theorem objC_ok : CtOK P 12 objC := valF_ok objV fun da _ _ _ => den_and (den_not (fact_le da)) (fact_le da)
noncomputable def callsC : Ct := valF fun a _ _ _ => .and (.not (.cmp .leq a (.li .u8 6))) (.cmp .leq a (.li .u8 8))
theorem callsC_ok : CtOK P 84 callsC := valF_ok callsV fun da _ _ _ => den_and (den_not (fact_le da)) (fact_le da)
theorem alive0 : c0 5 [] (T.full .gone 20) 1 (fun v _ _ => match v with | .b y => (y == true) | _ => false) = true := by kernel_rfl
theorem alive (w : World) : Calls P 5 #[] w fun e w' => e = .returned (.bool true) ∧ RowKit.Below w.heap.size w w' := closed c0_ok alive0 w
noncomputable def aliveC : Ct := fun args h nxt k => match args with
  | [] => k (.b true) h nxt
  | _ => false
theorem aliveC_ok : CtOK P 5 aliveC := by
  apply ctExpr
  intro args ARGS E h nxt w k he ra hr
  unfold aliveC at he
  split at he <;> try (cases he; done)
  have hA : ARGS = #[] := by
    apply Array.ext'
    rw [RvL] at ra
    exact ra
  subst hA
  exact ⟨.b true, h, .bool true, he, by rw [Rv], hr, Fk.refl h, alive w⟩
noncomputable def SB : Specs := fun g => match g with
  | 5 => some aliveC
  | 160 => some (orC readC (runC c0 160))
  | 194 => some (orC (fmtC 4) (runC c0 194))
  | 31 => some (renC 4 (runC c2 31))
  | 154 => some (orC noneC (runC c0 154))
  | 12 => some (orC objC (runC c0 12))
  | 84 => some (orC callsC (runC c0 84))
  | g => S2 g
theorem SB_ok : SpecOK P SB := by
  intro g C hC
  unfold SB at hC
  split at hC
  · cases hC; exact aliveC_ok
  · cases hC; exact orC_ok (readC_ok Read.read) (runC_ok c0_ok 160)
  · cases hC; exact orC_ok (fmtC_ok Fmt.fmt) (runC_ok c0_ok 194)
  · cases hC; exact renC_ok (runC_ok c2_ok 31)
  · cases hC; exact orC_ok noneC_ok (runC_ok c0_ok 154)
  · cases hC; exact orC_ok objC_ok (runC_ok c0_ok 12)
  · cases hC; exact orC_ok callsC_ok (runC_ok c0_ok 84)
  · exact S2_ok _ C hC
noncomputable def cB : CallF := run SB 40
theorem cB_ok : CallOK P cB := run_ok SB_ok 40

/-! ### Answers of a shape -/
noncomputable def litA (a : AV) : Bool := match a with
  | .b _ => true
  | .i _ _ => true
  | .f _ _ => true
  | .s _ _ => true
  | .sn => true
  | _ => false
theorem litA_ok {E E' : Env} {a : AV} {V : Value} (h : litA a = true) (r : Rv E a V) : Rv E' a V := by
  unfold litA at h
  split at h <;> first | (cases h; done) | (rw [Rv] at r ⊢; exact r)
/-- a text whose length is known to be small -/
noncomputable def shrt (fs : Facts) (a : AV) : Bool := match a with
  | .s l _ => Nat.ble l 8192
  | .x .s e => Nat.beq (decX fs (.cmp .leq (.len e) (.li .i64 8192))) 1
  | _ => false
theorem shrt_ok {E : Env} {fs : Facts} {a : AV} {V : Value} (hf : Holds E fs) (h : shrt fs a = true) (r : Rv E a V) : ∃ s : ByteArray, V = .string s ∧ s.size ≤ 8192 := by
  unfold shrt at h
  split at h <;> try (cases h; done)
  · rw [Rv] at r; subst r; exact ⟨_, rfl, by rw [str_size]; exact Nat.le_of_ble_eq_true h⟩
  · rename_i e
    simp only [Rv, hasS] at r
    obtain ⟨hd, s, rfl, hs⟩ := r
    have hl : den E (.len e) = some (.int .i64 s.size) := by simp only [den, hd]
    have := (decX_ok hf (fact_le (k := .i64) (c := 8192) hl)).1 (Nat.eq_of_beq_eq_true h)
    have := of_decide_eq_true this
    exact ⟨s, rfl, by omega⟩
/-- a cell of a shape: a symbol stands for any cell of its kind (a text: a short one) -/
noncomputable def mt (fs : Facts) (a b : AV) : Bool := match b with
  | .x (.i kk) _ => asI kk a fun _ => true
  | .x .f _ => asF a fun _ => true
  | .x .s _ => shrt fs a
  | .x _ _ => false
  | b => bc (litA b) (wk1 [] a b) false
noncomputable def mtL (fs : Facts) (l T : List AV) : Bool := wkL (mt fs) l T
/-- a shape's symbols, numbered from n on -/
noncomputable def inst (T : List AV) : Nat → List AV := List.rec (motive := fun _ => Nat → List AV) (fun _ => []) (fun a _ ih n => match a with
  | .x s _ => .x s (.sy n) :: ih (Nat.succ n)
  | a => a :: ih n) T
noncomputable def lenS (n : Nat) : SE × Bool := (.cmp .leq (.len (.sy n)) (.li .i64 8192), true)
noncomputable def instF (T : List AV) : Nat → Facts := List.rec (motive := fun _ => Nat → Facts) (fun _ => []) (fun a _ ih n => match a with
  | .x .s _ => lenS n :: ih (Nat.succ n)
  | .x _ _ => ih (Nat.succ n)
  | _ => ih n) T
noncomputable def cnt (T : List AV) : Nat := List.rec (motive := fun _ => Nat) 0 (fun a _ ih => match a with
  | .x _ _ => Nat.succ ih
  | _ => ih) T
theorem mt_hole {E : Env} {fs : Facts} (hf : Holds E fs) {a : AV} {s : Srt} {e : SE} {V : Value} (h : mt fs a (.x s e) = true) (r : Rv E a V) : symOK V ∧ hasS s V ∧ (s = .s → ∃ t : ByteArray, V = .string t ∧ t.size ≤ 8192) := by
  unfold mt at h
  cases s with
  | i kk => obtain ⟨_, n, rfl, h1, h2, _⟩ := asI_ok h r; exact ⟨sok_i _ _, ⟨n, rfl, h1, h2⟩, fun h => by cases h⟩
  | f => obtain ⟨_, n, rfl, h1, _⟩ := asF_ok h r; exact ⟨sok_f _, ⟨n, rfl, h1⟩, fun h => by cases h⟩
  | s => obtain ⟨n, rfl, h1⟩ := shrt_ok hf h r; exact ⟨sok_s _, ⟨n, rfl, by omega⟩, fun _ => ⟨n, rfl, h1⟩⟩
  | b => cases h
theorem mt_lit {E E' : Env} {fs : Facts} {a b : AV} {V : Value} (hb : ∀ s e, b ≠ .x s e) (h : mt fs a b = true) (r : Rv E a V) : Rv E' b V := by
  have h : bc (litA b) (wk1 [] a b) false = true := by
    cases b <;> first | exact h | exact absurd rfl (hb _ _)
  obtain ⟨h1, h2⟩ := bc_and h
  exact litA_ok h1 (wk1_ok wk_nil h2 V r)
theorem mtL_ok {E : Env} {fs : Facts} (hf : Holds E fs) : ∀ {T l : List AV} {vs : List Value}, mtL fs l T = true → RvL E l vs → ∃ Us : List Value, Us.length = cnt T ∧ (∀ U ∈ Us, symOK U) ∧ ∀ (n : Nat) (E' : Env), (∀ j U, Us[j]? = some U → den E' (.sy (n + j)) = some U) → RvL E' (inst T n) vs ∧ Holds E' (instF T n)
  | [], [], vs, _, r => ⟨[], rfl, (fun U hU => by cases hU), (fun n E' _ => by rw [RvL] at r; subst r; exact ⟨rvl_nil, holds_nil⟩)⟩
  | [], _ :: _, _, h, _ => by cases h
  | _ :: _, [], _, h, _ => by cases h
  | b :: T, a :: l, vs, h, r => by
    have h : bc (mt fs a b) (mtL fs l T) false = true := h
    obtain ⟨h1, h2⟩ := bc_and h
    rw [RvL] at r
    obtain ⟨V, vs', rfl, ra, rl⟩ := r
    obtain ⟨Us, hl, hk, ht⟩ := mtL_ok hf h2 rl
    by_cases hb : ∃ s e, b = .x s e
    · obtain ⟨s, e, rfl⟩ := hb
      obtain ⟨k1, k2, k3⟩ := mt_hole hf h1 ra
      refine ⟨V :: Us, ?_, fun U hU => ?_, fun n E' hd => ?_⟩
      · show Us.length + 1 = Nat.succ (cnt T); rw [hl]
      · rcases List.mem_cons.1 hU with rfl | hU
        · exact k1
        · exact hk U hU
      · obtain ⟨t1, t2⟩ := ht (n + 1) E' fun j U hj => by rw [show n + 1 + j = n + (j + 1) from by omega]; exact hd (j + 1) U hj
        have h0 : den E' (.sy n) = some V := hd 0 V rfl
        refine ⟨?_, ?_⟩
        · show RvL E' (.x s (.sy n) :: inst T (Nat.succ n)) (V :: vs')
          exact rvl_cons (by rw [Rv]; exact ⟨h0, k2⟩) t1
        · cases s with
          | s =>
            obtain ⟨t, rfl, ht'⟩ := k3 rfl
            show Holds E' (lenS n :: instF T (Nat.succ n))
            refine holds_cons ?_ t2
            have hl : den E' (.len (.sy n)) = some (.int .i64 t.size) := by
              show (match den E' (.sy n) with | some (.string s) => some (Value.int .i64 s.size) | _ => none) = _
              rw [h0]
            exact (fact_le hl).trans (by rw [decide_eq_true (by omega)]; rfl)
          | _ => exact t2
    · have hb : ∀ s e, b ≠ .x s e := fun s e he => hb ⟨s, e, he⟩
      have e1 : cnt (b :: T) = cnt T := by cases b <;> first | rfl | exact absurd rfl (hb _ _)
      have e2 : ∀ n, inst (b :: T) n = b :: inst T n := fun n => by cases b <;> first | rfl | exact absurd rfl (hb _ _)
      have e3 : ∀ n, instF (b :: T) n = instF T n := fun n => by cases b <;> first | rfl | exact absurd rfl (hb _ _)
      refine ⟨Us, by rw [e1]; exact hl, hk, fun n E' hd => ?_⟩
      obtain ⟨t1, t2⟩ := ht n E' hd
      rw [e2, e3]
      exact ⟨rvl_cons (mt_lit hb h1 ra) t1, t2⟩
noncomputable def finL (fs : Facts) (Ts : List (List AV)) (l : List AV) : Bool := List.rec (motive := fun _ => Bool) false (fun T _ ih => bc (mtL fs l T) true ih) Ts
noncomputable def finAg (Ts : List (List AV)) (v : AV) (h : Heap) : Bool := match v with
  | .ag l => finL (factsOf h) Ts l
  | _ => false
noncomputable def finTu (Ts : List (List AV)) (v : AV) (h : Heap) : Bool := match v with
  | .tu l => finL (factsOf h) Ts l
  | _ => false
/-- a condition and a whole number -/
noncomputable def finBI (v : AV) (_ : Heap) : Bool := match v with
  | .tu [.b _, e] => asI .i64 e fun _ => true
  | .tu [.x .b _, e] => asI .i64 e fun _ => true
  | _ => false
noncomputable def altL (mk : List AV → AV) (Ts : List (List AV)) (n : Nat) : List Alt := Ts.map fun T => (cnt T, instF T n, mk (inst T n))
theorem finL_ok {fs : Facts} {l : List AV} : ∀ {Ts : List (List AV)}, finL fs Ts l = true → ∃ T ∈ Ts, mtL fs l T = true
  | [], h => by cases h
  | T :: Ts, h => by
    have h : bc (mtL fs l T) true (finL fs Ts l) = true := h
    rcases bc_or h with ⟨h1, _⟩ | ⟨_, h2⟩
    · exact ⟨T, List.mem_cons_self, h1⟩
    · obtain ⟨T', hT, hm⟩ := finL_ok h2
      exact ⟨T', List.mem_cons_of_mem _ hT, hm⟩
theorem ag_ok {E : Env} {Ts : List (List AV)} {v : AV} {V : Value} {h : Heap} (hf : Holds E (factsOf h)) (he : finAg Ts v h = true) (r : Rv E v V) (n : Nat) : ∃ p ∈ altL .ag Ts n, ∃ Vs, Vs.length = p.1 ∧ Tells n Vs p.2.1 p.2.2 V := by
  unfold finAg at he
  split at he <;> try (cases he; done)
  rename_i l
  rw [Rv] at r
  obtain ⟨vs, rfl, r⟩ := r
  obtain ⟨T, hT, hm⟩ := finL_ok he
  obtain ⟨Us, hl, hk, ht⟩ := mtL_ok hf hm r
  exact ⟨_, List.mem_map.2 ⟨T, hT, rfl⟩, Us, hl, hk, fun E' hd => by
    obtain ⟨t1, t2⟩ := ht n E' hd
    exact ⟨by show Rv E' (.ag (inst T n)) _; rw [Rv]; exact ⟨vs, rfl, t1⟩, t2⟩⟩
theorem tu_ok {E : Env} {Ts : List (List AV)} {v : AV} {V : Value} {h : Heap} (hf : Holds E (factsOf h)) (he : finTu Ts v h = true) (r : Rv E v V) (n : Nat) : ∃ p ∈ altL .tu Ts n, ∃ Vs, Vs.length = p.1 ∧ Tells n Vs p.2.1 p.2.2 V := by
  unfold finTu at he
  split at he <;> try (cases he; done)
  rename_i l
  rw [Rv] at r
  obtain ⟨vs, rfl, r⟩ := r
  obtain ⟨T, hT, hm⟩ := finL_ok he
  obtain ⟨Us, hl, hk, ht⟩ := mtL_ok hf hm r
  exact ⟨_, List.mem_map.2 ⟨T, hT, rfl⟩, Us, hl, hk, fun E' hd => by
    obtain ⟨t1, t2⟩ := ht n E' hd
    exact ⟨by show Rv E' (.tu (inst T n)) _; rw [Rv]; exact ⟨vs, rfl, t1⟩, t2⟩⟩
noncomputable def altBI (n : Nat) : List Alt := [(1, [], .tu [.b true, .x (.i .i64) (.sy n)]), (1, [], .tu [.b false, .x (.i .i64) (.sy n)])]
theorem bi_ok {E : Env} {v : AV} {V : Value} {h : Heap} (he : finBI v h = true) (r : Rv E v V) (n : Nat) : ∃ p ∈ altBI n, ∃ Vs, Vs.length = p.1 ∧ Tells n Vs p.2.1 p.2.2 V := by
  have key : ∀ {b e : AV} {B : Bool}, asI .i64 e (fun _ => true) = true → (∀ U, Rv E b U → ∃ B, U = .bool B) → Rv E (.tu [b, e]) V → ∃ p ∈ altBI n, ∃ Vs, Vs.length = p.1 ∧ Tells n Vs p.2.1 p.2.2 V := by
    intro b e _ he hb q
    rw [Rv] at q
    obtain ⟨vs, rfl, q⟩ := q
    simp only [RvL] at q
    obtain ⟨U, _, rfl, rb, W, _, rfl, re, rfl⟩ := q
    obtain ⟨B, rfl⟩ := hb U rb
    obtain ⟨_, m, rfl, m1, m2, _⟩ := asI_ok he re
    have tl : ∀ E' : Env, (∀ j U, [Value.int .i64 m][j]? = some U → den E' (.sy (n + j)) = some U) → Rv E' (.tu [.b B, .x (.i .i64) (.sy n)]) (.tuple #[.bool B, .int .i64 m]) := fun E' hd => by
      rw [Rv]
      exact ⟨_, rfl, rvl_cons (by rw [Rv]) (rvl_cons (by rw [Rv]; exact ⟨hd 0 _ rfl, m, rfl, m1, m2⟩) rvl_nil)⟩
    have ok : ∀ U ∈ [Value.int .i64 m], symOK U := fun U hU => by
      rcases List.mem_singleton.1 hU with rfl
      exact sok_i _ _
    cases B
    · exact ⟨_, List.mem_cons_of_mem _ List.mem_cons_self, [.int .i64 m], rfl, ok, fun E' hd => ⟨tl E' hd, holds_nil⟩⟩
    · exact ⟨_, List.mem_cons_self, [.int .i64 m], rfl, ok, fun E' hd => ⟨tl E' hd, holds_nil⟩⟩
  unfold finBI at he
  split at he <;> try (cases he; done)
  · exact key (B := true) he (fun U hU => by rw [Rv] at hU; exact ⟨_, hU⟩) r
  · exact key (B := true) he (fun U hU => by simp only [Rv, hasS] at hU; exact hU.2) r

/-- some text and a whole number -/
noncomputable def finSI (v : AV) (_ : Heap) : Bool := match v with
  | .tu [s, e] => bc (asS s fun _ => true) (asI .i64 e fun _ => true) false
  | _ => false
noncomputable def altSI (n : Nat) : List Alt := [(2, [], .tu [.x .s (.sy n), .x (.i .i64) (.sy (Nat.succ n))])]
theorem si_ok {E : Env} {v : AV} {V : Value} {h : Heap} (he : finSI v h = true) (r : Rv E v V) (n : Nat) : ∃ p ∈ altSI n, ∃ Vs, Vs.length = p.1 ∧ Tells n Vs p.2.1 p.2.2 V := by
  unfold finSI at he
  split at he <;> try (cases he; done)
  obtain ⟨h1, h2⟩ := bc_and he
  rw [Rv] at r
  obtain ⟨vs, rfl, r⟩ := r
  simp only [RvL] at r
  obtain ⟨U, _, rfl, rb, W, _, rfl, re, rfl⟩ := r
  obtain ⟨_, s, rfl, hs, _⟩ := asS_ok h1 rb
  obtain ⟨_, m, rfl, m1, m2, _⟩ := asI_ok h2 re
  refine ⟨_, List.mem_cons_self, [.string s, .int .i64 m], rfl, (fun U hU => ?_), fun E' hd => ⟨?_, holds_nil⟩⟩
  · simp only [List.mem_cons, List.not_mem_nil, or_false] at hU
    rcases hU with rfl | rfl
    · exact sok_s _
    · exact sok_i _ _
  · show Rv E' (.tu [.x .s (.sy n), .x (.i .i64) (.sy (n + 1))]) _
    rw [Rv]
    exact ⟨_, rfl, rvl_cons (by rw [Rv]; exact ⟨hd 0 _ rfl, s, rfl, hs⟩) (rvl_cons (by rw [Rv]; exact ⟨hd 1 _ rfl, m, rfl, m1, m2⟩) rvl_nil)⟩

/-! ### Runs of the ends' reckonings -/
noncomputable def GB : List (Nat × List AV) := [(4, tabAVs 20 6)]
noncomputable def vS (n : Nat) : List AV := [.x (.i .u8) (.sy n), .x .f (.sy (n + 1)), .x .s (.sy (n + 2)), .x (.i .i64) (.sy (n + 3))]
def hI (k : IntKind) : AV := .x (.i k) (.sy 0)
def hFl : AV := .x .f (.sy 0)
def hSt : AV := .x .s (.sy 0)
def restZ : List AV := [.b false, .b false, .i .u8 0, .i .u8 0, .f .f64 0, .s 0 0, .i .i64 0, .i .u8 0, .f .f64 0, .s 0 0, .i .i64 0, .i .u8 0, .f .f64 0, .s 0 0, .i .i64 0, .b false, .b false, .b false, .sn]
noncomputable def doneT (kd : Int) : List AV := [.i .u8 1, .i .u8 kd, hFl, hSt, hI .i64] ++ restZ ++ [.i .u8 0, .s 0 0]
noncomputable def failT : List AV := [.i .u8 3, .i .u8 0, .f .f64 0, .s 0 0, .i .i64 0] ++ restZ ++ [hI .u8, hSt]
noncomputable def numT : List (List AV) := [doneT 3, failT]
noncomputable def textT : List (List AV) := [doneT 4, failT]
theorem tab_in {w : World} (ht : TableIn w 4) : ∃ zs : List Int, zs.length = 20 ∧ (∀ z ∈ zs, 0 ≤ z ∧ z ≤ 18446744073709551615) ∧ ∀ Us : List Value, ∀ p ∈ GB, ∃ arr el fr, w.heap[p.1]? = some (.cells arr el fr) ∧ RvL (symEV GB 6 (zs.map (Value.int .u64) ++ Us)) p.2 (arr.toList.take p.2.length) := by
  obtain ⟨arr, el, fr, zs, h1, h2, h3, h4⟩ := ht
  refine ⟨zs, h3, h4, fun Us p hp => ?_⟩
  obtain rfl : p = (4, tabAVs 20 6) := by simpa [GB] using hp
  refine ⟨arr, el, fr, h1, ?_⟩
  have hl : (tabAVs 20 6).length = 20 := rfl
  show RvL _ (tabAVs 20 6) (arr.toList.take (tabAVs 20 6).length)
  rw [hl, h2]
  refine tab_rv (gl := GB) (n0 := 6) 20 0 zs h3 (fun i z hz => ?_) h4
  rw [Nat.zero_add, List.getElem?_append_left (by rw [List.length_map]; exact (List.getElem?_eq_some_iff.1 hz).1), List.getElem?_map, hz]
  rfl
theorem at_us {zs : List Int} (h : zs.length = 20) (Us : List Value) (j : Nat) : (zs.map (Value.int .u64) ++ Us)[20 + j]? = Us[j]? := by
  rw [List.getElem?_append_right (by simp; omega)]
  congr 1
  simp; omega
theorem us_rv {zs : List Int} (h : zs.length = 20) {Us : List Value} {s : Srt} (j : Nat) {V : Value} (hj : Us[j]? = some V) (ok : symOK V) (hs : hasS s V) : Rv (symEV GB 6 (zs.map (Value.int .u64) ++ Us)) (.x s (.sy (26 + j))) V := by
  have := rv_sym (gl := GB) (n0 := 6) (Vs := zs.map (Value.int .u64) ++ Us) (s := s) (20 + j) (by rw [at_us h]; exact hj) ok hs
  rw [show 6 + (20 + j) = 26 + j from by omega] at this
  exact this
/-- what is given: values, each of a kind -/
theorem args_ok {zs : List Int} (h : zs.length = 20) (Us : List Value) : ∀ (T : List AV) (vs : List Value) (j : Nat), (∀ U ∈ vs, symOK U) → (∀ i U, vs[i]? = some U → Us[j + i]? = some U) → All2 (fun a V => ∃ s e, a = .x s e ∧ hasS s V) T vs → RvL (symEV GB 6 (zs.map (Value.int .u64) ++ Us)) (inst T (26 + j)) vs
  | [], [], _, _, _, _ => rvl_nil
  | a :: T, V :: vs, j, hk, hU, hA => by
    obtain ⟨⟨s, e, rfl, hs⟩, hA⟩ := hA
    show RvL _ (.x s (.sy (26 + j)) :: inst T (Nat.succ (26 + j))) _
    refine rvl_cons (us_rv h j (hU 0 V rfl) (hk V List.mem_cons_self) hs) ?_
    exact args_ok h Us T vs (j + 1) (fun U hU => hk U (List.mem_cons_of_mem _ hU)) (fun i U hi => by rw [show j + 1 + i = j + (i + 1) from by omega]; exact hU (i + 1) U hi) hA
  | [], _ :: _, _, _, _, hA => hA.elim
  | _ :: _, [], _, _, _, hA => hA.elim
def vT : List AV := [hI .u8, hFl, hSt, hI .i64]
def vT3 : List AV := [hFl, hSt, hI .i64]
noncomputable def runN (fs : Facts) (fin : AV → Heap → Bool) (g : Nat) (args : List AV) (nn : Nat) : Bool := setF fs (startH GB 6) (fun h => cB g args h nn (fun v h _ => fin v h))
noncomputable def sh4 (n : Nat) : SE × Bool := (.cmp .leq (.len (.sy n)) (.li .i64 4096), true)
theorem numR : runN [] (finAg numT) 159 [.ag (inst vT 26)] 30 = true := by kernel_rfl
theorem textR0 : runN [sh4 27] (finAg textT) 183 [.ag (.i .u8 0 :: inst vT3 26)] 29 = true := by kernel_rfl
theorem textR1 : runN [sh4 27] (finAg textT) 183 [.ag (.i .u8 1 :: inst vT3 26)] 29 = true := by kernel_rfl
theorem textR2 : runN [sh4 27] (finAg textT) 183 [.ag (.i .u8 2 :: inst vT3 26)] 29 = true := by kernel_rfl
theorem textR3 : runN [sh4 27] (finAg textT) 183 [.ag (.i .u8 3 :: inst vT3 26)] 29 = true := by kernel_rfl
theorem textR4 : runN [sh4 27] (finAg textT) 183 [.ag (.i .u8 4 :: inst vT3 26)] 29 = true := by kernel_rfl
theorem textR5 : runN [sh4 27] (finAg textT) 183 [.ag (.i .u8 5 :: inst vT3 26)] 29 = true := by kernel_rfl
theorem plainR : runN [] finBI 209 [.ag (inst vT 26), .ag (inst vT 30)] 34 = true := by kernel_rfl
theorem joinR : runN [lenS 26, lenS 27] finSI 216 (inst [hSt, hSt] 26) 28 = true := by kernel_rfl
theorem textR (k : Nat) (hk : k ≤ 5) : runN [sh4 27] (finAg textT) 183 [.ag (.i .u8 (Int.ofNat k) :: inst vT3 26)] 29 = true := by
  match k, hk with
  | 0, _ => exact textR0
  | 1, _ => exact textR1
  | 2, _ => exact textR2
  | 3, _ => exact textR3
  | 4, _ => exact textR4
  | 5, _ => exact textR5
theorem fin_pk {f : List AV → Bool} (v : AV) (h : Heap) : (match AV.pk v with | .ag l => f l | _ => false) = false := rfl
/-- a run of one of them, at a world that holds the table -/
theorem runN_ok {fs : Facts} {fin : AV → Heap → Bool} {g nn : Nat} {args : List AV} {ARGS : Array Value} {Us : List Value} {zs : List Int} {w : World} (he : runN fs fin g args nn = true) (hz : zs.length = 20) (hnn : 26 + Us.length = nn) (hp : ∀ v h, fin (.pk v) h = false)
    (hw : ∀ p ∈ GB, ∃ arr el fr, w.heap[p.1]? = some (.cells arr el fr) ∧ RvL (symEV GB 6 (zs.map (Value.int .u64) ++ Us)) p.2 (arr.toList.take p.2.length))
    (hf : Holds (symEV GB 6 (zs.map (Value.int .u64) ++ Us)) fs) (ra : RvL (symEV GB 6 (zs.map (Value.int .u64) ++ Us)) args ARGS.toList) (hs : 0 < w.heap.size) :
    Calls P g ARGS w fun e w' => (∃ V v h' E', e = .returned V ∧ Rv E' v V ∧ Holds E' (factsOf h') ∧ fin v h' = true) ∧ Below w.heap.size w w' :=
  closedXG cB_ok rfl rfl rfl (by rw [List.length_append, List.length_map, hz]; omega) hf ra hp he w hs hw
noncomputable def preV (args : List AV) (h : Heap) : Bool := match args with
  | [v] => bc (hasTab 4 h) (valK v fun _ _ _ _ => true) false
  | _ => false
noncomputable def preM (args : List AV) (h : Heap) : Bool := match args with
  | [v] => bc (hasTab 4 h) (valK v fun a b c d => bc (Nat.beq (decX (factsOf h) (.fn 10 (packV a b c d))) 1) (Nat.beq (decX (factsOf h) (.cmp .leq a (.li .u8 5))) 1) false) false
  | _ => false
noncomputable def preVV (args : List AV) (h : Heap) : Bool := match args with
  | [v, u] => bc (hasTab 4 h) (bc (valK v fun _ _ _ _ => true) (valK u fun _ _ _ _ => true) false) false
  | _ => false
noncomputable def preSS (args : List AV) (h : Heap) : Bool := match args with
  | [v, u] => bc (hasTab 4 h) (bc (shrt (factsOf h) v) (shrt (factsOf h) u) false) false
  | _ => false
theorem four {n m : Int} {x : Nat} {s : ByteArray} (hn : 0 ≤ n ∧ n ≤ 255) (hx : x < 18446744073709551616) (hs : (s.size : Int) ≤ 9223372036854775807) (hm : -9223372036854775808 ≤ m ∧ m ≤ 9223372036854775807) :
    All2 (fun a V => ∃ s e, a = AV.x s e ∧ hasS s V) vT [.int .u8 n, .float .f64 x, .string s, .int .i64 m] :=
  ⟨⟨_, _, rfl, n, rfl, hn⟩, ⟨_, _, rfl, x, rfl, hx⟩, ⟨_, _, rfl, s, rfl, hs⟩, ⟨_, _, rfl, m, rfl, hm⟩, trivial⟩
theorem ok4 {n m : Int} {x : Nat} {s : ByteArray} : ∀ U ∈ [Value.int .u8 n, .float .f64 x, .string s, .int .i64 m], symOK U := fun U hU => by
  simp only [List.mem_cons, List.not_mem_nil, or_false] at hU
  rcases hU with rfl | rfl | rfl | rfl
  · exact sok_i _ _
  · exact sok_f _
  · exact sok_s _
  · exact sok_i _ _
theorem us_den {zs : List Int} (h : zs.length = 20) {Us : List Value} (j : Nat) {V : Value} (hj : Us[j]? = some V) (ok : symOK V) : den (symEV GB 6 (zs.map (Value.int .u64) ++ Us)) (.sy (26 + j)) = some V := by
  have := den_sym (gl := GB) (n0 := 6) (Vs := zs.map (Value.int .u64) ++ Us) (20 + j) (by rw [at_us h]; exact hj) ok
  rw [show 6 + (20 + j) = 26 + j from by omega] at this
  exact this
theorem den_len' {E : Env} {e : SE} {s : ByteArray} (h : den E e = some (.string s)) : den E (.len e) = some (.int .i64 s.size) := by simp only [den, h]
noncomputable def numC : Ct := gapC preV (altL .ag numT)
theorem numC_ok : CtOK P 159 numC := by
  refine gapC_ok fun args ARGS E h n w hp ra hr => ?_
  unfold preV at hp
  split at hp <;> try (cases hp; done)
  rename_i v
  obtain ⟨ht, hv⟩ := bc_and hp
  obtain ⟨ht, hs⟩ := tableIn_of ht hr
  obtain ⟨V, hA, rx⟩ := ra.one
  have hA : ARGS = #[V] := by apply Array.ext'; simpa using hA
  subst hA
  obtain ⟨_, _, _, _, k, x, s, m, rfl, q1, q2, q3, q4, _⟩ := valK_ok hv rx hr
  obtain ⟨zs, z1, _, z3⟩ := tab_in ht
  refine ⟨hs, (runN_ok (Us := [.int .u8 k, .float .f64 x, .string s, .int .i64 m]) numR z1 rfl (fun _ _ => rfl) (z3 _) holds_nil ?_ hs).mono ?_⟩
  · exact rvl_cons (by rw [Rv]; exact ⟨_, rfl, args_ok z1 _ vT _ 0 ok4 (fun i U hi => by rw [Nat.zero_add]; exact hi) (four q1 q2 q3 q4)⟩) rvl_nil
  · rintro e w' ⟨⟨V, v, h', E', rfl, rv, hf, hk⟩, hb⟩
    exact ⟨⟨V, rfl, fun n => ag_ok hf hk rv n⟩, hb⟩
noncomputable def textC : Ct := gapC preM (altL .ag textT)
theorem textC_ok : CtOK P 183 textC := by
  refine gapC_ok fun args ARGS E h n w hp ra hr => ?_
  unfold preM at hp
  split at hp <;> try (cases hp; done)
  rename_i v
  obtain ⟨ht, hv⟩ := bc_and hp
  obtain ⟨ht, hs⟩ := tableIn_of ht hr
  obtain ⟨V, hA, rx⟩ := ra.one
  have hA : ARGS = #[V] := by apply Array.ext'; simpa using hA
  subst hA
  obtain ⟨a, b, c, d, k, x, s, m, rfl, q1, q2, q3, q4, da, db, dc, dd, _, hm⟩ := valK_ok hv rx hr
  obtain ⟨hm, h5⟩ := bc_and hm
  have hm := (decX_ok (factsOf_ok hr) (den_may da db dc dd)).1 (Nat.eq_of_beq_eq_true hm)
  have h5 := of_decide_eq_true ((decX_ok (factsOf_ok hr) (fact_le (k := .u8) (c := 5) da)).1 (Nat.eq_of_beq_eq_true h5))
  have h4 : (s.size : Int) ≤ 4096 := by
    unfold mayV at hm
    simp only [Bool.and_eq_true, decide_eq_true_eq] at hm
    omega
  obtain ⟨j, rfl⟩ : ∃ j : Nat, k = j := ⟨k.toNat, by omega⟩
  obtain ⟨zs, z1, _, z3⟩ := tab_in ht
  refine ⟨hs, (runN_ok (Us := [.float .f64 x, .string s, .int .i64 m]) (textR j (by omega)) z1 rfl (fun _ _ => rfl) (z3 _) ?_ ?_ hs).mono ?_⟩
  · exact holds_cons ((fact_le (den_len' (us_den z1 (Us := [.float .f64 x, .string s, .int .i64 m]) 1 rfl (sok_s _)))).trans (by rw [decide_eq_true h4]; rfl)) holds_nil
  · refine rvl_cons (by rw [Rv]; exact ⟨_, rfl, rvl_cons (by rw [Rv]; rfl) (args_ok z1 _ vT3 [.float .f64 x, .string s, .int .i64 m] 0 (fun U hU => ok4 (n := 0) U (List.mem_cons_of_mem _ hU)) (fun i U hi => by rw [Nat.zero_add]; exact hi) (four q1 q2 q3 q4).2)⟩) rvl_nil
  · rintro e w' ⟨⟨V, v, h', E', rfl, rv, hf, hk⟩, hb⟩
    exact ⟨⟨V, rfl, fun n => ag_ok hf hk rv n⟩, hb⟩
noncomputable def plainC : Ct := gapC preVV altBI
theorem plainC_ok : CtOK P 209 plainC := by
  refine gapC_ok fun args ARGS E h n w hp ra hr => ?_
  unfold preVV at hp
  split at hp <;> try (cases hp; done)
  rename_i v u
  obtain ⟨ht, hv⟩ := bc_and hp
  obtain ⟨hv, hu⟩ := bc_and hv
  obtain ⟨ht, hs⟩ := tableIn_of ht hr
  obtain ⟨V, U, hA, rx, ry⟩ := ra.two
  have hA : ARGS = #[V, U] := by apply Array.ext'; simpa using hA
  subst hA
  obtain ⟨_, _, _, _, k, x, s, m, rfl, q1, q2, q3, q4, _⟩ := valK_ok hv rx hr
  obtain ⟨_, _, _, _, k', x', s', m', rfl, p1, p2, p3, p4, _⟩ := valK_ok hu ry hr
  obtain ⟨zs, z1, _, z3⟩ := tab_in ht
  have a1 : RvL (symEV GB 6 (zs.map (Value.int .u64) ++ [.int .u8 k, .float .f64 x, .string s, .int .i64 m, .int .u8 k', .float .f64 x', .string s', .int .i64 m'])) (inst vT 26) [.int .u8 k, .float .f64 x, .string s, .int .i64 m] := by
    refine args_ok z1 _ vT _ 0 ok4 (fun i U hi => ?_) (four q1 q2 q3 q4)
    have : i < 4 := (List.getElem?_eq_some_iff.1 hi).1
    match i, this with
    | 0, _ => exact hi
    | 1, _ => exact hi
    | 2, _ => exact hi
    | 3, _ => exact hi
  have a2 : RvL (symEV GB 6 (zs.map (Value.int .u64) ++ [.int .u8 k, .float .f64 x, .string s, .int .i64 m, .int .u8 k', .float .f64 x', .string s', .int .i64 m'])) (inst vT (26 + 4)) [.int .u8 k', .float .f64 x', .string s', .int .i64 m'] := by
    refine args_ok z1 _ vT _ 4 ok4 (fun i U hi => ?_) (four p1 p2 p3 p4)
    have : i < 4 := (List.getElem?_eq_some_iff.1 hi).1
    match i, this with
    | 0, _ => exact hi
    | 1, _ => exact hi
    | 2, _ => exact hi
    | 3, _ => exact hi
  refine ⟨hs, (runN_ok (Us := [.int .u8 k, .float .f64 x, .string s, .int .i64 m, .int .u8 k', .float .f64 x', .string s', .int .i64 m']) plainR z1 rfl (fun _ _ => rfl) (z3 _) holds_nil ?_ hs).mono ?_⟩
  · exact rvl_cons (by rw [Rv]; exact ⟨_, rfl, a1⟩) (rvl_cons (by rw [Rv]; exact ⟨_, rfl, a2⟩) rvl_nil)
  · rintro e w' ⟨⟨V, v, h', E', rfl, rv, hf, hk⟩, hb⟩
    exact ⟨⟨V, rfl, fun n => bi_ok hk rv n⟩, hb⟩
noncomputable def joinC : Ct := gapC preSS altSI
theorem joinC_ok : CtOK P 216 joinC := by
  refine gapC_ok fun args ARGS E h n w hp ra hr => ?_
  unfold preSS at hp
  split at hp <;> try (cases hp; done)
  rename_i v u
  obtain ⟨ht, hv⟩ := bc_and hp
  obtain ⟨hv, hu⟩ := bc_and hv
  obtain ⟨ht, hs⟩ := tableIn_of ht hr
  obtain ⟨V, U, hA, rx, ry⟩ := ra.two
  have hA : ARGS = #[V, U] := by apply Array.ext'; simpa using hA
  subst hA
  obtain ⟨s, rfl, h1⟩ := shrt_ok (factsOf_ok hr) hv rx
  obtain ⟨t, rfl, h2⟩ := shrt_ok (factsOf_ok hr) hu ry
  obtain ⟨zs, z1, _, z3⟩ := tab_in ht
  have ok : ∀ U ∈ [Value.string s, .string t], symOK U := fun U hU => by
    simp only [List.mem_cons, List.not_mem_nil, or_false] at hU
    rcases hU with rfl | rfl <;> exact sok_s _
  refine ⟨hs, (runN_ok (Us := [.string s, .string t]) joinR z1 rfl (fun _ _ => rfl) (z3 _) ?_ ?_ hs).mono ?_⟩
  · exact holds_cons ((fact_le (den_len' (us_den z1 (Us := [.string s, .string t]) 0 rfl (sok_s _)))).trans (by rw [decide_eq_true (by omega)]; rfl)) (holds_cons ((fact_le (den_len' (us_den z1 (Us := [.string s, .string t]) 1 rfl (sok_s _)))).trans (by rw [decide_eq_true (by omega)]; rfl)) holds_nil)
  · exact args_ok z1 _ [hSt, hSt] [.string s, .string t] 0 ok (fun i U hi => by rw [Nat.zero_add]; exact hi) ⟨⟨_, _, rfl, s, rfl, by omega⟩, ⟨_, _, rfl, t, rfl, by omega⟩, trivial⟩
  · rintro e w' ⟨⟨V, v, h', E', rfl, rv, hf, hk⟩, hb⟩
    exact ⟨⟨V, rfl, fun n => si_ok hk rv n⟩, hb⟩
/-! ### A value that may be is the same as itself -/
noncomputable def finB (v : AV) (h : Heap) : Bool := match v with
  | .b b => b
  | .x .b e => Nat.beq (decX (factsOf h) e) 1
  | _ => false
theorem finB_ok {E : Env} {v : AV} {V : Value} {h : Heap} (hf : Holds E (factsOf h)) (he : finB v h = true) (r : Rv E v V) : V = .bool true := by
  unfold finB at he
  split at he <;> try (cases he; done)
  · rw [Rv] at r; subst r; rw [he]
  · simp only [Rv, hasS] at r
    obtain ⟨hd, b, rfl⟩ := r
    rw [(decX_ok hf hd).1 (Nat.eq_of_beq_eq_true he)]
noncomputable def selfF (k : Nat) : Facts := (.cmp .eql (.sy 27) (.sy 27), true) :: (match k with
  | 2 => [(.cmp .eql (.sy 26) (.sy 26), true)]
  | _ => [])
noncomputable def same2 (k : Nat) : List AV := [.ag (.i .u8 (Int.ofNat k) :: inst vT3 26), .ag (.i .u8 (Int.ofNat k) :: inst vT3 26)]
theorem sameR0 : runN (selfF 0) finB 8 (same2 0) 29 = true := by kernel_rfl
theorem sameR1 : runN (selfF 1) finB 8 (same2 1) 29 = true := by kernel_rfl
theorem sameR2 : runN (selfF 2) finB 8 (same2 2) 29 = true := by kernel_rfl
theorem sameR3 : runN (selfF 3) finB 8 (same2 3) 29 = true := by kernel_rfl
theorem sameR4 : runN (selfF 4) finB 8 (same2 4) 29 = true := by kernel_rfl
theorem sameR5 : runN (selfF 5) finB 8 (same2 5) 29 = true := by kernel_rfl
theorem sameR6 : runN (selfF 6) finB 8 (same2 6) 29 = true := by kernel_rfl
theorem sameR7 : runN (selfF 7) finB 8 (same2 7) 29 = true := by kernel_rfl
theorem sameR8 : runN (selfF 8) finB 8 (same2 8) 29 = true := by kernel_rfl
theorem sameR (k : Nat) (hk : k ≤ 8) : runN (selfF k) finB 8 (same2 k) 29 = true := by
  match k, hk with
  | 0, _ => exact sameR0
  | 1, _ => exact sameR1
  | 2, _ => exact sameR2
  | 3, _ => exact sameR3
  | 4, _ => exact sameR4
  | 5, _ => exact sameR5
  | 6, _ => exact sameR6
  | 7, _ => exact sameR7
  | 8, _ => exact sameR8
theorem feq11 : feq 0x3ff0000000000000 0x3ff0000000000000 = true := by kernel_rfl
theorem feq00 : feq 0 0 = true := by kernel_rfl
theorem feq88 : feq 9223372036854775808 9223372036854775808 = true := by kernel_rfl
theorem den_seq {E : Env} {a : SE} {s : ByteArray} (ha : den E a = some (.string s)) : den E (.cmp .eql a a) = some (.bool true) := by
  simp only [den, ha, cmpV, cmpS, Option.map_some]
  simp
noncomputable def preSame (args : List AV) (h : Heap) : Bool := match args with
  | [v, u] => bc (hasTab 4 h) (valK v fun a b c d => valK u fun a' b' c' d' => bc (bc (seEq a a') (seEq b b') false) (bc (bc (seEq c c') (seEq d d') false) (Nat.beq (decX (factsOf h) (.fn 10 (packV a b c d))) 1) false) false) false
  | _ => false
noncomputable def sameVC : Ct := gapC preSame fun _ => [(0, [], .b true)]
theorem sameVC_ok : CtOK P 8 sameVC := by
  refine gapC_ok fun args ARGS E h n w hp ra hr => ?_
  unfold preSame at hp
  split at hp <;> try (cases hp; done)
  rename_i v u
  obtain ⟨ht, hv⟩ := bc_and hp
  obtain ⟨ht, hs⟩ := tableIn_of ht hr
  obtain ⟨V, U, hA, rx, ry⟩ := ra.two
  have hA : ARGS = #[V, U] := by apply Array.ext'; simpa using hA
  subst hA
  obtain ⟨a, b, c, d, k, x, s, m, rfl, q1, q2, q3, q4, da, db, dc, dd, _, hv⟩ := valK_ok hv rx hr
  obtain ⟨a', b', c', d', k', x', s', m', rfl, _, _, _, _, da', db', dc', dd', _, hv⟩ := valK_ok hv ry hr
  obtain ⟨e1, hv⟩ := bc_and hv
  obtain ⟨e1, e2⟩ := bc_and e1
  obtain ⟨e3, hm⟩ := bc_and hv
  obtain ⟨e3, e4⟩ := bc_and e3
  rw [← seEq_ok e1, da] at da'
  rw [← seEq_ok e2, db] at db'
  rw [← seEq_ok e3, dc] at dc'
  rw [← seEq_ok e4, dd] at dd'
  cases da'; cases db'; cases dc'; cases dd'
  have hm := (decX_ok (factsOf_ok hr) (den_may da db dc dd)).1 (Nat.eq_of_beq_eq_true hm)
  have h8 : k ≤ 8 := by
    rcases Int.lt_or_le 8 k with h | h
    · rw [mayV_great h] at hm; cases hm
    · exact h
  obtain ⟨j, rfl⟩ : ∃ j : Nat, k = j := ⟨k.toNat, by omega⟩
  have h2 : j = 2 → feq x x = true := fun hj => by
    subst hj
    unfold mayV at hm
    simp only [Bool.and_eq_true] at hm
    have hm : ((feq x 0x3ff0000000000000 || feq x 0 && mayF x) = true) := by
      have := hm.2
      simp at this
      simpa using this.1.1
    rw [Bool.or_eq_true, Bool.and_eq_true] at hm
    rcases hm with h | ⟨h, _⟩
    · rw [feq_one q2 h]; exact feq11
    · rcases zero_word q2 h with e | e
      · rw [e]; exact feq00
      · rw [e]; exact feq88
  obtain ⟨zs, z1, _, z3⟩ := tab_in ht
  have hd0 := us_den z1 (Us := [.float .f64 x, .string s, .int .i64 m]) 0 rfl (sok_f _)
  have hd1 := us_den z1 (Us := [.float .f64 x, .string s, .int .i64 m]) 1 rfl (sok_s _)
  have fx : Holds (symEV GB 6 (zs.map (Value.int .u64) ++ [.float .f64 x, .string s, .int .i64 m])) (selfF j) := by
    refine holds_cons ?_ ?_
    · exact den_seq hd1
    · split
      · exact holds_cons ((den_feq hd0 hd0).trans (by rw [h2 rfl])) holds_nil
      · exact holds_nil
  have a1 : Rv (symEV GB 6 (zs.map (Value.int .u64) ++ [.float .f64 x, .string s, .int .i64 m])) (.ag (.i .u8 (Int.ofNat j) :: inst vT3 26)) (.agg #[.int .u8 j, .float .f64 x, .string s, .int .i64 m]) := by
    rw [Rv]; exact ⟨_, rfl, rvl_cons (by rw [Rv]; rfl) (args_ok z1 _ vT3 [.float .f64 x, .string s, .int .i64 m] 0 (fun U hU => ok4 (n := 0) U (List.mem_cons_of_mem _ hU)) (fun i U hi => by rw [Nat.zero_add]; exact hi) (four q1 q2 q3 q4).2)⟩
  refine ⟨hs, (runN_ok (Us := [.float .f64 x, .string s, .int .i64 m]) (sameR j (by omega)) z1 rfl (fun _ _ => rfl) (z3 _) fx (rvl_cons a1 (rvl_cons a1 rvl_nil)) hs).mono ?_⟩
  rintro e w' ⟨⟨V, v, h', E', rfl, rv, hf, hk⟩, hb⟩
  obtain rfl := finB_ok hf hk rv
  exact ⟨⟨_, rfl, fun n => ⟨_, List.mem_cons_self, [], rfl, (fun U hU => by cases hU), fun E' _ => ⟨by rw [Rv], holds_nil⟩⟩⟩, hb⟩
end Go.Proofs.YtaecedlhiclkdaaGreat.En
/-! ### A sum: some float, or an error -/
namespace Go.Proofs.YtaecedlhiclkdaaGreat.Ad
open Go Go.RowKit Vx
set_option linter.unusedVariables false
set_option linter.constructorNameAsVariable false
set_option maxRecDepth 100000

abbrev NumOut (w : World) (e : Ending) (w' : World) : Prop :=
  ((∃ z, z < 18446744073709551616 ∧ e = .returned (.tuple #[.float .f64 z, .int .i64 0])) ∨ e = .returned (.tuple #[.float .f64 0, .int .i64 10]) ∨ e = .returned (.tuple #[.float .f64 0, .int .i64 2])) ∧ Below w.heap.size w w'
theorem run_none {x y : Nat} (t : TypeId) (h : FloatKind.f64.format.add x y = none) :
    ∃ f : World → Nat, (∀ w, f w < 18446744073709551616) ∧ ∀ w, (binOp .add t (.float .f64 x) (.float .f64 y)).run Tryz.prog w = .ok (.float .f64 (f w)) w.drew := by
  refine ⟨fun w => (Question.nanBits .f64 x y).cut (w.tape w.drawn (.nanBits .f64 x y)), fun w => (nan_cut _ _ _).2, fun w => ?_⟩
  simp only [binOp, Op.floatArith, h]
  simp [Question.forced]
theorem run_add {x y r : Nat} (t : TypeId) (h : FloatKind.f64.format.add x y = some r) (w : World) : (binOp .add t (.float .f64 x) (.float .f64 y)).run Tryz.prog w = .ok (.float .f64 r) w := run_float_arith w .add t .f64 x y r h
theorem numC (w : World) (hs : 0 < w.heap.size) (z : Nat) (w1 : World) (hz : z < 18446744073709551616) (hb : Below w.heap.size w w1) : Calls Tryz.prog 23 #[.float .f64 z] w1 fun e w' => e = .returned (.bool (mayF z)) ∧ Below w.heap.size w w' :=
  (Con.numMay z w1 hz (by have := hb.size; omega)).mono fun e w' ⟨h, hb'⟩ => ⟨h, hb.trans (hb'.mono hb.size)⟩
theorem doneC (z : Nat) (w : World) (hz : z < 18446744073709551616) (hs : 0 < w.heap.size) : Calls Tryz.prog 58 #[.float .f64 z] w fun e w' => (e = .returned (.tuple #[.float .f64 z, .int .i64 0]) ∨ e = .returned (.tuple #[.float .f64 0, .int .i64 10])) ∧ Below w.heap.size w w' := by
  have cM := Con.numMay z w hz hs
  go_enter Tryz.func58, Tryz.ntmps58
  go_wp2_with (go_at_call 23; refine cM.mono ?_; rintro e w1 ⟨rfl, hw1⟩)
  all_goals first
    | (go_ret2; exact ⟨.inl rfl, hw1⟩)
    | (go_ret2; exact ⟨.inr rfl, hw1⟩)
theorem doneB (w : World) (hs : 0 < w.heap.size) (z : Nat) (w1 : World) (hz : z < 18446744073709551616) (hb : Below w.heap.size w w1) : Calls Tryz.prog 58 #[.float .f64 z] w1 fun e w' => (e = .returned (.tuple #[.float .f64 z, .int .i64 0]) ∨ e = .returned (.tuple #[.float .f64 0, .int .i64 10])) ∧ Below w.heap.size w w' :=
  (doneC z w1 hz (by have := hb.size; omega)).mono fun e w' ⟨h, hb'⟩ => ⟨h, hb.trans (hb'.mono hb.size)⟩
theorem addC (x y : Nat) (w : World) (hx : x < 18446744073709551616) (hy : y < 18446744073709551616) (hs : 0 < w.heap.size) : Calls Tryz.prog 31 #[.float .f64 x, .float .f64 y] w (NumOut w) := by
  have cX := fun w1 h => numC w hs x w1 hx h
  have cY := fun w1 h => numC w hs y w1 hy h
  have cD := fun z w1 hz h => doneB w hs z w1 hz h
  have hb0 : Below w.heap.size w w := Below.refl _ _
  cases mx : mayF x
  · rw [mx] at cX
    go_enter Tryz.func31, Tryz.ntmps31
    go_wp2_with (go_at_call 23; refine (cX _ hb0).mono ?_; rintro e w1 ⟨rfl, hb⟩)
    all_goals (go_ret2; exact ⟨.inr (.inr rfl), hb⟩)
  cases my : mayF y
  · rw [mx] at cX
    rw [my] at cY
    by_cases hxy : x = y
    · rw [hxy, my] at mx; cases mx
    go_enter Tryz.func31, Tryz.ntmps31
    go_wp2_with (first
      | (go_at_call 23; refine (cX _ hb0).mono ?_; rintro e w1 ⟨rfl, hb⟩; clear hb0)
      | (go_at_call 23; refine (cY _ hb).mono ?_; rintro e w2 ⟨rfl, hb2⟩))
    all_goals (go_ret2; exact ⟨.inr (.inr rfl), hb2⟩)
  rw [mx] at cX
  rw [my] at cY
  cases hm : FloatKind.f64.format.add x y with
  | some r =>
    have hr : r < 18446744073709551616 := FloatKind.f64.format.add_lt hm
    have hadd := run_add 22 hm
    go_enter Tryz.func31, Tryz.ntmps31
    go_wp2_with (first
      | (go_at_call 23; refine (cX _ hb0).mono ?_; rintro e w1 ⟨rfl, hb⟩; clear hb0)
      | (go_at_call 23; refine (cY _ hb).mono ?_; rintro e w2 ⟨rfl, hb2⟩)
      | (go_at_call 58; refine (cD r _ hr hb2).mono ?_; rintro e w3 ⟨rfl | rfl, hb3⟩))
    all_goals first
      | (go_ret2; exact ⟨.inl ⟨_, hr, rfl⟩, hb3⟩)
      | (go_ret2; exact ⟨.inr (.inl rfl), hb3⟩)
  | none =>
    obtain ⟨f, hf, hadd⟩ := run_none 22 hm
    go_enter Tryz.func31, Tryz.ntmps31
    go_wp2_with (first
      | (go_at_call 23; refine (cX _ hb0).mono ?_; rintro e w1 ⟨rfl, hb⟩; clear hb0)
      | (go_at_call 23; refine (cY _ hb).mono ?_; rintro e w2 ⟨rfl, hb2⟩)
      | (go_at_call 58; refine (cD (f w2) _ (hf _) hb2.drew).mono ?_; rintro e w3 ⟨rfl | rfl, hb3⟩))
    all_goals first
      | (go_ret2; exact ⟨.inl ⟨_, hf _, rfl⟩, hb3⟩)
      | (go_ret2; exact ⟨.inr (.inl rfl), hb3⟩)
end Go.Proofs.YtaecedlhiclkdaaGreat.Ad
namespace Go.Proofs.YtaecedlhiclkdaaGreat.En
open Go Vx Con RowKit
noncomputable def preFF (args : List AV) (h : Heap) : Bool := match args with
  | [v, u] => bc (hasTab 4 h) (bc (asF v fun _ => true) (asF u fun _ => true) false) false
  | _ => false
noncomputable def altFI (n : Nat) : List Alt := [(2, [], .tu [.x .f (.sy n), .x (.i .i64) (.sy (Nat.succ n))])]
theorem fi_ok {z : Nat} {m : Int} (hz : z < 18446744073709551616) (m1 : IntKind.i64.min ≤ m) (m2 : m ≤ IntKind.i64.max) (n : Nat) : ∃ p ∈ altFI n, ∃ Vs, Vs.length = p.1 ∧ Tells n Vs p.2.1 p.2.2 (.tuple #[.float .f64 z, .int .i64 m]) := by
  refine ⟨_, List.mem_cons_self, [.float .f64 z, .int .i64 m], rfl, (fun U hU => ?_), fun E' hd => ⟨?_, holds_nil⟩⟩
  · simp only [List.mem_cons, List.not_mem_nil, or_false] at hU
    rcases hU with rfl | rfl
    · exact sok_f _
    · exact sok_i _ _
  · show Rv E' (.tu [.x .f (.sy n), .x (.i .i64) (.sy (n + 1))]) _
    rw [Rv]
    exact ⟨_, rfl, rvl_cons (by rw [Rv]; exact ⟨hd 0 _ rfl, z, rfl, hz⟩) (rvl_cons (by rw [Rv]; exact ⟨hd 1 _ rfl, m, rfl, m1, m2⟩) rvl_nil)⟩
noncomputable def addQ : Ct := gapC preFF altFI
theorem addQ_ok : CtOK P 31 addQ := by
  refine gapC_ok fun args ARGS E h n w hp ra hr => ?_
  unfold preFF at hp
  split at hp <;> try (cases hp; done)
  rename_i v u
  obtain ⟨ht, hv⟩ := bc_and hp
  obtain ⟨hv, hu⟩ := bc_and hv
  obtain ⟨_, hs⟩ := tableIn_of ht hr
  obtain ⟨V, U, hA, rx, ry⟩ := ra.two
  have hA : ARGS = #[V, U] := by apply Array.ext'; simpa using hA
  subst hA
  obtain ⟨_, x, rfl, hx, _⟩ := asF_ok hv rx
  obtain ⟨_, y, rfl, hy, _⟩ := asF_ok hu ry
  refine ⟨hs, (Ad.addC x y w hx hy hs).mono ?_⟩
  rintro e w' ⟨⟨z, hz, rfl⟩ | rfl | rfl, hb⟩
  · exact ⟨⟨_, rfl, fi_ok hz (by decide) (by decide)⟩, hb⟩
  · exact ⟨⟨_, rfl, fi_ok (by decide) (by decide) (by decide)⟩, hb⟩
  · exact ⟨⟨_, rfl, fi_ok (by decide) (by decide) (by decide)⟩, hb⟩
noncomputable def SQ : Specs := fun g => match g with
  | 159 => some numC
  | 183 => some textC
  | 209 => some plainC
  | 216 => some joinC
  | 8 => some sameVC
  | 31 => some addQ
  | g => SB g
theorem SQ_ok : SpecOK P SQ := by
  intro g C hC
  unfold SQ at hC
  split at hC
  · cases hC; exact numC_ok
  · cases hC; exact textC_ok
  · cases hC; exact plainC_ok
  · cases hC; exact joinC_ok
  · cases hC; exact sameVC_ok
  · cases hC; exact addQ_ok
  · exact SB_ok _ C hC
end Go.Proofs.YtaecedlhiclkdaaGreat.En
