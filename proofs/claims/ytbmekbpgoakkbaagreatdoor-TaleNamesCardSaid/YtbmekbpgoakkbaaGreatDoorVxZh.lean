/- A descriptor's check as one expression; a bool as a value. No condition. -/
import Derived.Test.YtbmekbpgoakkbaaGreatDoorVxZ
import Derived.Lib.IndexMore
import Derived.Lib.IndexBytes
set_option linter.unusedVariables false
set_option linter.unusedSimpArgs false
set_option linter.constructorNameAsVariable false
set_option linter.unusedSectionVars false
namespace Go.Proofs.YtbmekbpgoakkbaaGreatDoor.Vx
open Go
set_option maxRecDepth 100000

noncomputable def asB (v : AV) (k : SE → Bool) : Bool := match v with
  | .b x => k (.lb x)
  | .x .b e => k e
  | _ => false
theorem asB_ok {E : Env} {v : AV} {V : Value} {k : SE → Bool} (he : asB v k = true) (r : Rv E v V) : ∃ e x, V = .bool x ∧ den E e = some (.bool x) ∧ k e = true := by
  unfold asB at he
  split at he
  · rw [Rv] at r; subst r; exact ⟨_, _, rfl, rfl, he⟩
  · simp only [Rv, hasS] at r
    obtain ⟨hd, n, rfl⟩ := r
    exact ⟨_, _, rfl, hd, he⟩
  · cases he

/-- a bool, as a value -/
noncomputable def boolC : Ct := fun args h nxt k => match args with
  | [.x .b e] => bc (hasSy e) (k (.ag [.i .u8 2, .x .f (.fn 13 e), .s 0 0, .i .i64 0]) h nxt) false
  | _ => false
theorem boolC_ok [JC] {P : Program} {g : FuncId} (H : ∀ (b : Bool) (w : World), 0 < w.heap.size → Calls P g #[.bool b] w fun e w' => e = .returned (.agg #[.int .u8 2, .float .f64 (if b then 0x3ff0000000000000 else 0), .string (str 0 0), .int .i64 0]) ∧ RowKit.Below w.heap.size w w') : CtOK P g boolC := by
  apply ctExpr
  intro args ARGS E h nxt w k he ra hr
  unfold boolC at he
  split at he <;> try (cases he; done)
  obtain ⟨h1, he1⟩ := bc_and he
  obtain ⟨X, hA, rx⟩ := ra.one
  have hA : ARGS = #[X] := by apply Array.ext'; simpa using hA
  subst hA
  simp only [Rv, hasS] at rx
  obtain ⟨da, x, rfl⟩ := rx
  refine ⟨_, h, _, he1, ?_, hr, Fk.refl h, H x w (hr.size_pos h1 da)⟩
  refine rv_ag (rvl_cons (by rw [Rv]) (rvl_cons ?_ (rvl_cons (by rw [Rv]) (rvl_cons (by rw [Rv]) rvl_nil))))
  rw [Rv]
  exact ⟨den_fn da rfl, _, rfl, by cases x <;> decide⟩

/-- a run that hands back what is written out -/
theorem sameRun {P : Program} {call : CallF} (hc : CallOK P call) {g : FuncId} {args : List AV} {ARGS : Array Value} {x : AV} (ra : RvL (symEV [] 1 []) args ARGS.toList) (hx : ∀ u, x ≠ .pk u)
    (he : setF [] (startH [] 1) (fun h => call g args h 1 (fun v _ _ => sameT v x)) = true) (w : World) (hs : 0 < w.heap.size) :
    Calls P g ARGS w fun e w' => ∃ V E, e = .returned V ∧ Rv E x V ∧ RowKit.Below w.heap.size w w' := by
  refine (closedX (fin := fun v _ => sameT v x) (Ls := []) hc rfl rfl rfl rfl (fun L hL => by cases hL) holds_nil ra ?_ he w hs (fun p hp => by cases hp)).mono ?_
  · intro v h
    cases hh : sameT (.pk v) x
    · rfl
    · exact absurd (sameT_ok hh).symm (hx v)
  · rintro e w' ⟨V, v, h', E', n', rfl, rv, hr', hle, hk, hb⟩
    obtain rfl := sameT_ok hk
    exact ⟨V, E', rfl, rv, hb⟩
theorem boolRun {P : Program} {call : CallF} (hc : CallOK P call) {g : FuncId} (h1 : setF [] (startH [] 1) (fun h => call g [.b true] h 1 (fun v _ _ => sameT v (.ag [.i .u8 2, .f .f64 0x3ff0000000000000, .s 0 0, .i .i64 0]))) = true)
    (h0 : setF [] (startH [] 1) (fun h => call g [.b false] h 1 (fun v _ _ => sameT v (.ag [.i .u8 2, .f .f64 0, .s 0 0, .i .i64 0]))) = true) (b : Bool) (w : World) (hs : 0 < w.heap.size) :
    Calls P g #[.bool b] w fun e w' => e = .returned (.agg #[.int .u8 2, .float .f64 (if b then 0x3ff0000000000000 else 0), .string (str 0 0), .int .i64 0]) ∧ RowKit.Below w.heap.size w w' := by
  have key : ∀ z E V, Rv E (.ag [.i .u8 2, .f .f64 z, .s 0 0, .i .i64 0]) V → V = .agg #[.int .u8 2, .float .f64 z, .string (str 0 0), .int .i64 0] := fun z E V r => by
    obtain ⟨A, B, C, D, rfl, ra, rb, rc, rd⟩ := rv_four r
    simp only [Rv] at ra rb rc rd
    subst ra rb rc rd; rfl
  cases b
  · refine (sameRun hc (rvl_cons (by rw [Rv]) rvl_nil) (fun u h => by cases h) h0 w hs).mono ?_
    rintro e w' ⟨V, E, rfl, rv, hb⟩
    exact ⟨by rw [key _ _ _ rv]; rfl, hb⟩
  · refine (sameRun hc (rvl_cons (by rw [Rv]) rvl_nil) (fun u h => by cases h) h1 w hs).mono ?_
    rintro e w' ⟨V, E, rfl, rv, hb⟩
    exact ⟨by rw [key _ _ _ rv]; rfl, hb⟩

/-! ### A descriptor -/
noncomputable def packE : List SE → SE
  | [] => .lb false
  | [a] => a
  | a :: b :: l => .fn2 0 a (packE (b :: l))
noncomputable def specD (c : Nat) (v1 b1 b2 c2 b3 c3 w e f : SE) : SE :=
  .and (.lb (Nat.ble c 63)) (.and (.lb (!((hasB c 1 || hasB c 2) && (hasB c 4 || hasB c 8)))) (.and (if hasB c 1 then v1 else b1) (.and (if hasB c 4 then c2 else b2) (.and (if hasB c 8 then c3 else b3)
    (.and (seOr (.not w) (.lb (hasB c 2))) (.and (seOr (.not e) (.lb (hasB c 16))) (seOr (.not f) (.lb (hasB c 32)))))))))
theorem den_ite {E : Env} {b : Bool} {x y : SE} {p q : Bool} (hx : den E x = some (.bool p)) (hy : den E y = some (.bool q)) : den E (if b then x else y) = some (.bool (if b then p else q)) := by cases b <;> simp [hx, hy]
theorem den_specD {E : Env} {c : Nat} {v1 b1 b2 c2 b3 c3 w e f : SE} {V1 B1 B2 C2 B3 C3 W F G : Bool} (h1 : den E v1 = some (.bool V1)) (h2 : den E b1 = some (.bool B1)) (h3 : den E b2 = some (.bool B2)) (h4 : den E c2 = some (.bool C2)) (h5 : den E b3 = some (.bool B3)) (h6 : den E c3 = some (.bool C3))
    (h7 : den E w = some (.bool W)) (h8 : den E e = some (.bool F)) (h9 : den E f = some (.bool G)) : den E (specD c v1 b1 b2 c2 b3 c3 w e f) = some (.bool (chkV c V1 B1 B2 C2 B3 C3 W F G)) := by
  unfold specD chkV
  exact den_and rfl (den_and rfl (den_and (den_ite h1 h2) (den_and (den_ite h4 h3) (den_and (den_ite h6 h5) (den_and (den_or (den_not h7) rfl) (den_and (den_or (den_not h8) rfl) (den_or (den_not h9) rfl)))))))
noncomputable def calledS (a b c d : SE) : SE := .and (.fn 10 (packV a b c d)) (seOr (.cmp .eql a (.li .u8 0)) (seOr (.cmp .eql a (.li .u8 7)) (.cmp .eql a (.li .u8 8))))
theorem den_called {E : Env} {a b c d : SE} {n r : Int} {x : Nat} {s : ByteArray} (ha : den E a = some (.int .u8 n)) (hb : den E b = some (.float .f64 x)) (hc : den E c = some (.string s)) (hd : den E d = some (.int .i64 r)) :
    den E (calledS a b c d) = some (.bool (calledV n x s r)) := den_and (den_may ha hb hc hd) (den_or (fact_eq ha) (den_or (fact_eq ha) (fact_eq ha)))
theorem den_bare {E : Env} {a b c d : SE} {n r : Int} {x : Nat} {s : ByteArray} (ha : den E a = some (.int .u8 n)) (hb : den E b = some (.float .f64 x)) (hc : den E c = some (.string s)) (hd : den E d = some (.int .i64 r)) :
    den E (bareS a b c d) = some (.bool (bareV n x s r)) := den_and (den_may ha hb hc hd) (den_and (fact_eq ha) (den_and (den_feq hb rfl) (den_and (den_empty hc) (fact_eq hd))))

def kindsD : List TypeDesc := [.int .u8, .int .u8, .float .f64, .string, .int .i64, .int .u8, .float .f64, .string, .int .i64, .int .u8, .float .f64, .string, .int .i64, .bool, .bool, .bool]
/-- a descriptor's cells -/
structure DescV where
  c : Int
  n1 : Int
  x1 : Nat
  s1 : ByteArray
  r1 : Int
  n2 : Int
  x2 : Nat
  s2 : ByteArray
  r2 : Int
  n3 : Int
  x3 : Nat
  s3 : ByteArray
  r3 : Int
  w : Bool
  e : Bool
  f : Bool
def DescV.cells (d : DescV) : List Value := [.int .u8 d.c, .int .u8 d.n1, .float .f64 d.x1, .string d.s1, .int .i64 d.r1, .int .u8 d.n2, .float .f64 d.x2, .string d.s2, .int .i64 d.r2, .int .u8 d.n3, .float .f64 d.x3, .string d.s3, .int .i64 d.r3, .bool d.w, .bool d.e, .bool d.f]
/-- the symbols' values: all cells but the first -/
def DescV.syms (d : DescV) : List Value := [.int .u8 d.n1, .float .f64 d.x1, .string d.s1, .int .i64 d.r1, .int .u8 d.n2, .float .f64 d.x2, .string d.s2, .int .i64 d.r2, .int .u8 d.n3, .float .f64 d.x3, .string d.s3, .int .i64 d.r3, symOf (.bool d.w), symOf (.bool d.e), symOf (.bool d.f)]
def DescV.chk (d : DescV) : Bool := chkV d.c.toNat (mayV d.n1 d.x1 d.s1 d.r1) (bareV d.n1 d.x1 d.s1 d.r1) (bareV d.n2 d.x2 d.s2 d.r2) (calledV d.n2 d.x2 d.s2 d.r2) (bareV d.n3 d.x3 d.s3 d.r3) (calledV d.n3 d.x3 d.s3 d.r3) d.w d.e d.f
structure DescV.ok (d : DescV) : Prop where
  c : 0 ≤ d.c ∧ d.c ≤ 255
  n1 : 0 ≤ d.n1 ∧ d.n1 ≤ 255
  x1 : d.x1 < 18446744073709551616
  s1 : (d.s1.size : Int) ≤ 9223372036854775807
  r1 : -9223372036854775808 ≤ d.r1 ∧ d.r1 ≤ 9223372036854775807
  n2 : 0 ≤ d.n2 ∧ d.n2 ≤ 255
  x2 : d.x2 < 18446744073709551616
  s2 : (d.s2.size : Int) ≤ 9223372036854775807
  r2 : -9223372036854775808 ≤ d.r2 ∧ d.r2 ≤ 9223372036854775807
  n3 : 0 ≤ d.n3 ∧ d.n3 ≤ 255
  x3 : d.x3 < 18446744073709551616
  s3 : (d.s3.size : Int) ≤ 9223372036854775807
  r3 : -9223372036854775808 ≤ d.r3 ∧ d.r3 ≤ 9223372036854775807
theorem all2_cons {α β : Type} {R : α → β → Prop} {a : α} {as : List α} {bs : List β} (h : All2 R (a :: as) bs) : ∃ b bs', bs = b :: bs' ∧ R a b ∧ All2 R as bs' := by
  cases bs with
  | nil => exact h.elim
  | cons b bs => exact ⟨b, bs, rfl, h.1, h.2⟩
theorem open_desc {cs : List Value} (h : All2 leafOk kindsD cs) : ∃ d : DescV, d.ok ∧ cs = d.cells := by
  have st : ∀ {s : ByteArray}, s.size ≤ maxLen → (s.size : Int) ≤ 9223372036854775807 := fun {s} h => by have : s.size ≤ 9223372036854775807 := h; omega
  obtain ⟨v0, cs1, e0, hv0, h1⟩ := all2_cons h
  obtain ⟨c, rfl, hc⟩ := hv0
  obtain ⟨v1, cs2, e1, hv1, h2⟩ := all2_cons h1
  obtain ⟨n1, rfl, hn1⟩ := hv1
  obtain ⟨v2, cs3, e2, hv2, h3⟩ := all2_cons h2
  obtain ⟨x1, rfl, hx1⟩ := hv2
  obtain ⟨v3, cs4, e3, hv3, h4⟩ := all2_cons h3
  obtain ⟨s1, rfl, hs1⟩ := hv3
  obtain ⟨v4, cs5, e4, hv4, h5⟩ := all2_cons h4
  obtain ⟨r1, rfl, hr1⟩ := hv4
  obtain ⟨v5, cs6, e5, hv5, h6⟩ := all2_cons h5
  obtain ⟨n2, rfl, hn2⟩ := hv5
  obtain ⟨v6, cs7, e6, hv6, h7⟩ := all2_cons h6
  obtain ⟨x2, rfl, hx2⟩ := hv6
  obtain ⟨v7, cs8, e7, hv7, h8⟩ := all2_cons h7
  obtain ⟨s2, rfl, hs2⟩ := hv7
  obtain ⟨v8, cs9, e8, hv8, h9⟩ := all2_cons h8
  obtain ⟨r2, rfl, hr2⟩ := hv8
  obtain ⟨v9, cs10, e9, hv9, h10⟩ := all2_cons h9
  obtain ⟨n3, rfl, hn3⟩ := hv9
  obtain ⟨v10, cs11, e10, hv10, h11⟩ := all2_cons h10
  obtain ⟨x3, rfl, hx3⟩ := hv10
  obtain ⟨v11, cs12, e11, hv11, h12⟩ := all2_cons h11
  obtain ⟨s3, rfl, hs3⟩ := hv11
  obtain ⟨v12, cs13, e12, hv12, h13⟩ := all2_cons h12
  obtain ⟨r3, rfl, hr3⟩ := hv12
  obtain ⟨v13, cs14, e13, hv13, h14⟩ := all2_cons h13
  obtain ⟨w, rfl⟩ := hv13
  obtain ⟨v14, cs15, e14, hv14, h15⟩ := all2_cons h14
  obtain ⟨e, rfl⟩ := hv14
  obtain ⟨v15, cs16, e15, hv15, h16⟩ := all2_cons h15
  obtain ⟨f, rfl⟩ := hv15
  have e16 : cs16 = [] := by cases cs16 with | nil => rfl | cons => exact h16.elim
  refine ⟨⟨c, n1, x1, s1, r1, n2, x2, s2, r2, n3, x3, s3, r3, w, e, f⟩, ⟨wf_int hc, wf_int hn1, wf_f64 hx1, st hs1, wf_int hr1, wf_int hn2, wf_f64 hx2, st hs2, wf_int hr2, wf_int hn3, wf_f64 hx3, st hs3, wf_int hr3⟩, ?_⟩
  rw [e0, e1, e2, e3, e4, e5, e6, e7, e8, e9, e10, e11, e12, e13, e14, e15, e16]; rfl
theorem DescV.leaves {d : DescV} (h : d.ok) : RvL (symEV [] 1 d.syms) (.i .u8 d.c :: leafAVs kindsD.tail 1) d.cells := by
  have bl : ∀ (b : Bool) (j : Nat), d.syms[j]? = some (symOf (.bool b)) → Rv (symEV [] 1 d.syms) (.x .b (.cmp .eql (.sy (1 + j)) (.li .u8 1))) (.bool b) := fun b j hj => by
    rw [Rv]
    refine ⟨?_, _, rfl⟩
    rw [fact_eq (den_sym (gl := []) (n0 := 1) j hj (sok_i _ _))]
    cases b <;> rfl
  have bi : ∀ (k : IntKind) (n : Int) (j : Nat), d.syms[j]? = some (.int k n) → k.min ≤ n ∧ n ≤ k.max → Rv (symEV [] 1 d.syms) (.x (.i k) (.sy (1 + j))) (.int k n) := fun k n j hj hn => rv_sym (s := .i k) j hj (sok_i _ _) ⟨_, rfl, hn⟩
  have bf : ∀ (n : Nat) (j : Nat), d.syms[j]? = some (.float .f64 n) → n < 18446744073709551616 → Rv (symEV [] 1 d.syms) (.x .f (.sy (1 + j))) (.float .f64 n) := fun n j hj hn => rv_sym (s := .f) j hj (sok_f _) ⟨_, rfl, hn⟩
  have bs : ∀ (n : ByteArray) (j : Nat), d.syms[j]? = some (.string n) → (n.size : Int) ≤ 9223372036854775807 → Rv (symEV [] 1 d.syms) (.x .s (.sy (1 + j))) (.string n) := fun n j hj hn => rv_sym (s := .s) j hj (sok_s _) ⟨_, rfl, hn⟩
  refine rvl_cons (by rw [Rv]) ?_
  refine rvl_cons (bi _ _ 0 rfl h.n1) ?_
  refine rvl_cons (bf _ 1 rfl h.x1) ?_
  refine rvl_cons (bs _ 2 rfl h.s1) ?_
  refine rvl_cons (bi _ _ 3 rfl h.r1) ?_
  refine rvl_cons (bi _ _ 4 rfl h.n2) ?_
  refine rvl_cons (bf _ 5 rfl h.x2) ?_
  refine rvl_cons (bs _ 6 rfl h.s2) ?_
  refine rvl_cons (bi _ _ 7 rfl h.r2) ?_
  refine rvl_cons (bi _ _ 8 rfl h.n3) ?_
  refine rvl_cons (bf _ 9 rfl h.x3) ?_
  refine rvl_cons (bs _ 10 rfl h.s3) ?_
  refine rvl_cons (bi _ _ 11 rfl h.r3) ?_
  refine rvl_cons (bl _ 12 rfl) ?_
  refine rvl_cons (bl _ 13 rfl) ?_
  exact rvl_cons (bl _ 14 rfl) rvl_nil
noncomputable def specL (c : Nat) : SE := specD c (.fn 10 (packV (.sy 1) (.sy 2) (.sy 3) (.sy 4))) (bareS (.sy 1) (.sy 2) (.sy 3) (.sy 4)) (bareS (.sy 5) (.sy 6) (.sy 7) (.sy 8)) (calledS (.sy 5) (.sy 6) (.sy 7) (.sy 8)) (bareS (.sy 9) (.sy 10) (.sy 11) (.sy 12)) (calledS (.sy 9) (.sy 10) (.sy 11) (.sy 12))
  (.cmp .eql (.sy 13) (.li .u8 1)) (.cmp .eql (.sy 14) (.li .u8 1)) (.cmp .eql (.sy 15) (.li .u8 1))
theorem DescV.den_spec (d : DescV) {c : Nat} (hc : d.c = c) : den (symEV [] 1 d.syms) (specL c) = some (.bool d.chk) := by
  have i : ∀ {j : Nat} {k : IntKind} {n : Int}, d.syms[j]? = some (.int k n) → den (symEV [] 1 d.syms) (.sy (1 + j)) = some (.int k n) := fun h => den_sym _ h (sok_i _ _)
  have g : ∀ {j : Nat} {n : Nat}, d.syms[j]? = some (.float .f64 n) → den (symEV [] 1 d.syms) (.sy (1 + j)) = some (.float .f64 n) := fun h => den_sym _ h (sok_f _)
  have t : ∀ {j : Nat} {n : ByteArray}, d.syms[j]? = some (.string n) → den (symEV [] 1 d.syms) (.sy (1 + j)) = some (.string n) := fun h => den_sym _ h (sok_s _)
  have b : ∀ {j : Nat} {x : Bool}, d.syms[j]? = some (symOf (.bool x)) → den (symEV [] 1 d.syms) (.cmp .eql (.sy (1 + j)) (.li .u8 1)) = some (.bool x) := fun {j x} h => by
    rw [fact_eq (den_sym (gl := []) (n0 := 1) j h (sok_i _ _))]; cases x <;> rfl
  have e : d.chk = chkV c (mayV d.n1 d.x1 d.s1 d.r1) (bareV d.n1 d.x1 d.s1 d.r1) (bareV d.n2 d.x2 d.s2 d.r2) (calledV d.n2 d.x2 d.s2 d.r2) (bareV d.n3 d.x3 d.s3 d.r3) (calledV d.n3 d.x3 d.s3 d.r3) d.w d.e d.f := by
    unfold DescV.chk; rw [hc]; rfl
  rw [e]
  have a1 := i (j := 0) (show d.syms[0]? = some (.int .u8 d.n1) from rfl)
  have a2 := g (j := 1) (show d.syms[1]? = some (.float .f64 d.x1) from rfl)
  have a3 := t (j := 2) (show d.syms[2]? = some (.string d.s1) from rfl)
  have a4 := i (j := 3) (show d.syms[3]? = some (.int .i64 d.r1) from rfl)
  have b1 := i (j := 4) (show d.syms[4]? = some (.int .u8 d.n2) from rfl)
  have b2 := g (j := 5) (show d.syms[5]? = some (.float .f64 d.x2) from rfl)
  have b3 := t (j := 6) (show d.syms[6]? = some (.string d.s2) from rfl)
  have b4 := i (j := 7) (show d.syms[7]? = some (.int .i64 d.r2) from rfl)
  have c1 := i (j := 8) (show d.syms[8]? = some (.int .u8 d.n3) from rfl)
  have c2 := g (j := 9) (show d.syms[9]? = some (.float .f64 d.x3) from rfl)
  have c3 := t (j := 10) (show d.syms[10]? = some (.string d.s3) from rfl)
  have c4 := i (j := 11) (show d.syms[11]? = some (.int .i64 d.r3) from rfl)
  exact den_specD (den_may a1 a2 a3 a4) (den_bare a1 a2 a3 a4) (den_bare b1 b2 b3 b4) (den_called b1 b2 b3 b4) (den_bare c1 c2 c3 c4) (den_called c1 c2 c3 c4)
    (b (j := 12) (x := d.w) rfl) (b (j := 13) (x := d.e) rfl) (b (j := 14) (x := d.f) rfl)

/-- the end of a check: no error just where the expression is true -/
noncomputable def finE (spec : SE) (v : AV) (h : Heap) : Bool := match v with
  | .i .i64 (.ofNat 0) => d3 (decX (factsOf h) spec) false true false
  | .i .i64 (.ofNat 90) => d3 (decX (factsOf h) spec) false false true
  | _ => false
theorem errRun {P : Program} {call : CallF} (hc : CallOK P call) {Vs : List Value} {fs : Facts} {g : FuncId} {args : List AV} {ARGS : Array Value} {nn : Nat} {spec : SE} {b : Bool}
    (hnn : 1 + Vs.length = nn) (hf : Holds (symEV [] 1 Vs) fs) (ra : RvL (symEV [] 1 Vs) args ARGS.toList) (hd : den (symEV [] 1 Vs) spec = some (.bool b))
    (he : setF fs (startH [] 1) (fun h => call g args h nn (fun v h _ => finE spec v h)) = true) (w : World) (hs : 0 < w.heap.size) :
    Calls P g ARGS w fun e w' => e = .returned (.int .i64 (if b then 0 else 90)) ∧ RowKit.Below w.heap.size w w' := by
  refine (closedX hc rfl rfl (List.length_map _) hnn (fun L hL => by obtain ⟨V, _, rfl⟩ := List.mem_map.1 hL; exact spot_blk V) hf ra (fun v h => rfl) he w hs (fun p hp => by cases hp)).mono ?_
  rintro e w' ⟨V, v, h', E', n', rfl, rv, hr', hle, hk, hb⟩
  have hd' := den_mono hle _ _ hd
  have hdx := decX_ok (factsOf_ok hr') hd'
  refine ⟨?_, hb⟩
  congr 1
  unfold finE at hk
  split at hk
  · rw [Rv] at rv; subst rv
    match hdd : decX (factsOf h') spec with
    | 0 => rw [hdd] at hk; cases hk
    | 1 => rw [hdx.1 hdd]; rfl
    | n + 2 => rw [hdd] at hk; cases hk
  · rw [Rv] at rv; subst rv
    match hdd : decX (factsOf h') spec with
    | 0 => rw [hdd] at hk; cases hk
    | 1 => rw [hdd] at hk; cases hk
    | n + 2 => rw [hdx.2 (by omega)]; rfl
  · cases hk

/-- the check as a contract -/
noncomputable def descK (v : AV) (k : SE → Bool) : Bool := match v with
  | .ag [a0, a1, a2, a3, a4, a5, a6, a7, a8, a9, a10, a11, a12, a13, a14, a15] =>
    asI .u8 a0 fun a0 => asI .u8 a1 fun a1 => asF a2 fun a2 => asS a3 fun a3 => asI .i64 a4 fun a4 => asI .u8 a5 fun a5 => asF a6 fun a6 => asS a7 fun a7 => asI .i64 a8 fun a8 =>
    asI .u8 a9 fun a9 => asF a10 fun a10 => asS a11 fun a11 => asI .i64 a12 fun a12 => asB a13 fun a13 => asB a14 fun a14 => asB a15 fun a15 =>
    bc (hasSy (packE [a0, a1, a2, a3, a4, a5, a6, a7, a8, a9, a10, a11, a12, a13, a14, a15])) (k (.fn 14 (packE [a0, a1, a2, a3, a4, a5, a6, a7, a8, a9, a10, a11, a12, a13, a14, a15]))) false
  | _ => false
theorem unpackV_pack (n : Nat) (a b : Value) : unpackV (n + 1) (.agg #[a, b]) = a :: unpackV n b := rfl
theorem descK_ok {E : Env} {h : Heap} {nxt : Nat} {w : World} {v : AV} {V : Value} {k : SE → Bool} (he : descK v k = true) (r : Rv E v V) (hr : HR E h nxt w) :
    ∃ (d : DescV) (e : SE), d.ok ∧ V = .agg d.cells.toArray ∧ den E e = some (.bool d.chk) ∧ 0 < w.heap.size ∧ k e = true := by
  unfold descK at he
  split at he <;> try (cases he; done)
  rw [Rv] at r
  obtain ⟨vs, rfl, r⟩ := r
  simp only [RvL] at r
  obtain ⟨A0, _, rfl, r0, A1, _, rfl, r1, A2, _, rfl, r2, A3, _, rfl, r3, A4, _, rfl, r4, A5, _, rfl, r5, A6, _, rfl, r6, A7, _, rfl, r7, A8, _, rfl, r8, A9, _, rfl, r9, A10, _, rfl, r10, A11, _, rfl, r11, A12, _, rfl, r12, A13, _, rfl, r13, A14, _, rfl, r14, A15, _, rfl, r15, rfl⟩ := r
  obtain ⟨a0, c, rfl, c1, c2, d0, he⟩ := asI_ok he r0
  obtain ⟨a1, n1, rfl, n11, n12, d1, he⟩ := asI_ok he r1
  obtain ⟨a2, x1, rfl, x11, d2, he⟩ := asF_ok he r2
  obtain ⟨a3, s1, rfl, s11, d3, he⟩ := asS_ok he r3
  obtain ⟨a4, m1, rfl, m11, m12, d4, he⟩ := asI_ok he r4
  obtain ⟨a5, n2, rfl, n21, n22, d5, he⟩ := asI_ok he r5
  obtain ⟨a6, x2, rfl, x21, d6, he⟩ := asF_ok he r6
  obtain ⟨a7, s2, rfl, s21, d7, he⟩ := asS_ok he r7
  obtain ⟨a8, m2, rfl, m21, m22, d8, he⟩ := asI_ok he r8
  obtain ⟨a9, n3, rfl, n31, n32, d9, he⟩ := asI_ok he r9
  obtain ⟨a10, x3, rfl, x31, d10, he⟩ := asF_ok he r10
  obtain ⟨a11, s3, rfl, s31, d11, he⟩ := asS_ok he r11
  obtain ⟨a12, m3, rfl, m31, m32, d12, he⟩ := asI_ok he r12
  obtain ⟨a13, w1, rfl, d13, he⟩ := asB_ok he r13
  obtain ⟨a14, w2, rfl, d14, he⟩ := asB_ok he r14
  obtain ⟨a15, w3, rfl, d15, he⟩ := asB_ok he r15
  obtain ⟨h1, he⟩ := bc_and he
  have dp : den E (packE [a0, a1, a2, a3, a4, a5, a6, a7, a8, a9, a10, a11, a12, a13, a14, a15]) = some (.agg #[.int .u8 c, .agg #[.int .u8 n1, .agg #[.float .f64 x1, .agg #[.string s1, .agg #[.int .i64 m1, .agg #[.int .u8 n2, .agg #[.float .f64 x2, .agg #[.string s2, .agg #[.int .i64 m2, .agg #[.int .u8 n3, .agg #[.float .f64 x3, .agg #[.string s3, .agg #[.int .i64 m3, .agg #[.bool w1, .agg #[.bool w2, .bool w3]]]]]]]]]]]]]]]) := by
    simp only [packE, den, d0, d1, d2, d3, d4, d5, d6, d7, d8, d9, d10, d11, d12, d13, d14, d15, apf2]
  refine ⟨⟨c, n1, x1, s1, m1, n2, x2, s2, m2, n3, x3, s3, m3, w1, w2, w3⟩, _, ⟨⟨c1, c2⟩, ⟨n11, n12⟩, x11, s11, ⟨m11, m12⟩, ⟨n21, n22⟩, x21, s21, ⟨m21, m22⟩, ⟨n31, n32⟩, x31, s31, ⟨m31, m32⟩⟩, rfl, ?_, hr.size_pos h1 dp, he⟩
  exact den_fn dp rfl
def OfDesc (P : Program) (g : FuncId) : Prop := ∀ (d : DescV) (w : World), d.ok → 0 < w.heap.size → Calls P g #[.agg d.cells.toArray] w fun e w' => e = .returned (.int .i64 (if d.chk then 0 else 90)) ∧ RowKit.Below w.heap.size w w'
/-- for all numbers from one on -/
def AllFrom (p : Nat → Prop) : Nat → Nat → Prop
  | _, 0 => True
  | i, n + 1 => p i ∧ AllFrom p (i + 1) n
theorem AllFrom.get {p : Nat → Prop} : ∀ {i n : Nat}, AllFrom p i n → ∀ k, i ≤ k → k < i + n → p k
  | i, 0, _, k, h1, h2 => absurd h2 (by omega)
  | i, n + 1, h, k, h1, h2 => by
    by_cases e : k = i
    · subst e; exact h.1
    · exact h.2.get k (by omega) (by omega)
theorem AllFrom.append {p : Nat → Prop} : ∀ {i n m : Nat}, AllFrom p i n → AllFrom p (i + n) m → AllFrom p i (m + n)
  | i, 0, m, _, k => k
  | i, n + 1, m, h, k => ⟨h.1, h.2.append (by rw [show i + 1 + n = i + (n + 1) by omega]; exact k)⟩
noncomputable def D (call : CallF) (g : FuncId) (c : Nat) : Bool := setF [] (startH [] 1) (fun h => call g [.ag (.i .u8 (Int.ofNat c) :: leafAVs kindsD.tail 1)] h 16 (fun v h _ => finE (specL c) v h))
theorem ofDesc {P : Program} {call : CallF} (hc : CallOK P call) {g : FuncId} (H : ∀ c, c < 256 → D call g c = true) : OfDesc P g := by
  intro d w hd hs
  obtain ⟨c, hc'⟩ : ∃ c : Nat, d.c = c := ⟨d.c.toNat, by have := hd.c; omega⟩
  have hlt : c < 256 := by have := hd.c; omega
  have hl := DescV.leaves hd
  rw [hc'] at hl
  refine errRun hc (Vs := d.syms) rfl holds_nil (rvl_cons (rv_ag hl) rvl_nil) (d.den_spec hc') (H c hlt) w hs
noncomputable def chkC : Ct := fun args h nxt k => match args with
  | [v] => descK v fun e => forkK e (factsOf h) (fun fs => setF fs h fun h1 => k (.i .i64 0) h1 nxt) (fun fs => setF fs h fun h1 => k (.i .i64 90) h1 nxt)
  | _ => false
theorem chkC_ok [JC] {P : Program} {g : FuncId} (H : OfDesc P g) : CtOK P g chkC := by
  apply ctExpr
  intro args ARGS E h nxt w k he ra hr
  unfold chkC at he
  split at he <;> try (cases he; done)
  obtain ⟨V, hA, rx⟩ := ra.one
  have hA : ARGS = #[V] := by apply Array.ext'; simpa using hA
  subst hA
  obtain ⟨d, e, hd, rfl, de, hs, he⟩ := descK_ok he rx hr
  obtain ⟨fs, hf, hx⟩ := forkK_ok e he (factsOf_ok hr) de
  have hc := H d w hd hs
  rcases hx with ⟨hb, hx⟩ | ⟨hb, hx⟩
  · obtain ⟨h1, k1, k2, k3⟩ := setF_ok hx hr hf
    exact ⟨_, h1, _, k1, by rw [Rv], k2, k3, by rw [hb] at hc; exact hc⟩
  · obtain ⟨h1, k1, k2, k3⟩ := setF_ok hx hr hf
    exact ⟨_, h1, _, k1, by rw [Rv], k2, k3, by rw [hb] at hc; exact hc⟩
end Go.Proofs.YtbmekbpgoakkbaaGreatDoor.Vx
set_option linter.unusedVariables false
set_option linter.unusedSimpArgs false
set_option linter.constructorNameAsVariable false
set_option linter.unusedSectionVars false
namespace Go.Proofs.YtbmekbpgoakkbaaGreatDoor.Vx
open Go
set_option maxRecDepth 100000

/-- the kinds by forms: 0 undefined, 1 null, 2 false, 3 true, 4 a number, 5 a string, 6 a symbol, 7, 8, 9 objects -/
def formKind (i : Nat) : Int := match i with
  | 0 => 0 | 1 => 1 | 2 => 2 | 3 => 2 | 4 => 3 | 5 => 4 | 6 => 5 | 7 => 6 | 8 => 7 | _ => 8
noncomputable def formAV (i n : Nat) : AV := match i with
  | 0 => .ag [.i .u8 0, .f .f64 0, .s 0 0, .i .i64 0]
  | 1 => .ag [.i .u8 1, .f .f64 0, .s 0 0, .i .i64 0]
  | 2 => .ag [.i .u8 2, .f .f64 0, .s 0 0, .i .i64 0]
  | 3 => .ag [.i .u8 2, .f .f64 0x3ff0000000000000, .s 0 0, .i .i64 0]
  | 4 => .ag [.i .u8 3, .x .f (.sy n), .s 0 0, .i .i64 0]
  | 5 => .ag [.i .u8 4, .f .f64 0, .x .s (.sy n), .i .i64 0]
  | 6 => .ag [.i .u8 5, .f .f64 0, .s 0 0, .x (.i .i64) (.sy n)]
  | 7 => .ag [.i .u8 6, .f .f64 0, .s 0 0, .x (.i .i64) (.sy n)]
  | 8 => .ag [.i .u8 7, .f .f64 0, .s 0 0, .x (.i .i64) (.sy n)]
  | _ => .ag [.i .u8 8, .f .f64 0, .s 0 0, .x (.i .i64) (.sy n)]
/-- what is known of the symbol -/
noncomputable def formFs (i n : Nat) : Facts := match i with
  | 4 => [(.fn 10 (packV (.li .u8 3) (.sy n) (.ls 0 0) (.li .i64 0)), true), (.fn 7 (.sy n), true)]
  | 5 => [(.fn 10 (packV (.li .u8 4) (.lf 0) (.sy n) (.li .i64 0)), true), (.cmp .leq (.len (.sy n)) (.li .i64 4096), true)]
  | 6 => [(.fn 10 (packV (.li .u8 5) (.lf 0) (.ls 0 0) (.sy n)), true), (.cmp .leq (.sy n) (.li .i64 (-1)), false)]
  | 7 => [(.fn 10 (packV (.li .u8 6) (.lf 0) (.ls 0 0) (.sy n)), true), (.cmp .leq (.sy n) (.li .i64 (-1)), false)]
  | 8 => [(.fn 10 (packV (.li .u8 7) (.lf 0) (.ls 0 0) (.sy n)), true), (.cmp .leq (.sy n) (.li .i64 (-1)), false)]
  | 9 => [(.fn 10 (packV (.li .u8 8) (.lf 0) (.ls 0 0) (.sy n)), true), (.cmp .leq (.sy n) (.li .i64 (-1)), false)]
  | _ => []
/-- what the symbol stands for -/
def formOK (i : Nat) (S : Value) (V : Value) : Prop := match i with
  | 0 => S = .int .u8 0 ∧ V = .agg #[.int .u8 0, .float .f64 0, .string (str 0 0), .int .i64 0]
  | 1 => S = .int .u8 0 ∧ V = .agg #[.int .u8 1, .float .f64 0, .string (str 0 0), .int .i64 0]
  | 2 => S = .int .u8 0 ∧ V = .agg #[.int .u8 2, .float .f64 0, .string (str 0 0), .int .i64 0]
  | 3 => S = .int .u8 0 ∧ V = .agg #[.int .u8 2, .float .f64 0x3ff0000000000000, .string (str 0 0), .int .i64 0]
  | 4 => ∃ x, S = .float .f64 x ∧ x < 18446744073709551616 ∧ mayF x = true ∧ V = .agg #[.int .u8 3, .float .f64 x, .string (str 0 0), .int .i64 0]
  | 5 => ∃ s : ByteArray, S = .string s ∧ s.size ≤ 4096 ∧ V = .agg #[.int .u8 4, .float .f64 0, .string s, .int .i64 0]
  | i => ∃ r : Int, i ≤ 9 ∧ S = .int .i64 r ∧ (0 ≤ r ∧ r ≤ 9223372036854775807) ∧ V = .agg #[.int .u8 (formKind i), .float .f64 0, .string (str 0 0), .int .i64 r]
theorem may_zero : mayF 0 = true := by kernel_rfl
theorem may_nzero : mayF 9223372036854775808 = false := by kernel_rfl
theorem feq_one {x : Nat} (hx : x < 18446744073709551616) (h : feq x 0x3ff0000000000000 = true) : x = 0x3ff0000000000000 := by
  unfold feq Ieee.Format.order at h
  have e2 : FloatKind.f64.format.read 0x3ff0000000000000 = .number false 4503599627370496 (-52) := by kernel_rfl
  rw [e2] at h
  have hb : FloatKind.f64.format.binade = 2 ^ 52 := rfl
  have hl : FloatKind.f64.format.leastPlace = -1074 := by kernel_rfl
  cases hd : FloatKind.f64.format.read x with
  | nan s t => rw [hd] at h; cases h
  | infinity s => rw [hd] at h; cases s <;> cases h
  | number s m i =>
    rw [hd] at h
    have h : (some (compare (Ieee.signed s m (i - min i (-52)).toNat) (Ieee.signed false 4503599627370496 (-52 - min i (-52)).toNat)) == some Ordering.eq) = true := h
    have h : compare (Ieee.signed s m (i - min i (-52)).toNat) (Ieee.signed false 4503599627370496 (-52 - min i (-52)).toNat) = .eq := by simpa using h
    rw [icmp_eq] at h
    unfold Ieee.Format.read at hd
    rw [fsw, hb, hl] at hd
    dsimp only at hd
    have pos : (0 : Int) < Ieee.signed false 4503599627370496 (-52 - min i (-52)).toNat := by
      unfold Ieee.signed
      rw [if_neg (by simp), Nat.shiftLeft_eq]
      have := Nat.two_pow_pos (-52 - min i (-52)).toNat
      exact Int.natCast_pos.2 (Nat.mul_pos (by decide) this)
    have hs : s = false := by
      cases s
      · rfl
      · rw [signed_tf] at h
        have : (0 : Int) ≤ Ieee.signed false m (i - min i (-52)).toNat := by
          unfold Ieee.signed
          rw [if_neg (by simp)]; exact Int.natCast_nonneg _
        omega
    subst hs
    have hm : m <<< (i - min i (-52)).toNat = 4503599627370496 <<< (-52 - min i (-52)).toNat := by
      unfold Ieee.signed at h
      rw [if_neg (by simp), if_neg (by simp)] at h
      exact Int.natCast_inj.1 h
    rw [Nat.shiftLeft_eq, Nat.shiftLeft_eq] at hm
    split at hd
    · rename_i hr
      injection hd with h3 h4 h5
      subst h5
      have e1 : (-1074 - min (-1074 : Int) (-52)).toNat = 0 := by decide
      obtain ⟨p, hp, e3⟩ : ∃ p : Nat, 0 < p ∧ (2 : Nat) ^ (-52 - min (-1074 : Int) (-52)).toNat = p := ⟨_, Nat.two_pow_pos _, rfl⟩
      rw [e1, e3, Nat.pow_zero, Nat.mul_one] at hm
      have h6 : m < 4503599627370496 := by omega
      omega
    · split at hd
      · rename_i hr1 hr2
        injection hd with h3 h4 h5
        have hq : x % 2 ^ 63 / 2 ^ 52 < 2047 := by
          have : FloatKind.f64.format.infRung = 2047 * 2 ^ 52 := rfl
          omega
        generalize hE : x % 2 ^ 63 / 2 ^ 52 = e at *
        generalize hM : x % 2 ^ 63 % 2 ^ 52 = mm at *
        have hmm : mm < 2 ^ 52 := by omega
        have he1 : 1 ≤ e := by omega
        have hi : i = (e : Int) - 1075 := by omega
        have h8 : e = 1023 := by
          rcases Nat.lt_trichotomy e 1023 with hlt | heq | hgt
          · exfalso
            have a1 : (i - min i (-52)).toNat = 0 := by omega
            have a2 : (-52 - min i (-52)).toNat = 1023 - e := by omega
            rw [a1, a2, Nat.pow_zero, Nat.mul_one] at hm
            have a3 : 2 ≤ 2 ^ (1023 - e) := by
              have : (2 : Nat) ^ 1 ≤ 2 ^ (1023 - e) := Nat.pow_le_pow_right (by decide) (by omega)
              simpa using this
            have : 4503599627370496 * 2 ≤ 4503599627370496 * 2 ^ (1023 - e) := Nat.mul_le_mul_left _ a3
            omega
          · exact heq
          · exfalso
            have a1 : (i - min i (-52)).toNat = e - 1023 := by omega
            have a2 : (-52 - min i (-52)).toNat = 0 := by omega
            rw [a1, a2, Nat.pow_zero, Nat.mul_one] at hm
            have a3 : 2 ≤ 2 ^ (e - 1023) := by
              have : (2 : Nat) ^ 1 ≤ 2 ^ (e - 1023) := Nat.pow_le_pow_right (by decide) (by omega)
              simpa using this
            have : m * 2 ≤ m * 2 ^ (e - 1023) := Nat.mul_le_mul_left _ a3
            omega
        have h9 : mm = 0 := by
          have a1 : (i - min i (-52)).toNat = 0 := by omega
          have a2 : (-52 - min i (-52)).toNat = 0 := by omega
          rw [a1, a2, Nat.pow_zero, Nat.mul_one, Nat.mul_one] at hm
          omega
        have h10 : x / 2 ^ 63 % 2 = 0 := by
          have : (x / 2 ^ 63 % 2 == 1) = false := h3
          have : ¬ (x / 2 ^ 63 % 2 = 1) := by simpa using this
          omega
        omega
      · split at hd <;> cases hd

theorem forms {c : Int} {x : Nat} {s : ByteArray} {r : Int} (hc : 0 ≤ c) (hx : x < 18446744073709551616) (hr : r ≤ 9223372036854775807) (h : mayV c x s r = true) :
    ∃ i S, i < 10 ∧ formOK i S (.agg #[.int .u8 c, .float .f64 x, .string s, .int .i64 r]) := by
  have emp : s.size = 0 → s = str 0 0 := fun h => by
    have : s.data = (str 0 0).data := by
      apply Array.ext'
      rw [str_toList]
      apply List.eq_nil_of_length_eq_zero
      rw [Array.length_toList]; exact h
    cases s
    rw [show str 0 0 = ⟨(str 0 0).data⟩ from rfl, ← this]
  have zer : feq x 0 = true → mayF x = true → x = 0 := fun h1 h2 => by
    rcases zero_word hx h1 with rfl | rfl
    · rfl
    · rw [may_nzero] at h2; cases h2
  unfold mayV at h
  by_cases h2 : c = 2
  · subst h2
    simp only [if_true, Bool.and_eq_true, decide_eq_true_eq, Bool.or_eq_true] at h
    obtain ⟨⟨⟨_, _⟩, _⟩, ⟨h4, h5⟩, h6⟩ := h
    obtain rfl := emp h5
    subst h6
    rcases h4 with h4 | ⟨h4, h7⟩
    · obtain rfl := feq_one hx h4
      exact ⟨3, _, by omega, rfl, rfl⟩
    · obtain rfl := zer h4 h7
      exact ⟨2, _, by omega, rfl, rfl⟩
  by_cases h3 : c = 3
  · subst h3
    rw [if_neg (by decide)] at h
    simp only [if_true, Bool.and_eq_true, decide_eq_true_eq] at h
    obtain ⟨⟨⟨_, _⟩, _⟩, ⟨h4, h5⟩, h6⟩ := h
    obtain rfl := emp h5
    subst h6
    exact ⟨4, _, by omega, x, rfl, hx, h4, rfl⟩
  rw [if_neg h2, if_neg h3] at h
  simp only [Bool.and_eq_true, decide_eq_true_eq, Bool.or_eq_true] at h
  obtain ⟨⟨⟨hc8, hr0⟩, hs⟩, ⟨⟨h4, h5⟩, h6⟩, h7⟩ := h
  obtain rfl := zer h4 h5
  by_cases h1 : c = 4
  · subst h1
    obtain rfl : r = 0 := by omega
    exact ⟨5, _, by omega, s, rfl, by omega, rfl⟩
  obtain rfl := emp (by omega)
  by_cases h8 : 5 ≤ c
  · have hk : ∃ i : Nat, 6 ≤ i ∧ i ≤ 9 ∧ c = formKind i := by
      have : c = 5 ∨ c = 6 ∨ c = 7 ∨ c = 8 := by omega
      rcases this with rfl | rfl | rfl | rfl
      · exact ⟨6, by omega, by omega, rfl⟩
      · exact ⟨7, by omega, by omega, rfl⟩
      · exact ⟨8, by omega, by omega, rfl⟩
      · exact ⟨9, by omega, by omega, rfl⟩
    obtain ⟨i, i1, i2, rfl⟩ := hk
    refine ⟨i, .int .i64 r, by omega, ?_⟩
    match i, i1, i2 with
    | 6, _, _ => exact ⟨r, by omega, rfl, ⟨hr0, hr⟩, rfl⟩
    | 7, _, _ => exact ⟨r, by omega, rfl, ⟨hr0, hr⟩, rfl⟩
    | 8, _, _ => exact ⟨r, by omega, rfl, ⟨hr0, hr⟩, rfl⟩
    | 9, _, _ => exact ⟨r, by omega, rfl, ⟨hr0, hr⟩, rfl⟩
  · obtain rfl : r = 0 := by omega
    have : c = 0 ∨ c = 1 := by omega
    rcases this with rfl | rfl
    · exact ⟨0, _, by omega, rfl, rfl⟩
    · exact ⟨1, _, by omega, rfl, rfl⟩

section
variable {Vs : List Value} {S V : Value}
theorem four_lit {E : Env} {a b c d : AV} {A B C D : Value} (ra : Rv E a A) (rb : Rv E b B) (rc : Rv E c C) (rd : Rv E d D) : Rv E (.ag [a, b, c, d]) (.agg #[A, B, C, D]) := rv_ag (rvl_cons ra (rvl_cons rb (rvl_cons rc (rvl_cons rd rvl_nil))))
theorem den_len {E : Env} {e : SE} {s : ByteArray} (h : den E e = some (.string s)) : den E (.len e) = some (.int .i64 s.size) := by simp only [den, h]
/-- a form's cells, and what is known of them -/
theorem form_ok' {gl : List (Nat × List AV)} {n0 : Nat} {i : Nat} (j : Nat) (hi : i < 10) (h : formOK i S V) (hj : Vs[j]? = some S) : Rv (symEV gl n0 Vs) (formAV i (n0 + j)) V ∧ Holds (symEV gl n0 Vs) (formFs i (n0 + j)) := by
  have obj : ∀ k : Int, ∀ r : Int, S = .int .i64 r → (0 ≤ r ∧ r ≤ 9223372036854775807) → 5 ≤ k → k ≤ 8 → Rv (symEV gl n0 Vs) (.ag [.i .u8 k, .f .f64 0, .s 0 0, .x (.i .i64) (.sy (n0 + j))]) (.agg #[.int .u8 k, .float .f64 0, .string (str 0 0), .int .i64 r]) ∧
      Holds (symEV gl n0 Vs) [(.fn 10 (packV (.li .u8 k) (.lf 0) (.ls 0 0) (.sy (n0 + j))), true), (.cmp .leq (.sy (n0 + j)) (.li .i64 (-1)), false)] := by
    rintro k r rfl hr h5 h8
    have hd := den_sym (gl := gl) (n0 := n0) j hj (sok_i _ _)
    refine ⟨four_lit (by rw [Rv]) (by rw [Rv]) (by rw [Rv]) (rv_sym (s := .i .i64) j hj (sok_i _ _) ⟨_, rfl, by have : IntKind.i64.min = -9223372036854775808 := rfl; omega, hr.2⟩), holds_cons ((den_may rfl rfl rfl hd).trans ?_) (holds_cons ((fact_le hd).trans ?_) holds_nil)⟩
    · unfold mayV
      rw [if_neg (by omega), if_neg (by omega)]
      have hz : feq 0 0 = true := by kernel_rfl
      simp [hz, may_zero, h8, hr.1]
      omega
    · rw [decide_eq_false (by omega)]
  have lit : ∀ k x, Rv (symEV gl n0 Vs) (.ag [.i .u8 k, .f .f64 x, .s 0 0, .i .i64 0]) (.agg #[.int .u8 k, .float .f64 x, .string (str 0 0), .int .i64 0]) := fun k x => four_lit (by rw [Rv]) (by rw [Rv]) (by rw [Rv]) (by rw [Rv])
  match i, hi, h with
  | 0, _, h =>
    obtain ⟨_, rfl⟩ := h
    exact ⟨lit _ _, holds_nil⟩
  | 1, _, h =>
    obtain ⟨_, rfl⟩ := h
    exact ⟨lit _ _, holds_nil⟩
  | 2, _, h =>
    obtain ⟨_, rfl⟩ := h
    exact ⟨lit _ _, holds_nil⟩
  | 3, _, h =>
    obtain ⟨_, rfl⟩ := h
    exact ⟨lit _ _, holds_nil⟩
  | 4, _, h =>
    obtain ⟨x, rfl, hx, hm, rfl⟩ := h
    have hd := den_sym (gl := gl) (n0 := n0) j hj (sok_f _)
    refine ⟨four_lit (by rw [Rv]) (rv_sym (s := .f) j hj (sok_f _) ⟨_, rfl, hx⟩) (by rw [Rv]) (by rw [Rv]), holds_cons ((den_may rfl hd rfl rfl).trans ?_) (holds_cons ((den_fn hd rfl).trans (by rw [hm])) holds_nil)⟩
    unfold mayV; simp [hm]
  | 5, _, h =>
    obtain ⟨s, rfl, hs, rfl⟩ := h
    have hd := den_sym (gl := gl) (n0 := n0) j hj (sok_s _)
    refine ⟨four_lit (by rw [Rv]) (by rw [Rv]) (rv_sym (s := .s) j hj (sok_s _) ⟨_, rfl, by omega⟩) (by rw [Rv]), holds_cons ((den_may rfl rfl hd rfl).trans ?_) (holds_cons ((fact_le (den_len hd)).trans ?_) holds_nil)⟩
    · unfold mayV
      have hz : feq 0 0 = true := by kernel_rfl
      have : (s.size : Int) ≤ 4096 := by omega
      simp [hz, may_zero, this]
    · rw [decide_eq_true (by omega)]
  | 6, _, h =>
    obtain ⟨r, _, hS, hr, rfl⟩ := h
    exact obj 5 r hS hr (by omega) (by omega)
  | 7, _, h =>
    obtain ⟨r, _, hS, hr, rfl⟩ := h
    exact obj 6 r hS hr (by omega) (by omega)
  | 8, _, h =>
    obtain ⟨r, _, hS, hr, rfl⟩ := h
    exact obj 7 r hS hr (by omega) (by omega)
  | 9, _, h =>
    obtain ⟨r, _, hS, hr, rfl⟩ := h
    exact obj 8 r hS hr (by omega) (by omega)
theorem form_ok {i : Nat} (j : Nat) (hi : i < 10) (h : formOK i S V) (hj : Vs[j]? = some S) : Rv (symEV [] 1 Vs) (formAV i (1 + j)) V ∧ Holds (symEV [] 1 Vs) (formFs i (1 + j)) := form_ok' j hi h hj
end

theorem holds_append {E : Env} {f g : Facts} (h : Holds E f) (k : Holds E g) : Holds E (f ++ g) := fun p hp => by
  rcases List.mem_append.1 hp with hp | hp
  · exact h p hp
  · exact k p hp
/-! ### A text's worth -/
noncomputable def readC : Ct := fun args h nxt k => match args with
  | [.x .s e] => bc (hasSy e) (k (.tu [.x .f (.fn 5 e), .x (.i .i64) (.fn 6 e)]) h nxt) false
  | _ => false
theorem readD_bound (m : Bool) (l : List UInt8) : (readD m l).1 < 18446744073709551616 ∧ ((readD m l).2 = 0 ∨ (readD m l).2 = 10) := by
  unfold readD
  split
  · exact ⟨by decide, .inl rfl⟩
  · split
    · exact ⟨by decide, .inr rfl⟩
    · exact ⟨near_lt _, .inl rfl⟩
theorem readL_bound (l : List UInt8) : (readL l).1 < 18446744073709551616 ∧ ((readL l).2 = 0 ∨ (readL l).2 = 10) := by
  unfold readL
  split
  · exact ⟨by decide, .inl rfl⟩
  · exact readD_bound _ _
def OfRead (P : Program) (g : FuncId) : Prop := ∀ (s : ByteArray) (w : World), (s.size : Int) ≤ 9223372036854775807 → 0 < w.heap.size → Calls P g #[.string s] w fun e w' => e = .returned (.tuple #[.float .f64 (readL s.toList).1, .int .i64 (readL s.toList).2]) ∧ RowKit.Below w.heap.size w w'
theorem readC_ok [JC] {P : Program} {g : FuncId} (H : OfRead P g) : CtOK P g readC := by
  apply ctExpr
  intro args ARGS E h nxt w k he ra hr
  unfold readC at he
  split at he <;> try (cases he; done)
  obtain ⟨h1, he1⟩ := bc_and he
  obtain ⟨X, hA, rx⟩ := ra.one
  have hA : ARGS = #[X] := by apply Array.ext'; simpa using hA
  subst hA
  simp only [Rv, hasS] at rx
  obtain ⟨da, s, rfl, hx⟩ := rx
  refine ⟨_, h, _, he1, ?_, hr, Fk.refl h, H s w hx (hr.size_pos h1 da)⟩
  obtain ⟨b1, b2⟩ := readL_bound s.toList
  refine Rv.pair ?_ ?_
  · rw [Rv]; exact ⟨den_fn da rfl, _, rfl, b1⟩
  · rw [Rv]
    refine ⟨den_fn da rfl, _, rfl, ?_⟩
    have e1 : IntKind.i64.min = -9223372036854775808 := rfl
    have e2 : IntKind.i64.max = 9223372036854775807 := rfl
    rcases b2 with b | b <;> rw [b] <;> omega
end Go.Proofs.YtbmekbpgoakkbaaGreatDoor.Vx
set_option linter.unusedVariables false
set_option linter.unusedSimpArgs false
set_option linter.constructorNameAsVariable false
set_option linter.unusedSectionVars false
namespace Go.Proofs.YtbmekbpgoakkbaaGreatDoor.Vx
open Go
set_option maxRecDepth 100000

/-! ### A text's worth may be -/
theorem read_may (l : List UInt8) : mayF (readL l).1 = true := by
  have hd : ∀ m d, mayF (readD m d).1 = true := fun m d => by
    unfold readD
    split
    · kernel_rfl
    · split
      · kernel_rfl
      · rename_i h1 h2
        have hw : worthL d ≤ 9007199254740991 := by
          simp only [Bool.or_eq_true, decide_eq_true_eq, not_or] at h2
          omega
        show mayF (FloatKind.f64.nearest _) = true
        apply near_may
        · split <;> omega
        · split <;> omega
  unfold readL
  split
  · exact may_zero
  · exact hd _ _

/-! ### A whole number's text -/
theorem rowL_length (n u : Nat) : (rowL n u).length = n := by simp [rowL]
theorem itoaG_length (l : List Value) (n : Int) (h0 : -9223372036854775808 ≤ n) (h1 : n ≤ 9223372036854775807) : (itoaG l n).length ≤ 24 := by
  unfold itoaG
  split
  · rename_i h
    have h2 := Lib.decDigits_length n.toNat
    rw [h2]
    unfold Lib.nDigits
    split
    · omega
    · unfold Lib.nDigits
      split
      · omega
      · omega
  · rename_i h
    have hq : Lib.l10 (Lib.bitLen n.natAbs) ≤ 19 := (Lib.numDigits_eq n.natAbs (by omega) (by omega)).2
    have hn : ndG l n.natAbs ≤ 20 := by
      unfold ndG
      split <;> omega
    split
    · rw [List.length_cons, rowL_length]; omega
    · rw [rowL_length]; omega

noncomputable def tabE (l : List AV) : (List SE → Bool) → Bool := List.rec (motive := fun _ => (List SE → Bool) → Bool) (fun k => k []) (fun v _ ih k => asI .u64 v fun e => ih fun es => k (e :: es)) l
theorem tabE_ok {E : Env} : ∀ (l : List AV) {vs : List Value} {k : List SE → Bool}, tabE l k = true → RvL E l vs → ∃ (es : List SE) (zs : List Int), vs = zs.map (Value.int .u64) ∧ (∀ z ∈ zs, 0 ≤ z ∧ z ≤ 18446744073709551615) ∧ All2 (fun e z => den E e = some (.int .u64 z)) es zs ∧ k es = true
  | [], vs, k, he, r => by
    rw [RvL] at r; subst r
    exact ⟨[], [], rfl, (fun z hz => by cases hz), trivial, he⟩
  | v :: l, vs, k, he, r => by
    rw [RvL] at r
    obtain ⟨V, vs', rfl, rv, r⟩ := r
    have he : asI .u64 v (fun e => tabE l fun es => k (e :: es)) = true := he
    obtain ⟨e, z, rfl, z1, z2, hd, he⟩ := asI_ok he rv
    obtain ⟨es, zs, rfl, hz, ha, hk⟩ := tabE_ok l he r
    refine ⟨e :: es, z :: zs, rfl, fun y hy => ?_, ⟨hd, ha⟩, hk⟩
    rcases List.mem_cons.1 hy with rfl | hy
    · exact ⟨z1, z2⟩
    · exact hz y hy
/-- a list of values, one in another -/
def nest : List Value → Value
  | [] => .bool false
  | [a] => a
  | a :: b :: l => .agg #[a, nest (b :: l)]
theorem den_packE {E : Env} : ∀ (es : List SE) (zs : List Int), All2 (fun e z => den E e = some (.int .u64 z)) es zs → den E (packE es) = some (nest (zs.map (Value.int .u64)))
  | [], [], _ => rfl
  | [e], [z], h => h.1
  | e :: f :: es, z :: y :: zs, h => by
    have h2 := den_packE (f :: es) (y :: zs) h.2
    show den E (.fn2 0 e (packE (f :: es))) = _
    simp only [den, h.1, h2, apf2]
    rfl
  | [e], z :: y :: zs, h => h.2.elim
  | e :: f :: es, [z], h => h.2.elim
  | [], _ :: _, h => h.elim
  | _ :: _, [], h => h.elim
theorem unpack_nest : ∀ (n : Nat) (l : List Value), l.length = n + 1 → unpackV n (nest l) = l
  | 0, [a], _ => rfl
  | n + 1, a :: b :: l, h => by
    show a :: unpackV n (nest (b :: l)) = _
    rw [unpack_nest n (b :: l) (by simpa using h)]
  | 0, a :: b :: l, h => by simp at h
  | _ + 1, [], h => by simp at h
  | _ + 1, [a], h => by simp at h
  | 0, [], h => by simp at h

/-- what is to be shown of the function -/
def OfFmt (P : Program) (g G : Nat) : Prop := ∀ (n : Int) (w : World) (T : Int) (nd : Nat), -9223372036854775808 ≤ n → n ≤ 9223372036854775807 → G < w.heap.size → 0 ≤ T ∧ T ≤ 18446744073709551615 →
  (¬ (0 ≤ n ∧ n < 100) → w.cell? ⟨G, Lib.l10 (Lib.bitLen n.natAbs), none⟩ = some (.int .u64 T) ∧ Lib.l10 (Lib.bitLen n.natAbs) + (if T ≤ (n.natAbs : Int) then 1 else 0) = nd) →
  Calls P g #[.int .i64 n, .int .i64 10] w fun e w' => e = .returned (.string ⟨(if 0 ≤ n ∧ n < 100 then Lib.decDigits n.toNat else if n < 0 then 45 :: rowL nd n.natAbs else rowL nd n.natAbs).toArray⟩) ∧ RowKit.Below w.heap.size w w'
noncomputable def fmtC (G : Nat) : Ct := fun args h nxt k => match args with
  | [.x (.i .i64) e, .i .i64 (.ofNat 10)] => (match T.get .gone h (Nat.succ G) with
    | .glob g n c => bc (bc (Nat.beq g G) (Nat.ble (Nat.succ G) 1000000) false) (bc (Nat.ble 20 n) (rdN c 20 0 fun l => tabE l fun es =>
      setF ((.cmp .leq (.len (.fn2 6 (packE es) e)) (.li .i64 24), true) :: factsOf h) h fun h1 => k (.x .s (.fn2 6 (packE es) e)) h1 nxt) false) false
    | _ => false)
  | _ => false
theorem fmtC_ok [JC] {P : Program} {g G : Nat} (H : OfFmt P g G) : CtOK P g (fmtC G) := by
  apply ctExpr
  intro args ARGS E h nxt w k he ra hr
  unfold fmtC at he
  split at he <;> try (cases he; done)
  rename_i e
  split at he <;> try (cases he; done)
  rename_i g' m c hg
  obtain ⟨h1, he1⟩ := bc_and he
  obtain ⟨h1, h2⟩ := bc_and h1
  obtain ⟨h3, he2⟩ := bc_and he1
  have h1 := Nat.eq_of_beq_eq_true h1
  have h2 := Nat.le_of_ble_eq_true h2
  have h3 := Nat.le_of_ble_eq_true h3
  clear he he1
  subst h1
  rw [rdN_ok] at he2
  have ho := hr.obj (g' + 1)
  rw [hg] at ho
  obtain ⟨L, arr, el, fr, _, hLB, hb, hsz, hcs, _⟩ := ho
  obtain ⟨hL, hB⟩ := hLB (by omega)
  have hrow : RvL E ((List.range' 0 20).map fun j => T.get .no c j) ((List.range' 0 20).map fun j => arr.getD (L.base + j) undef) := RvL.of_range 20 0 fun j _ hj => hcs j (by omega)
  obtain ⟨es, zs, hvs, hz, ha, he3⟩ := tabE_ok _ he2 hrow
  obtain ⟨X, Y, hA, rx, ry⟩ := ra.two
  have hA : ARGS = #[X, Y] := by apply Array.ext'; simpa using hA
  subst hA
  rw [Rv] at ry
  subst ry
  simp only [Rv, hasS] at rx
  obtain ⟨hd, n, rfl, n1, n2⟩ := rx
  have e1 : IntKind.i64.min = -9223372036854775808 := rfl
  have e2 : IntKind.i64.max = 9223372036854775807 := rfl
  have hlen : zs.length = 20 := by
    have := congrArg List.length hvs
    simpa using this.symm
  have hu : unpackV 19 (nest (zs.map (Value.int .u64))) = zs.map (Value.int .u64) := unpack_nest 19 _ (by simpa using hlen)
  have hden : den E (.fn2 6 (packE es) e) = some (.string ⟨(itoaG (zs.map (Value.int .u64)) n).toArray⟩) := by
    have hp := den_packE es zs ha
    have hq : ∀ V : Value, apf2 6 V (.int .i64 n) = some (.string ⟨(itoaG (unpackV 19 V) n).toArray⟩) := fun V => by cases V <;> rfl
    simp only [den, hp, hd, hq, hu]
  have hil := itoaG_length (zs.map (Value.int .u64)) n (by omega) (by omega)
  have hlen2 : den E (.len (.fn2 6 (packE es) e)) = some (.int .i64 (itoaG (zs.map (Value.int .u64)) n).length) := by
    rw [den_len hden]; simp [ByteArray.size]
  obtain ⟨h1', k1, k2, k3⟩ := setF_ok he3 hr (holds_cons ((fact_le hlen2).trans (by rw [decide_eq_true (by omega)])) (factsOf_ok hr))
  refine ⟨_, h1', .string ⟨(itoaG (zs.map (Value.int .u64)) n).toArray⟩, k1, ?_, k2, k3, ?_⟩
  · rw [Rv]
    refine ⟨hden, _, rfl, ?_⟩
    have : (⟨(itoaG (zs.map (Value.int .u64)) n).toArray⟩ : ByteArray).size = (itoaG (zs.map (Value.int .u64)) n).length := by simp [ByteArray.size]
    rw [this]; omega
  · have hlt : g' < w.heap.size := by
      rw [← hL]; exact (Array.getElem?_eq_some_iff.1 hb).1
    have hat : ∀ q, q < 20 → arr.getD q undef = .int .u64 (zs.getD q 0) ∧ q < arr.size := fun q hq => by
      have h5 := congrArg (fun l => l[q]?) hvs
      have h6 : (zs.map (Value.int .u64))[q]? = some (.int .u64 (zs.getD q 0)) := by
        rw [List.getElem?_map, List.getElem?_eq_getElem (by omega)]
        simp [List.getD_eq_getElem?_getD, List.getElem?_eq_getElem (show q < zs.length by omega)]
      rw [h6] at h5
      have h7 : ((List.range' 0 20).map fun j => arr.getD (L.base + j) undef)[q]? = some (arr.getD (L.base + q) undef) := by
        rw [List.getElem?_map, List.getElem?_range' hq]; simp
      rw [h7, hB, Nat.zero_add] at h5
      exact ⟨Option.some.inj h5, by omega⟩
    have htab : ∀ q, q < 20 → tabAt (zs.map (Value.int .u64)) q = zs.getD q 0 := fun q hq => by
      unfold tabAt
      rw [List.getElem?_map, List.getElem?_eq_getElem (by omega)]
      simp [List.getD_eq_getElem?_getD, List.getElem?_eq_getElem (show q < zs.length by omega)]
    by_cases hs : 0 ≤ n ∧ n < 100
    · refine (H n w 0 0 (by omega) (by omega) hlt (by omega) (fun h => absurd hs h)).mono ?_
      rintro e w' ⟨rfl, hbw⟩
      refine ⟨?_, hbw⟩
      unfold itoaG
      rw [if_pos hs, if_pos hs]
    · have hq : Lib.l10 (Lib.bitLen n.natAbs) ≤ 19 := (Lib.numDigits_eq n.natAbs (by omega) (by omega)).2
      obtain ⟨c1, c2⟩ := hat _ (show Lib.l10 (Lib.bitLen n.natAbs) < 20 by omega)
      refine (H n w (zs.getD (Lib.l10 (Lib.bitLen n.natAbs)) 0) (ndG (zs.map (Value.int .u64)) n.natAbs) (by omega) (by omega) hlt ?_ (fun _ => ⟨?_, ?_⟩)).mono ?_
      · apply hz
        rw [List.getD_eq_getElem?_getD, List.getElem?_eq_getElem (by omega)]
        exact List.getElem_mem _
      · have := cell_of hb c2
        rw [hL, c1] at this; exact this
      · unfold ndG
        rw [htab _ (by omega)]
      · rintro e w' ⟨rfl, hbw⟩
        refine ⟨?_, hbw⟩
        unfold itoaG
        rw [if_neg hs]

/-! ### A start with a table's cells among the symbols -/
/-- the table G's cells, from symbol n on -/
noncomputable def tabAVs : Nat → Nat → List AV
  | 0, _ => []
  | m + 1, n => .x (.i .u64) (.sy n) :: tabAVs m (n + 1)
theorem symG_ok {gl : List (Nat × List AV)} {n0 m : Nat} {Ls : List Spot} {w : World} (hn : gl.all (fun p => Nat.ble (p.1 + 2) n0) = true) (h1 : Nat.ble 1 n0 = true) (hbig : gl.all (fun p => Nat.ble (p.1 + 1) 1000000) = true)
    (hw : ∀ p ∈ gl, ∃ arr el fr, w.heap[p.1]? = some (.cells arr el fr) ∧ RvL (symE0 gl n0 Ls) p.2 (arr.toList.take p.2.length)) (hm : Ls.length = m) (hL : ∀ L ∈ Ls, L.blk = 0) (hs : 0 < w.heap.size) :
    HR (symE0 gl n0 Ls) (startH gl n0) (n0 + m) w := by
  have hn : ∀ p ∈ gl, p.1 + 2 ≤ n0 := fun p hp => Nat.le_of_ble_eq_true (List.all_eq_true.1 hn p hp)
  have h1 := Nat.le_of_ble_eq_true h1
  have z := startH_zero gl n0
  have fl : flr (startH gl n0) = n0 := by unfold flr; rw [z]
  have old : ∀ i, i < n0 → symE0 gl n0 Ls i = startE gl i := fun i hi => by unfold symE0; rw [if_neg (by omega)]
  have live : ∀ i, (T.get .gone (startH gl n0) i).live = true → ∃ p ∈ gl, i = p.1 + 1 := fun i hi => by
    cases i with
    | zero => rw [z] at hi; cases hi
    | succ i =>
      rcases startH_get gl n0 i with h | ⟨p, hp, e, h⟩
      · rw [h] at hi; cases hi
      · exact ⟨p, hp, by omega⟩
  refine ⟨fun i => ?_, fun i j L M hi hj hLi hMj e => ?_, fun i hi => ?_, fun i hi => ?_, fun i L hi => ?_, by omega, by rw [fl]; omega, by rw [z]; rfl⟩
  · cases i with
    | zero => rw [z]; trivial
    | succ i =>
      rcases startH_get gl n0 i with h | ⟨p, hp, e, h⟩
      · rw [h]; trivial
      · rw [h]
        obtain ⟨arr, el, fr, k1, k2⟩ := hw p hp
        have hlen := k2.length
        refine ⟨⟨p.1, 0, 0⟩, arr, el, fr, by rw [old _ (by have := hn p hp; omega), ← e]; exact startE_of hp, fun _ => ⟨rfl, rfl⟩, k1, by simp at hlen; simp; omega, (fun j hj => ?_), by rw [← e]; exact TypB.of_global⟩
        have := wrLs_new p.2 (arr.toList.take p.2.length) k2 j hj
        simpa [List.getElem?_take, hj] using this
  · obtain ⟨p, hp, rfl⟩ := live i hi
    obtain ⟨q, hq, rfl⟩ := live j hj
    rw [old _ (by have := hn p hp; omega), startE_of hp] at hLi
    rw [old _ (by have := hn q hq; omega), startE_of hq] at hMj
    cases hLi; cases hMj
    have e : p.1 = q.1 := e
    omega
  · cases hl : (T.get .gone (startH gl n0) i).live
    · rfl
    · obtain ⟨p, hp, rfl⟩ := live i hl
      have := hn p hp; omega
  · unfold symE0
    rw [if_pos (by omega)]
    exact List.getElem?_eq_none (by omega)
  · rcases Nat.lt_or_ge i n0 with h | h
    · rw [old i h] at hi
      obtain ⟨p, hp, e1, rfl⟩ := startE_some hi
      obtain ⟨arr, el, fr, k1, _⟩ := hw p hp
      exact (Array.getElem?_eq_some_iff.1 k1).1
    · unfold symE0 at hi
      rw [if_pos h] at hi
      rw [hL L (List.mem_of_getElem? hi)]; exact hs
/-- a law of what is given and of tables -/
theorem closedValG {P : Program} {call : CallF} (hc : CallOK P call) {gl : List (Nat × List AV)} {n0 : Nat} {Vs : List Value} {fs : Facts} {g : FuncId} {args : List AV} {ARGS : Array Value} {nn : Nat}
    (hn : gl.all (fun p => Nat.ble (p.1 + 2) n0) = true) (h1 : Nat.ble 1 n0 = true) (hbig : gl.all (fun p => Nat.ble (p.1 + 1) 1000000) = true)
    (hnn : n0 + Vs.length = nn) (hf : Holds (symEV gl n0 Vs) fs) (ra : RvL (symEV gl n0 Vs) args ARGS.toList)
    (he : setF fs (startH gl n0) (fun h => call g args h nn (fun v h _ => finT v h)) = true) (w : World) (hs : 0 < w.heap.size)
    (hw : ∀ p ∈ gl, ∃ arr el fr, w.heap[p.1]? = some (.cells arr el fr) ∧ RvL (symEV gl n0 Vs) p.2 (arr.toList.take p.2.length)) :
    Calls P g ARGS w fun e w' => e = .returned (.bool true) ∧ RowKit.Below w.heap.size w w' := by
  subst hnn
  have hr := symG_ok hn h1 hbig hw (List.length_map _) (fun L hL => by obtain ⟨V, _, rfl⟩ := List.mem_map.1 hL; exact spot_blk V) hs
  obtain ⟨h1', he, hr1, fk⟩ := setF_ok he hr hf
  have z := startH_zero gl n0
  have fl : flr (startH gl n0) = n0 := by unfold flr; rw [z]
  have nofp : ∀ k, ¬ fp (symEV gl n0 Vs) h1' k := by
    rintro k ⟨i, L, a1, a2, _, _⟩
    rw [fk.flr, fl] at a1
    rw [fk.live] at a2
    cases i with
    | zero => rw [z] at a2; cases a2
    | succ i =>
      rcases startH_get gl n0 i with h | ⟨p, hp, e, h⟩
      · rw [h] at a2; cases a2
      · have := Nat.le_of_ble_eq_true (List.all_eq_true.1 hn p hp); omega
  refine (hc g args ARGS _ _ _ w _ he ra hr1 trivial).mono ?_
  rintro e w' (⟨V, rfl, v, h', nxt', E', rv, hr', gs, hk⟩ | ⟨V, rfl, v, h', nxt', E', rv, _, gs, hk⟩)
  · obtain ⟨x, _, rfl, _, _, hx⟩ := condK_ok hk rv hr'
    rcases hx with ⟨rfl, _⟩ | ⟨_, hx⟩
    · exact ⟨rfl, below_of gs nofp⟩
    · cases hx
  · cases hk
theorem den_symG {gl : List (Nat × List AV)} {n0 : Nat} {Vs : List Value} (j : Nat) {V : Value} (h : Vs[j]? = some V) (ok : symOK V) : den (symEV gl n0 Vs) (.sy (n0 + j)) = some V := den_sym j h ok
theorem tab_rv {gl : List (Nat × List AV)} {n0 : Nat} {Vs : List Value} : ∀ (m j : Nat) (zs : List Int), zs.length = m → (∀ i z, zs[i]? = some z → Vs[j + i]? = some (.int .u64 z)) → (∀ z ∈ zs, 0 ≤ z ∧ z ≤ 18446744073709551615) →
    RvL (symEV gl n0 Vs) (tabAVs m (n0 + j)) (zs.map (Value.int .u64))
  | 0, j, [], _, _, _ => rvl_nil
  | m + 1, j, z :: zs, hl, h, hz => by
    refine rvl_cons (rv_sym (s := .i .u64) j (h 0 z rfl) (sok_i _ _) ⟨_, rfl, hz z (by simp)⟩) ?_
    have := tab_rv (gl := gl) (n0 := n0) m (j + 1) zs (by simpa using hl) (fun i y hi => by have := h (i + 1) y (by simpa using hi); rw [← this]; congr 1; omega) (fun y hy => hz y (by simp [hy]))
    rw [show n0 + j + 1 = n0 + (j + 1) from by omega]
    exact this
  | 0, _, _ :: _, hl, _, _ => by simp at hl
  | _ + 1, _, [], hl, _, _ => by simp at hl
end Go.Proofs.YtbmekbpgoakkbaaGreatDoor.Vx
set_option linter.unusedVariables false
set_option linter.unusedSimpArgs false
set_option linter.constructorNameAsVariable false
set_option linter.unusedSectionVars false
namespace Go.Proofs.YtbmekbpgoakkbaaGreatDoor.Vx
open Go
set_option maxRecDepth 100000

noncomputable def addE (E : Env) (n : Nat) (V : Value) : Env := fun i => if i = n then some (spotOf V) else E i
theorem HR.le_add {E : Env} {h : Heap} {nxt : Nat} {w : World} (hr : HR E h nxt w) (V : Value) : E.le (addE E nxt V) := fun i L hi => by
  unfold addE
  by_cases e : i = nxt
  · rw [e, hr.fresh nxt (Nat.le_refl _)] at hi; cases hi
  · rw [if_neg e]; exact hi
theorem HR.add {E : Env} {h : Heap} {nxt : Nat} {w : World} (hr : HR E h nxt w) (V : Value) (hs : 0 < w.heap.size) : HR (addE E nxt V) h (nxt + 1) w := by
  have live : ∀ i, (T.get .gone h i).live = true → addE E nxt V i = E i := fun i hi => by
    unfold addE
    rw [if_neg]
    rintro rfl
    rw [hr.lt i (Nat.le_refl _)] at hi; cases hi
  refine ⟨fun i => (hr.obj i).wide (hr.le_add V), fun i j L M hi hj hL hM e => ?_, fun i hi => hr.lt i (by omega), fun i hi => ?_, fun i L hi => ?_, by omega, by have := hr.flle; omega, hr.zero⟩
  · rw [live i hi] at hL
    rw [live j hj] at hM
    exact hr.inj i j L M hi hj hL hM e
  · unfold addE
    rw [if_neg (by omega)]
    exact hr.fresh i (by omega)
  · unfold addE at hi
    split at hi
    · cases hi; rw [spot_blk]; exact hs
    · exact hr.inw i L hi
theorem HR.goes_add {E : Env} {h : Heap} {nxt : Nat} {w : World} (hr : HR E h nxt w) (V : Value) : Goes E h w (addE E nxt V) h w := by
  refine ⟨hr.le_add V, Nat.le_refl _, fun _ _ _ => rfl, ?_, rfl, fun _ _ => rfl, rfl, rfl, rfl⟩
  rintro k hk ⟨i, L, a1, a2, a3, a4⟩
  refine ⟨i, L, a1, a2, ?_, a4⟩
  unfold addE at a3
  split at a3
  · rename_i e
    rw [e, hr.lt nxt (Nat.le_refl _)] at a2; cases a2
  · exact a3
theorem den_add {E : Env} {n : Nat} {V : Value} (ok : symOK V) : den (addE E n V) (.sy n) = some V := by
  show (addE E n V n).map symV = some V
  unfold addE
  rw [if_pos rfl]
  show some (symV (spotOf V)) = some V
  rw [symV_spot ok]
theorem mayF_of_nan {x : Nat} (h : isNaN64 x) : mayF x = true := mayF_nan (by
  unfold feq
  rw [order_nan (.inl h)]; rfl)
theorem feq_of_nan {x : Nat} (h : isNaN64 x) : feq x x = false := by
  unfold feq
  rw [order_nan (.inl h)]; rfl

/-- some NaN that is answered, under a name of its own -/
noncomputable def renK (G : Nat) (k : K) : K := fun v h n => match v with
  | .tu [.nan, b] => (match T.get .gone h (Nat.succ G) with
    | .glob _ _ _ => setF ((.cmp .eql (.sy n) (.sy n), false) :: (.fn 7 (.sy n), true) :: factsOf h) h fun h1 => forceN (Nat.succ n) fun m => k (.tu [.x .f (.sy n), b]) h1 m
    | _ => false)
  | v => k v h n
noncomputable def renC (G : Nat) (C : Ct) : Ct := fun args h nxt k => C args h nxt (renK G k)
theorem renC_ok {P : Program} {g : FuncId} {G : Nat} {C : Ct} (hC : CtOK P g C) : CtOK P g (renC G C) := by
  intro args ARGS E h nxt w k he ra hr hj
  refine (hC args ARGS E h nxt w _ he ra hr hj).mono ?_
  rintro e w' (⟨V, rfl, v, h', n', E', rv, hr', gs, hk⟩ | ⟨V, rfl, v, h', n', E', rv, hr', gs, hk⟩)
  case inr => exact .inr ⟨V, rfl, v, h', n', E', rv, hr', gs, hk⟩
  refine .inl ⟨V, rfl, ?_⟩
  unfold renK at hk
  split at hk
  case h_2 => exact ⟨v, h', n', E', rv, hr', gs, hk⟩
  rename_i b
  split at hk <;> try (cases hk; done)
  rename_i g0 m c hg
  have hs : 0 < w'.heap.size := by
    have ho := hr'.obj (Nat.succ G)
    rw [hg] at ho
    obtain ⟨L, arr, el, fr, _, _, hb, _, _⟩ := ho
    have := (Array.getElem?_eq_some_iff.1 hb).1
    omega
  rw [Rv] at rv
  obtain ⟨vs, rfl, rvs⟩ := rv
  rw [RvL] at rvs
  obtain ⟨X, vs', rfl, rx, rvs⟩ := rvs
  rw [Rv] at rx
  obtain ⟨x, rfl, hx⟩ := rx
  have hd : den (addE E' n' (.float .f64 x)) (.sy n') = some (.float .f64 x) := den_add (sok_f _)
  have hf : Holds (addE E' n' (.float .f64 x)) ((.cmp .eql (.sy n') (.sy n'), false) :: (.fn 7 (.sy n'), true) :: factsOf h') :=
    holds_cons ((den_feq hd hd).trans (by rw [feq_of_nan hx])) (holds_cons ((den_fn hd rfl).trans (by rw [mayF_of_nan hx])) (factsOf_ok (hr'.add _ hs)))
  obtain ⟨h1, k1, k2, k3⟩ := setF_ok hk (hr'.add (.float .f64 x) hs) hf
  rw [forceN_eq] at k1
  refine ⟨_, h1, n' + 1, addE E' n' (.float .f64 x), ?_, k2, (gs.trans (hr'.goes_add _)).trans k3.goes, k1⟩
  rw [Rv]
  exact ⟨_, rfl, rvl_cons (by rw [Rv]; exact ⟨hd, _, rfl, hx.2⟩) (rvs.mono (hr'.le_add _))⟩
end Go.Proofs.YtbmekbpgoakkbaaGreatDoor.Vx
set_option linter.unusedVariables false
set_option linter.unusedSimpArgs false
set_option linter.constructorNameAsVariable false
set_option linter.unusedSectionVars false
namespace Go.Proofs.YtbmekbpgoakkbaaGreatDoor.Vx
open Go
set_option maxRecDepth 100000

noncomputable def idxC (G : Nat) : Ct := fun args h nxt k => match args with
  | [.x .s a, .x .s b] => someInt h G (bc (belowS (.len a) 4096 (factsOf h)) (k (.x (.i .i64) (.fn2 7 a b)) h nxt) false)
  | [.s 0 0, .x .s b] => someInt h G (k (.x (.i .i64) (.fn2 7 (.ls 0 0) b)) h nxt)
  | _ => false
def OfIdx (P : Program) (g G : Nat) : Prop := ∀ (s t : ByteArray) (m : Int) (w : World), s.size < 4294967281 → w.cell? ⟨G, 0, none⟩ = some (.int .i64 m) → Calls P g #[.string s, .string t] w fun e w' => e = .returned (.int .i64 (Lib.index s.data.toList t.data.toList)) ∧ w' = w
theorem index_leL (s t : List UInt8) : Lib.index s t ≤ s.length := by
  induction s with
  | nil => unfold Lib.index; split <;> simp
  | cons b l ih =>
    unfold Lib.index
    split
    · exact Int.natCast_nonneg _
    · split
      · have := Int.natCast_nonneg (b :: l).length; omega
      · rw [List.length_cons]; omega
theorem idxC_ok [JC] {P : Program} {g G : Nat} (H : OfIdx P g G) : CtOK P g (idxC G) := by
  apply ctExpr
  intro args ARGS E h nxt w k he ra hr
  have fin : ∀ (a b : SE) (s t : ByteArray), den E a = some (.string s) → den E b = some (.string t) → (s.size : Int) ≤ 4096 → (∃ m, w.cell? ⟨G, 0, none⟩ = some (.int .i64 m)) → ARGS = #[.string s, .string t] → k (.x (.i .i64) (.fn2 7 a b)) h nxt = true →
      ∃ v h1 U, k v h1 nxt = true ∧ Rv E v U ∧ HR E h1 nxt w ∧ Fk h h1 ∧ Calls P g ARGS w fun e w' => e = .returned U ∧ RowKit.Below w.heap.size w w' := by
    intro a b s t da db h1 hm hA he
    obtain ⟨m, hm⟩ := hm
    subst hA
    refine ⟨_, h, .int .i64 (Lib.index s.data.toList t.data.toList), he, ?_, hr, Fk.refl h, (H s t m w (by omega) hm).mono fun e w' ⟨he, hw⟩ => ⟨he, by rw [hw]; exact RowKit.Below.refl _ _⟩⟩
    rw [Rv]
    have e1 : IntKind.i64.min = -9223372036854775808 := rfl
    have e2 : IntKind.i64.max = 9223372036854775807 := rfl
    have l1 := Lib.index_ge s.data.toList t.data.toList
    have l2 := index_leL s.data.toList t.data.toList
    have l3 : s.data.toList.length = s.size := Array.length_toList
    exact ⟨by simp only [den, da, db]; rfl, _, rfl, by omega, by omega⟩
  unfold idxC at he
  split at he <;> try (cases he; done)
  · rename_i a b
    obtain ⟨he, hm⟩ := someInt_ok he hr
    obtain ⟨h1, he⟩ := bc_and he
    obtain ⟨X, Y, hA, rx, ry⟩ := ra.two
    rw [Rv] at rx ry
    obtain ⟨da, s, rfl, hs⟩ := rx
    obtain ⟨db, t, rfl, ht⟩ := ry
    have h1 := belowS_ok (factsOf_ok hr) (.len a) (k := .i64) (n := s.size) (by simp only [den, da]) h1
    exact fin a b s t da db h1 hm (by apply Array.ext'; simpa using hA) he
  · rename_i b
    obtain ⟨he, hm⟩ := someInt_ok he hr
    obtain ⟨X, Y, hA, rx, ry⟩ := ra.two
    rw [Rv] at rx
    rw [Rv] at ry
    subst rx
    obtain ⟨db, t, rfl, ht⟩ := ry
    exact fin (.ls 0 0) b (str 0 0) t rfl db (by decide) hm (by apply Array.ext'; simpa using hA) he
end Go.Proofs.YtbmekbpgoakkbaaGreatDoor.Vx
set_option linter.unusedVariables false
set_option linter.unusedSimpArgs false
set_option linter.constructorNameAsVariable false
set_option linter.unusedSectionVars false
namespace Go.Proofs.YtbmekbpgoakkbaaGreatDoor.Vx
open Go
set_option maxRecDepth 100000

theorem near_gtr {z : Int} (h1 : 1 ≤ z) (h2 : z ≤ 9007199254740991) : FloatKind.f64.format.order (FloatKind.f64.nearest z) 0 = some .gt := by
  have hd : FloatKind.f64.format.read (FloatKind.f64.nearest z) = _ := near_decode (by omega) h2 (by omega)
  have e0 : FloatKind.f64.format.read 0 = .number false 0 (-1074) := by kernel_rfl
  have hz : decide (z < 0) = false := decide_eq_false (by omega)
  rw [hz] at hd
  unfold Ieee.Format.order
  rw [hd, e0]
  have hp : 0 < z.natAbs * 2 ^ (52 - z.natAbs.log2) := Nat.mul_pos (by omega) (Nat.two_pow_pos _)
  generalize z.natAbs * 2 ^ (52 - z.natAbs.log2) = m at *
  generalize ((z.natAbs.log2 : Int) - 52) = i at *
  show some (compare (Ieee.signed false m (i - min i (-1074)).toNat) (Ieee.signed false 0 (-1074 - min i (-1074)).toNat)) = some .gt
  have h3 : Ieee.signed false 0 (-1074 - min i (-1074)).toNat = 0 := by unfold Ieee.signed; simp
  have h4 : (0 : Int) < Ieee.signed false m (i - min i (-1074)).toNat := by
    unfold Ieee.signed
    rw [if_neg (by simp), Nat.shiftLeft_eq]
    exact Int.natCast_pos.2 (Nat.mul_pos hp (Nat.two_pow_pos _))
  rw [h3]
  generalize Ieee.signed false m (i - min i (-1074)).toNat = q at *
  congr 1
  show compareOfLessAndEq _ _ = _
  unfold compareOfLessAndEq
  rw [if_neg (by omega), if_neg (by omega)]
theorem near_not_less {z : Int} (h1 : 1 ≤ z) (h2 : z ≤ 9007199254740991) : (FloatKind.f64.format.order (FloatKind.f64.nearest z) 0 == some .lt) = false := by rw [near_gtr h1 h2]; rfl
/-- the whole part of a whole number is it -/
theorem apf_trunc {z : Int} (h1 : 1 ≤ z) (h2 : z ≤ 9007199254740991) : apf 2 (.float .f64 (FloatKind.f64.nearest z)) = some (.float .f64 (FloatKind.f64.nearest z)) := by
  have hd := near_decode (z := z) (by omega) h2 (by omega)
  have ht := near_trunc (s := decide (z < 0)) (m := z.natAbs) (by omega) (by omega)
  show (match FloatKind.f64.decode (FloatKind.f64.nearest z) with
    | .nan _ _ => none
    | d => some (Value.float .f64 (FloatKind.f64.encode (d.integral .zero)))) = _
  rw [hd]
  show some (Value.float .f64 (FloatKind.f64.encode (Ieee.Datum.integral .zero _))) = _
  rw [ht]
  rfl
theorem apf_int {z : Int} (h1 : 0 ≤ z) (h2 : z ≤ 9007199254740991) : apf 11 (.float .f64 (FloatKind.f64.nearest z)) = some (.int .i64 z) := by
  show (match FloatKind.f64.decode (FloatKind.f64.nearest z) with
    | .number s m i => some (Value.int .i64 (f2i (FloatKind.f64.nearest z)))
    | _ => none) = _
  rw [f2i_near (by omega) h2]
  by_cases h0 : z = 0
  · subst h0; kernel_rfl
  · rw [near_decode (by omega) h2 h0]
/-- is it found: it stands there -/
theorem found {s t : ByteArray} (h : 0 ≤ Lib.index s.data.toList t.data.toList) :
    Lib.index s.data.toList t.data.toList + t.size ≤ s.size ∧ s.extract (Lib.index s.data.toList t.data.toList).toNat (Lib.index s.data.toList t.data.toList + t.size).toNat = t := by
  have hs : s.data.toList.length = s.size := Array.length_toList
  have ht : t.data.toList.length = t.size := Array.length_toList
  have hr := Lib.index_room s.data.toList t.data.toList h
  rcases Lib.index_spec s.data.toList t.data.toList with ⟨h1, _⟩ | ⟨i, h1, h2, h3, _⟩
  · omega
  · rw [h1] at hr ⊢
    refine ⟨by omega, ?_⟩
    have ho := Lib.occ_of_piece s t i (by omega)
    rw [h3] at ho
    have ho := (eq_of_beq ho.symm)
    have e1 : ((i : Int)).toNat = i := by omega
    have e2 : ((i : Int) + t.size).toNat = i + t.size := by omega
    rw [e1, e2]
    apply ByteArray.ext
    apply Array.ext'
    rw [← ByteArray.toList_eq, ← ByteArray.toList_eq]; exact ho
/-- is it not found: it stands nowhere -/
theorem not_found {s t : ByteArray} (h : Lib.index s.data.toList t.data.toList = -1) (j : Nat) (hj : j + t.size ≤ s.size) : s.extract j (j + t.size) ≠ t := by
  have hs : s.data.toList.length = s.size := Array.length_toList
  rcases Lib.index_spec s.data.toList t.data.toList with ⟨_, h2⟩ | ⟨i, h1, _⟩
  · intro e
    have ho := Lib.occ_of_piece s t j hj
    rw [e] at ho
    rw [h2 j (by omega)] at ho
    simp at ho
  · omega
end Go.Proofs.YtbmekbpgoakkbaaGreatDoor.Vx
set_option linter.unusedVariables false
set_option linter.unusedSimpArgs false
set_option linter.constructorNameAsVariable false
set_option linter.unusedSectionVars false
namespace Go.Proofs.YtbmekbpgoakkbaaGreatDoor.Vx
open Go

noncomputable def inR (i : Nat) (R : Rows) : Bool := List.rec (motive := fun _ => Bool) false (fun p _ ih => bc (Nat.beq i p.1) true ih) R
theorem inR_cons (i : Nat) (p : Nat × ObjL) (R : Rows) : inR i (p :: R) = bc (Nat.beq i p.1) true (inR i R) := rfl
theorem inR_of {i : Nat} {o : ObjL} : ∀ {R : Rows}, (i, o) ∈ R → inR i R = true
  | [], h => by cases h
  | q :: R, h => by
    rw [inR_cons]
    rcases List.mem_cons.1 h with rfl | h
    · rw [Nat.beq_refl]; rfl
    · rw [inR_of h]; cases Nat.beq i q.1 <;> rfl
theorem of_inR {i : Nat} : ∀ {R : Rows}, inR i R = true → ∃ o, (i, o) ∈ R
  | [], h => by cases h
  | q :: R, h => by
    rw [inR_cons] at h
    cases e : Nat.beq i q.1 with
    | true =>
      obtain rfl := Nat.eq_of_beq_eq_true e
      exact ⟨q.2, List.mem_cons_self⟩
    | false =>
      rw [e] at h
      obtain ⟨o, ho⟩ := of_inR (R := R) h
      exact ⟨o, List.mem_cons_of_mem _ ho⟩

theorem rowsH_get2 : ∀ (R : Rows) (h : Heap) (i : Nat), (inR i R = false ∧ T.get .gone (rowsH R h) i = T.get .gone h i) ∨
    (inR i R = true ∧ (T.get .gone (rowsH R h) i = .gone ∨ ∃ o, (i, o) ∈ R ∧ T.get .gone (rowsH R h) i = .cells o.n o.esz (wrCs o.l ⟨o.w, bigR⟩ 0)))
  | [], _, _ => .inl ⟨rfl, rfl⟩
  | p :: R, h, i => by
    rcases rowsH_get2 R (T.set (.cells p.2.n p.2.esz (wrCs p.2.l ⟨p.2.w, bigR⟩ 0)) h p.1) i with ⟨e, g⟩ | ⟨e, g | ⟨o, ho, g⟩⟩
    · by_cases hi : i = p.1
      · subst hi
        refine .inr ⟨inR_of List.mem_cons_self, ?_⟩
        rcases T.get_set_eq .gone (.cells p.2.n p.2.esz (wrCs p.2.l ⟨p.2.w, bigR⟩ 0)) h p.1 with e2 | e2
        · exact .inr ⟨p.2, List.mem_cons_self, g.trans e2⟩
        · exact .inl (g.trans e2)
      · rw [T.get_set_ne _ _ _ _ _ hi] at g
        refine .inl ⟨?_, g⟩
        rw [inR_cons, e]
        cases eb : Nat.beq i p.1 with
        | true => exact absurd (Nat.eq_of_beq_eq_true eb) hi
        | false => rfl
    · refine .inr ⟨?_, .inl g⟩
      rw [inR_cons, e]; cases Nat.beq i p.1 <;> rfl
    · exact .inr ⟨inR_of (List.mem_cons_of_mem _ ho), .inr ⟨o, List.mem_cons_of_mem _ ho, g⟩⟩

/-- rows that stay -/
noncomputable def keptPs (h : Heap) (R R' : Rows) : Bool := List.rec (motive := fun _ => Bool) true (fun p _ ih => bc (inR p.1 R') ih (bc (sameP h p.1 p.2) ih false)) R
theorem keptPs_ok {h : Heap} {R' : Rows} : ∀ {R : Rows}, keptPs h R R' = true → ∀ i o, (i, o) ∈ R → inR i R' = false → sameP h i o = true
  | [], _, _, _, hp, _ => by cases hp
  | q :: R, he, i, o, hp, hn => by
    have he : bc (inR q.1 R') (keptPs h R R') (bc (sameP h q.1 q.2) (keptPs h R R') false) = true := he
    rcases List.mem_cons.1 hp with e | hp
    · cases e
      rw [hn] at he
      exact (bc_and he).1
    · refine keptPs_ok ?_ i o hp hn
      cases e : inR q.1 R' with
      | true => rw [e] at he; exact he
      | false => rw [e] at he; exact (bc_and he).2

/-- the places: those read at or behind the floor; those written among them, or new -/
noncomputable def okR (F : Nat) (R : Rows) : Bool := List.rec (motive := fun _ => Bool) true (fun p _ ih => bc (Nat.ble F p.1) ih false) R
noncomputable def okW (N N' : Nat) (R R' : Rows) : Bool := List.rec (motive := fun _ => Bool) true (fun p _ ih => bc (Nat.ble (Nat.succ p.1) N') (bc (Nat.ble N p.1) ih (bc (inR p.1 R) ih false)) false) R'
theorem okR_ok {F : Nat} : ∀ {R : Rows}, okR F R = true → ∀ i o, (i, o) ∈ R → F ≤ i
  | [], _, _, _, hp => by cases hp
  | q :: R, he, i, o, hp => by
    have he : bc (Nat.ble F q.1) (okR F R) false = true := he
    obtain ⟨h1, he⟩ := bc_and he
    rcases List.mem_cons.1 hp with e | hp
    · cases e; exact Nat.le_of_ble_eq_true h1
    · exact okR_ok he i o hp
theorem okW_ok {N N' : Nat} {R : Rows} : ∀ {R' : Rows}, okW N N' R R' = true → ∀ i o, (i, o) ∈ R' → i < N' ∧ (N ≤ i ∨ inR i R = true)
  | [], _, _, _, hp => by cases hp
  | q :: R', he, i, o, hp => by
    have he : bc (Nat.ble (Nat.succ q.1) N') (bc (Nat.ble N q.1) (okW N N' R R') (bc (inR q.1 R) (okW N N' R R') false)) false = true := he
    obtain ⟨h1, he⟩ := bc_and he
    have h2 : (N ≤ q.1 ∨ inR q.1 R = true) ∧ okW N N' R R' = true := by
      cases e : Nat.ble N q.1 with
      | true => rw [e] at he; exact ⟨.inl (Nat.le_of_ble_eq_true e), he⟩
      | false =>
        rw [e] at he
        obtain ⟨g1, g2⟩ := bc_and he
        exact ⟨.inr g1, g2⟩
    rcases List.mem_cons.1 hp with e | hp
    · cases e; exact ⟨Nat.le_of_ble_eq_true h1, h2.1⟩
    · exact okW_ok h2.2 i o hp

noncomputable def keepC (args0 : List AV) (F N : Nat) (R : Rows) (v' : AV) (R' : Rows) (N' : Nat) : Ct := fun args h nxt k =>
  bc (Nat.beq nxt N) (bc (sameWL args args0) (bc (Nat.beq (flr h) F) (bc (samePs h R) (rowsK R' h fun h3 => k v' h3 N') false) false) false) false

/-- the run that shows it -/
noncomputable def keepRun (call : CallF) (g : FuncId) (args0 : List AV) (F N : Nat) (R : Rows) (v' : AV) (R' : Rows) (N' : Nat) : Bool :=
  bc (noPk v' true) (bc (Nat.ble 1 F) (bc (Nat.ble F N) (bc (Nat.ble N N') (bc (okR F R) (bc (okW N N' R R')
  (rowsK R (baseH .gone) fun h0 => bc (Nat.beq (flr h0) 1) (call g args0 h0 N fun v h n => bc (sameT v v') (bc (Nat.ble n N') (bc (samePs h R') (keptPs h R R') false) false) false) false)
  false) false) false) false) false) false

theorem ro_eq {E : Env} {w : World} {i n : Nat} {e : Esz} {c c' : Cs} (h : ∀ j, j < n → c.get j = c'.get j) (r : RO E w i (.cells n e c')) : RO E w i (.cells n e c) := by
  obtain ⟨L, arr, el, a1, a2, a3, a4, a5⟩ := r
  exact ⟨L, arr, el, a1, a2, a3, a4, fun j hj => by rw [h j hj]; exact a5 j hj⟩

theorem ro_spot {E : Env} {w : World} {i : Nat} {a : AO} (r : RO E w i a) (hl : a.live = true) : ∃ L, E i = some L := by
  cases a with
  | gone | floor | facts | ali => cases hl
  | cells n e c => obtain ⟨L, arr, el, a1, _⟩ := r; exact ⟨L, a1⟩
  | map es c => obtain ⟨L, ms, a1, _⟩ := r; exact ⟨L, a1⟩
  | siter l n p => obtain ⟨L, a1, _⟩ := r; exact ⟨L, a1⟩
  | glob g n c => obtain ⟨L, arr, el, fr, a1, _⟩ := r; exact ⟨L, a1⟩
  | rows el len => obtain ⟨L, arr, n, a1, _⟩ := r; exact ⟨L, a1⟩
  | blob el sz S l len => obtain ⟨L, arr, n, a1, _⟩ := r; exact ⟨L, a1⟩

theorem ro_dead {E E' : Env} (hle : E.le E') {w w' : World} {i : Nat} {a : AO} (r : RO E w i a) (hl : a.live = false) : RO E' w' i a := by
  cases a with
  | gone | floor => trivial
  | facts fs => exact fun p hp => den_mono hle _ _ (r p hp)
  | ali p off q cap => obtain ⟨L, M, c, h1, h2, h3, h4⟩ := r; exact ⟨L, M, c, hle _ _ h1, hle _ _ h2, den_mono hle _ _ h3, h4⟩
  | cells n e c => cases hl
  | map es c => cases hl
  | siter l n p => cases hl
  | glob g n c => cases hl
  | rows el len => cases hl
  | blob el sz S l len => cases hl

theorem keepC_ok {P : Program} {call : CallF} (hc : CallOK P call) {g : FuncId} {args0 : List AV} {F N N' : Nat} {R R' : Rows} {v' : AV} 
    (he : keepRun call g args0 F N R v' R' N' = true) : CtOK P g (keepC args0 F N R v' R' N') := by
  refine CtOK.of ?_
  intro args ARGS E h nxt w k hk ra hr
  unfold keepRun at he
  obtain ⟨s0, he⟩ := bc_and he
  have hv : ∀ u, v' ≠ .pk u := fun u hu => by rw [hu] at s0; cases s0
  obtain ⟨s1, he⟩ := bc_and he
  obtain ⟨s2, he⟩ := bc_and he
  obtain ⟨s3, he⟩ := bc_and he
  obtain ⟨s4, he⟩ := bc_and he
  obtain ⟨s5, he⟩ := bc_and he
  have s1 := Nat.le_of_ble_eq_true s1
  have s2 := Nat.le_of_ble_eq_true s2
  have s3 := Nat.le_of_ble_eq_true s3
  have s4 := okR_ok s4
  have s5 := okW_ok s5
  rw [rowsK_eq] at he
  obtain ⟨f0, he⟩ := bc_and he
  have f0 := Nat.eq_of_beq_eq_true f0
  have hk : bc (Nat.beq nxt N) (bc (sameWL args args0) (bc (Nat.beq (flr h) F) (bc (samePs h R) (rowsK R' h fun h3 => k v' h3 N') false) false) false) false = true := hk
  obtain ⟨k2, hk⟩ := bc_and hk
  obtain ⟨k1, hk⟩ := bc_and hk
  obtain ⟨k3, hk⟩ := bc_and hk
  obtain ⟨k4, hfin⟩ := bc_and hk
  rw [rowsK_eq] at hfin
  have k3 := Nat.eq_of_beq_eq_true k3
  obtain rfl := sameWL_ok k1
  obtain rfl := Nat.eq_of_beq_eq_true k2
  have g0 := cut_at (R := R) (a := .gone) hr k4 ⟨trivial, rfl⟩
  have hr0 : HR E (rowsH R (baseH .gone)) nxt w := hr.cut (Nat.le_refl _) (by rw [f0]; exact hr.pos) g0
  -- a place that is live in the cut is one of the rows
  have lv : ∀ i, (T.get .gone (rowsH R (baseH .gone)) i).live = true → inR i R = true := fun i hi => by
    rcases rowsH_get2 R (baseH .gone) i with ⟨e, g⟩ | ⟨e, _⟩
    · rw [g] at hi
      rcases base_get .gone i with b | ⟨_, b⟩ | ⟨_, b⟩ <;> rw [b] at hi <;> cases hi
    · exact e
  have geF : ∀ i, inR i R = true → F ≤ i := fun i hi => by
    obtain ⟨o, ho⟩ := of_inR hi
    exact s4 i o ho
  have sub : ∀ j, fp E (rowsH R (baseH .gone)) j → fp E h j := fun j ⟨i, L, a1, a2, a3, a4⟩ => ⟨i, L, by rw [k3]; exact geF i (lv i a2), (g0 i).2 a2, a3, a4⟩
  refine (hc g args ARGS E _ nxt w _ he ra hr0 trivial).mono ?_
  rintro e w' (⟨V, rfl, v, h', n', E', rv, hr', gs, hh⟩ | ⟨V, rfl, v, h', n', E', rv, hr', gs, hh⟩)
  case inr =>
    obtain ⟨hh, _⟩ := bc_and hh
    exact absurd (sameT_ok hh).symm (hv v)
  obtain ⟨h1, hh⟩ := bc_and hh
  obtain ⟨h2, hh⟩ := bc_and hh
  obtain ⟨h3, h4⟩ := bc_and hh
  obtain rfl := sameT_ok h1
  have h2 := Nat.le_of_ble_eq_true h2
  have h3 := samePs_ok h3
  have h4 := keptPs_ok h4
  -- a place that stays and is no row: its block is untouched
  have far : ∀ i L, inR i R = false → (T.get .gone h i).live = true → E i = some L → ¬ fp E (rowsH R (baseH .gone)) L.blk := fun i L hi hl hL ⟨i', L', _, b2, b3, b4⟩ => by
    have := hr.inj i i' L L' hl ((g0 i').2 b2) hL b3 b4.symm
    subst this
    rw [lv i b2] at hi; cases hi
  have stay : ∀ i, inR i R' = false → RO E' w' i (T.get .gone h i) := fun i hi => by
    cases hR : inR i R with
    | true =>
      obtain ⟨o, ho⟩ := of_inR hR
      obtain ⟨c, c1, c2, c3⟩ := sameP_ok (samePs_ok k4 _ ho).2
      obtain ⟨c', d1, d2, d3⟩ := sameP_ok (h4 i o ho hi)
      have := hr'.obj i
      rw [d1] at this
      dsimp only at c1
      rw [c1]
      exact ro_eq (fun j hj => (c3 j hj).trans (d3 j hj).symm) this
    | false =>
      cases hl : (T.get .gone h i).live with
      | false => exact ro_dead gs.ext (hr.obj i) hl
      | true =>
        obtain ⟨L, hL⟩ := ro_spot (hr.obj i) hl
        refine RO.wide gs.ext (RO.same (fun M hM => ?_) (hr.obj i))
        rw [hL] at hM; cases hM
        exact gs.fr L.blk (hr.inw i L hL) (far i L hR hl hL)
  have row : ∀ i o, (i, o) ∈ R' → (T.get .gone h' i).live = true ∧ RO E' w' i (.cells o.n o.esz (wrCs o.l ⟨o.w, bigR⟩ 0)) := fun i o ho => by
    obtain ⟨_, hp⟩ := h3 _ ho
    obtain ⟨c, c1, c2, c3⟩ := sameP_ok hp
    have := hr'.obj i
    dsimp only at c1
    rw [c1] at this
    exact ⟨by rw [c1]; rfl, ro_row c2 c3 this⟩
  -- live places: those that stay, and rows
  have parts : ∀ i, (T.get .gone (rowsH R' h) i).live = true → (inR i R' = false ∧ (T.get .gone h i).live = true) ∨ (inR i R' = true ∧ (T.get .gone h' i).live = true) := fun i hi => by
    rcases rowsH_get2 R' h i with ⟨e, g⟩ | ⟨e, g | ⟨o, ho, g⟩⟩
    · exact .inl ⟨e, by rw [g] at hi; exact hi⟩
    · rw [g] at hi; cases hi
    · exact .inr ⟨e, (row i o ho).1⟩
  have keptLive : ∀ i, inR i R' = false → inR i R = true → (T.get .gone h' i).live = true := fun i hi hR => by
    obtain ⟨o, ho⟩ := of_inR hR
    obtain ⟨c', d1, _, _⟩ := sameP_ok (h4 i o ho hi)
    rw [d1]; rfl
  have cross : ∀ i j L M, inR i R' = false → (T.get .gone h i).live = true → (T.get .gone h' j).live = true → E' i = some L → E' j = some M → L.blk = M.blk → i = j := fun i j L M hi hl hj hL hM e => by
    cases hR : inR i R with
    | true => exact hr'.inj i j L M (keptLive i hi hR) hj hL hM e
    | false =>
      obtain ⟨L0, hL0⟩ := ro_spot (hr.obj i) hl
      have := gs.ext i L0 hL0
      rw [hL] at this; cases this
      have hlt := hr.inw i L hL0
      refine absurd (gs.fpm L.blk hlt ⟨j, M, ?_, hj, hM, e.symm⟩) (far i L hR hl hL0)
      rw [gs.flr, f0]
      rcases Nat.eq_zero_or_pos j with rfl | hp
      · rw [hr'.zero] at hj; cases hj
      · exact hp
  have low : inR 0 R' = false := by
    cases e : inR 0 R' with
    | false => rfl
    | true =>
      obtain ⟨o, ho⟩ := of_inR e
      have := (h3 _ ho).1
      exact absurd this (by simp)
  have zero : T.get .gone (rowsH R' h) 0 = T.get .gone h 0 := by
    rcases rowsH_get2 R' h 0 with ⟨e, g⟩ | ⟨e, _⟩
    · exact g
    · rw [low] at e; cases e
  have flr' : flr (rowsH R' h) = flr h := by unfold flr; rw [zero]
  have hr2 : HR E' (rowsH R' h) N' w' := by
    refine ⟨fun i => ?_, fun i j L M hi hj hL hM e => ?_, fun i hi => ?_, fun i hi => hr'.fresh i (by omega), hr'.inw, by have := hr.pos; omega, by rw [flr']; have := hr.flle; omega, by rw [zero]; exact hr.zero⟩
    · rcases rowsH_get2 R' h i with ⟨e, g⟩ | ⟨e, g | ⟨o, ho, g⟩⟩
      · rw [g]; exact stay i e
      · rw [g]; trivial
      · rw [g]; exact (row i o ho).2
    · rcases parts i hi with ⟨i1, i2⟩ | ⟨i1, i2⟩ <;> rcases parts j hj with ⟨j1, j2⟩ | ⟨j1, j2⟩
      · obtain ⟨L0, hL0⟩ := ro_spot (hr.obj i) i2
        obtain ⟨M0, hM0⟩ := ro_spot (hr.obj j) j2
        have a := gs.ext i L0 hL0
        have b := gs.ext j M0 hM0
        rw [hL] at a; rw [hM] at b; cases a; cases b
        exact hr.inj i j L M i2 j2 hL0 hM0 e
      · exact cross i j L M i1 i2 j2 hL hM e
      · exact (cross j i M L j1 j2 i2 hM hL e.symm).symm
      · exact hr'.inj i j L M i2 j2 hL hM e
    · cases hl : (T.get .gone (rowsH R' h) i).live with
      | false => rfl
      | true =>
        rcases parts i hl with ⟨_, i2⟩ | ⟨i1, _⟩
        · rw [hr.lt i (by omega)] at i2; cases i2
        · obtain ⟨o, ho⟩ := of_inR i1
          have := (s5 i o ho).1
          omega
  refine ⟨V, rfl, _, _, _, E', rv, hr2, ⟨gs.ext, gs.size, fun j hj hn => gs.fr j hj fun hf => hn (sub j hf), fun j hj ⟨i, L, a1, a2, a3, a4⟩ => ?_, flr', fun i hi => ?_, gs.os, gs.output, gs.tape⟩, hfin⟩
  · rcases parts i a2 with ⟨i1, i2⟩ | ⟨i1, i2⟩
    · obtain ⟨L0, hL0⟩ := ro_spot (hr.obj i) i2
      have a := gs.ext i L0 hL0
      rw [a3] at a; cases a
      exact ⟨i, L, by rw [flr'] at a1; exact a1, i2, hL0, a4⟩
    · refine sub j (gs.fpm j hj ⟨i, L, ?_, i2, a3, a4⟩)
      rw [gs.flr, f0]
      rcases Nat.eq_zero_or_pos i with rfl | hp
      · rw [low] at i1; cases i1
      · exact hp
  · rcases rowsH_get2 R' h i with ⟨e, g⟩ | ⟨e, _⟩
    · exact g
    · obtain ⟨o, ho⟩ := of_inR e
      rw [k3] at hi
      rcases (s5 i o ho).2 with hN | hR
      · omega
      · have := geF i hR; omega

/-- contracts by the place that is the next one -/
noncomputable def keyC (l : List (Nat × Ct)) (D : Ct) : Ct := List.rec (motive := fun _ => Ct) D (fun p _ ih args h nxt k => bc (Nat.beq nxt p.1) (p.2 args h nxt k) (ih args h nxt k)) l
noncomputable def nopeC : Ct := fun _ _ _ _ => false
theorem nopeC_ok [JC] {P : Program} {g : FuncId} : CtOK P g nopeC := fun _ _ _ _ _ _ _ he => by cases he
theorem keyC_nil [JC] {P : Program} {g : FuncId} {D : Ct} (hD : CtOK P g D) : CtOK P g (keyC [] D) := hD
theorem keyC_cons [JC] {P : Program} {g : FuncId} {n : Nat} {C D : Ct} {l : List (Nat × Ct)} (hC : CtOK P g C) (hl : CtOK P g (keyC l D)) : CtOK P g (keyC ((n, C) :: l) D) := by
  intro args ARGS E h nxt w k he ra hr hj
  have he : bc (Nat.beq nxt n) (C args h nxt k) (keyC l D args h nxt k) = true := he
  cases e : Nat.beq nxt n with
  | true => rw [e] at he; exact hC args ARGS E h nxt w k he ra hr hj
  | false => rw [e] at he; exact hl args ARGS E h nxt w k he ra hr hj
end Go.Proofs.YtbmekbpgoakkbaaGreatDoor.Vx
set_option linter.unusedVariables false
set_option linter.unusedSimpArgs false
set_option linter.constructorNameAsVariable false
set_option linter.unusedSectionVars false
namespace Go.Proofs.YtbmekbpgoakkbaaGreatDoor.Vx
open Go
set_option maxRecDepth 100000

/-- the digits of a whole number below 2 ^ 53, and its word -/
def kb (m : Nat) : Nat := m * 2 ^ (52 - m.log2)
def wb (m : Nat) : Nat := if m = 0 then 0 else (m.log2 + 1022) * 2 ^ 52 + kb m

theorem log_le {m : Nat} (hm : 0 < m) (hM : m < 9007199254740992) : m.log2 ≤ 52 := by
  have : m.log2 < 53 := (Nat.log2_lt (by omega)).2 (by simpa using hM)
  omega
theorem kb_lo {m : Nat} (hm : 0 < m) (hM : m < 9007199254740992) : 2 ^ 52 ≤ kb m := by
  have h1 : 2 ^ m.log2 ≤ m := Nat.log2_self_le (by omega)
  have hl := log_le hm hM
  have := Nat.mul_le_mul_right (2 ^ (52 - m.log2)) h1
  rwa [← Nat.pow_add, show m.log2 + (52 - m.log2) = 52 by omega] at this
theorem kb_hi {m : Nat} (hm : 0 < m) (hM : m < 9007199254740992) : kb m < 2 ^ 53 := by
  have h2 : m < 2 ^ (m.log2 + 1) := Nat.lt_log2_self
  have hl := log_le hm hM
  have := Nat.mul_lt_mul_of_pos_right h2 (Nat.two_pow_pos (52 - m.log2))
  rwa [← Nat.pow_add, show m.log2 + 1 + (52 - m.log2) = 53 by omega] at this
theorem log_scale {m k : Nat} (hm : 0 < m) : (m * 2 ^ k).log2 = m.log2 + k := by
  have h1 : 2 ^ m.log2 ≤ m := Nat.log2_self_le (by omega)
  have h2 : m < 2 ^ (m.log2 + 1) := Nat.lt_log2_self
  refine (Nat.log2_eq_iff (by have := Nat.mul_pos hm (Nat.two_pow_pos k); omega)).2 ⟨?_, ?_⟩
  · rw [Nat.pow_add]; exact Nat.mul_le_mul_right _ h1
  · rw [show m.log2 + k + 1 = m.log2 + 1 + k by omega, Nat.pow_add]
    exact Nat.mul_lt_mul_of_pos_right h2 (Nat.two_pow_pos k)
theorem cut_exact {K d : Nat} (hK : 0 < K) : Ieee.Toward.even.cut false (K * 2 ^ d) d = K := by
  unfold Ieee.Toward.cut
  rw [log_scale hK, Nat.min_eq_left (by omega), Nat.one_shiftLeft]
  have h1 : K * 2 ^ d / 2 ^ d = K := Nat.mul_div_cancel _ (Nat.two_pow_pos d)
  have h2 : K * 2 ^ d % 2 ^ d = 0 := Nat.mul_mod_left _ _
  have h3 := Nat.two_pow_pos d
  dsimp only
  rw [h1, h2]
  have e1 : decide (2 ^ d < 2 * 0) = false := decide_eq_false (by omega)
  have e2 : (2 ^ d == 2 * 0) = false := by rw [beq_eq_false_iff_ne]; omega
  rw [e1, e2]; rfl

theorem near_scale {m k : Nat} (hm : 0 < m) (hM : m < 9007199254740992) : FloatKind.f64.format.nearest false (m * 2 ^ k) (-(k : Int)) = wb m := by
  have hb : FloatKind.f64.format.fractionBits = 52 := rfl
  have hl : FloatKind.f64.format.leastPlace = -1074 := by kernel_rfl
  have hbin : FloatKind.f64.format.binade = 2 ^ 52 := rfl
  have hinf : FloatKind.f64.format.infRung = 2047 * 2 ^ 52 := rfl
  have hlog := log_le hm hM
  have hlo := kb_lo hm hM
  have hhi := kb_hi hm hM
  have hp : 0 < m * 2 ^ k := Nat.mul_pos hm (Nat.two_pow_pos k)
  unfold Ieee.Format.nearest
  rw [if_neg (by omega), hb, hl, hbin, hinf, log_scale hm]
  dsimp only
  have a1 : max (-(k : Int) + ((m.log2 + k : Nat) : Int) - (52 : Nat)) (-1074) = (m.log2 : Int) - 52 := by omega
  rw [a1]
  have a2 : (-(k : Int) - ((m.log2 : Int) - 52)).toNat = 52 - m.log2 - k := by omega
  have a3 : ((m.log2 : Int) - 52 - -(k : Int)).toNat = m.log2 + k - 52 := by omega
  have a4 : ((m.log2 : Int) - 52 - -1074).toNat = m.log2 + 1022 := by omega
  rw [a2, a3, a4, Nat.shiftLeft_eq]
  have a5 : Ieee.Toward.even.cut false (m * 2 ^ k * 2 ^ (52 - m.log2 - k)) (m.log2 + k - 52) = kb m := by
    rcases Nat.le_total k (52 - m.log2) with hk | hk
    · have e1 : m.log2 + k - 52 = 0 := by omega
      have e2 : m * 2 ^ k * 2 ^ (52 - m.log2 - k) = kb m * 2 ^ 0 := by
        rw [Nat.mul_assoc, ← Nat.pow_add, show k + (52 - m.log2 - k) = 52 - m.log2 by omega]; simp [kb]
      rw [e1, e2]
      exact cut_exact (by omega)
    · have e2 : m * 2 ^ k * 2 ^ (52 - m.log2 - k) = kb m * 2 ^ (m.log2 + k - 52) := by
        unfold kb
        rw [Nat.mul_assoc, Nat.mul_assoc, ← Nat.pow_add, ← Nat.pow_add]
        congr 2; omega
      rw [e2]
      exact cut_exact (by omega)
  rw [a5, Nat.min_eq_left (by omega)]
  unfold wb Ieee.Format.word
  rw [if_neg (by simp), if_neg (by omega)]
theorem near_wb {m : Nat} (hm : 0 < m) (hM : m < 9007199254740992) : FloatKind.f64.format.nearest false m 0 = wb m := by
  have := near_scale (k := 0) hm hM
  simpa using this
theorem read_wb {m : Nat} (hm : 0 < m) (hM : m < 9007199254740992) : FloatKind.f64.format.read (wb m) = .number false (kb m) ((m.log2 : Int) - 52) := by
  rw [← near_wb hm hM]; exact near_read hm hM
theorem wb_zero : wb 0 = 0 := rfl
theorem read_zero : FloatKind.f64.format.read 0 = .number false 0 (-1074) := by kernel_rfl
theorem wb_lt {m : Nat} (hM : m < 9007199254740992) : wb m < 9223372036854775808 := by
  unfold wb
  split
  · omega
  · have h1 := log_le (m := m) (by omega) hM
    have h2 := kb_hi (m := m) (by omega) hM
    omega

theorem log_mono {a b : Nat} (ha : 0 < a) (h : a ≤ b) : a.log2 ≤ b.log2 :=
  (Nat.le_log2 (by omega)).2 (Nat.le_trans (Nat.log2_self_le (by omega)) h)

theorem kb_shift {m : Nat} {l : Nat} (hl : l ≤ m.log2) (hm : 0 < m) (hM : m < 9007199254740992) : kb m * 2 ^ (m.log2 - l) = m * 2 ^ (52 - l) := by
  have := log_le hm hM
  unfold kb
  rw [Nat.mul_assoc, ← Nat.pow_add]
  congr 2; omega

theorem sum_numbers (s t : Bool) (m n : Nat) (i j : Int) : Ieee.Datum.sum (.number s m i) (.number t n j) =
    some (.number (if Ieee.signed s m (i - min i j).toNat + Ieee.signed t n (j - min i j).toNat = 0 then s && t else decide (Ieee.signed s m (i - min i j).toNat + Ieee.signed t n (j - min i j).toNat < 0))
      (Ieee.signed s m (i - min i j).toNat + Ieee.signed t n (j - min i j).toNat).natAbs (min i j)) := rfl
theorem order_numbers (s t : Bool) (m n : Nat) (i j : Int) : Ieee.Datum.order (.number s m i) (.number t n j) = some (compare (Ieee.signed s m (i - min i j).toNat) (Ieee.signed t n (j - min i j).toNat)) := rfl
theorem opp_number (s : Bool) (m : Nat) (i : Int) : Ieee.Datum.opposite (.number s m i) = .number (!s) m i := rfl
theorem write_number (s : Bool) (m : Nat) (i : Int) : FloatKind.f64.format.write (.number s m i) = FloatKind.f64.format.nearest s m i := rfl
theorem prod_numbers (s t : Bool) (m n : Nat) (i j : Int) : Ieee.Datum.product (.number s m i) (.number t n j) = some (.number (s ^^ t) (m * n) (i + j)) := rfl
theorem signed_pos (m u : Nat) : Ieee.signed false m u = ((m * 2 ^ u : Nat) : Int) := by unfold Ieee.signed; rw [if_neg (by simp), Nat.shiftLeft_eq]
theorem signed_neg (m u : Nat) : Ieee.signed true m u = -((m * 2 ^ u : Nat) : Int) := by unfold Ieee.signed; rw [if_pos rfl, Nat.shiftLeft_eq]

theorem sub_wb {R S : Nat} (hS : 0 < S) (hSR : S ≤ R) (hR : R < 9007199254740992) : FloatKind.f64.format.sub (wb R) (wb S) = some (wb (R - S)) := by
  have hlog := log_mono hS hSR
  have lS := log_le hS (by omega)
  have lR := log_le (m := R) (by omega) hR
  unfold Ieee.Format.sub
  rw [read_wb (by omega) hR, read_wb hS (by omega), opp_number, sum_numbers]
  have a0 : min ((R.log2 : Int) - 52) ((S.log2 : Int) - 52) = (S.log2 : Int) - 52 := by omega
  rw [a0]
  have a1 : ((R.log2 : Int) - 52 - ((S.log2 : Int) - 52)).toNat = R.log2 - S.log2 := by omega
  have a2 : ((S.log2 : Int) - 52 - ((S.log2 : Int) - 52)).toNat = 0 := by omega
  rw [a1, a2, Bool.not_false, signed_pos, signed_neg, kb_shift hlog (by omega) hR, Nat.pow_zero, Nat.mul_one]
  have hk : kb S = S * 2 ^ (52 - S.log2) := rfl
  rw [hk]
  have hle : S * 2 ^ (52 - S.log2) ≤ R * 2 ^ (52 - S.log2) := Nat.mul_le_mul_right _ hSR
  have e3 : ((R * 2 ^ (52 - S.log2) : Nat) : Int) + -((S * 2 ^ (52 - S.log2) : Nat) : Int) = (((R - S) * 2 ^ (52 - S.log2) : Nat) : Int) := by
    rw [Nat.sub_mul]; omega
  rw [e3]
  have e4 : (if ((((R - S) * 2 ^ (52 - S.log2) : Nat) : Int)) = 0 then false && true else decide ((((R - S) * 2 ^ (52 - S.log2) : Nat) : Int) < 0)) = false := by
    split
    · rfl
    · exact decide_eq_false (by omega)
  rw [e4, Int.natAbs_natCast, Option.map_some, write_number]
  have e5 : (S.log2 : Int) - 52 = -((52 - S.log2 : Nat) : Int) := by omega
  rw [e5]
  congr 1
  rcases Nat.eq_zero_or_pos (R - S) with h0 | h0
  · rw [h0, Nat.zero_mul]
    unfold Ieee.Format.nearest Ieee.Format.word
    rw [if_pos rfl, if_neg (by simp)]; rfl
  · exact near_scale h0 (by omega)

theorem read_one : FloatKind.f64.format.read 0x3ff0000000000000 = .number false 4503599627370496 (-52) := by kernel_rfl
theorem mul_wb {m : Nat} (hm : 0 < m) (hM : m < 9007199254740992) : FloatKind.f64.format.mul 0x3ff0000000000000 (wb m) = some (wb m) := by
  have hl := log_le hm hM
  unfold Ieee.Format.mul
  rw [read_one, read_wb hm hM, prod_numbers, Option.map_some, write_number, Bool.xor_false]
  have e1 : (4503599627370496 : Nat) * kb m = m * 2 ^ (104 - m.log2) := by
    unfold kb
    rw [show (4503599627370496 : Nat) = 2 ^ 52 by decide, Nat.mul_left_comm, ← Nat.pow_add]
    congr 2; omega
  have e2 : (-52 : Int) + ((m.log2 : Int) - 52) = -((104 - m.log2 : Nat) : Int) := by omega
  rw [e1, e2]
  congr 1
  exact near_scale hm hM

theorem cmp_scale {a b c : Nat} (hc : 0 < c) : compare ((a * c : Nat) : Int) ((b * c : Nat) : Int) = compare (a : Int) (b : Int) := by
  simp only [compare, compareOfLessAndEq]
  have h1 : (((a * c : Nat) : Int) < ((b * c : Nat) : Int)) ↔ ((a : Int) < (b : Int)) := by
    rw [Int.ofNat_lt, Int.ofNat_lt]
    exact Nat.mul_lt_mul_right hc
  have h2 : (((a * c : Nat) : Int) = ((b * c : Nat) : Int)) ↔ ((a : Int) = (b : Int)) := by
    rw [Int.ofNat_inj, Int.ofNat_inj]
    exact ⟨fun h => Nat.eq_of_mul_eq_mul_right hc h, fun h => by rw [h]⟩
  simp only [h1, h2]

theorem cmp_lt {A B : Int} (h : A < B) : compare A B = .lt := by simp only [compare, compareOfLessAndEq]; rw [if_pos h]
theorem cmp_gt {A B : Int} (h : B < A) : compare A B = .gt := by
  simp only [compare, compareOfLessAndEq]; rw [if_neg (by omega), if_neg (by omega)]
theorem order_wb {R S : Nat} (hR : R < 9007199254740992) (hS : 0 < S) (hS' : S < 9007199254740992) : FloatKind.f64.format.order (wb R) (wb S) = some (compare (R : Int) (S : Int)) := by
  have lS := log_le hS hS'
  unfold Ieee.Format.order
  rw [read_wb hS hS']
  rcases Nat.eq_zero_or_pos R with rfl | hp
  · rw [wb_zero, read_zero, order_numbers, signed_pos, signed_pos]
    have hk := kb_lo hS hS'
    generalize ((S.log2 : Int) - 52 - min (-1074) ((S.log2 : Int) - 52)).toNat = u
    have hpos : 0 < kb S * 2 ^ u := Nat.mul_pos (by omega) (Nat.two_pow_pos u)
    rw [Nat.zero_mul, cmp_lt (by omega), cmp_lt (by omega)]
  · have lR := log_le hp hR
    rw [read_wb hp hR, order_numbers]
    have a1 : ((R.log2 : Int) - 52 - min ((R.log2 : Int) - 52) ((S.log2 : Int) - 52)).toNat = R.log2 - min R.log2 S.log2 := by omega
    have a2 : ((S.log2 : Int) - 52 - min ((R.log2 : Int) - 52) ((S.log2 : Int) - 52)).toNat = S.log2 - min R.log2 S.log2 := by omega
    rw [a1, a2, signed_pos, signed_pos, kb_shift (by omega) hp hR, kb_shift (by omega) hS hS', cmp_scale (Nat.two_pow_pos _)]

/-- the fraction that Frexp gives -/
def fb (m : Nat) : Nat := 1021 * 2 ^ 52 + kb m
theorem read_fb {m : Nat} (hm : 0 < m) (hM : m < 9007199254740992) : FloatKind.f64.format.read (fb m) = .number false (kb m) (-53) := by
  have hl : FloatKind.f64.format.leastPlace = -1074 := by kernel_rfl
  have hbin : FloatKind.f64.format.binade = 2 ^ 52 := rfl
  have hinf : FloatKind.f64.format.infRung = 2047 * 2 ^ 52 := rfl
  have h1 := kb_lo hm hM
  have h2 := kb_hi hm hM
  unfold fb
  generalize kb m = K at *
  unfold Ieee.Format.read
  rw [fsw, hbin, hinf, hl]
  have r1 : (1021 * 2 ^ 52 + K) % 2 ^ 63 = 1021 * 2 ^ 52 + K := by omega
  have r2 : ((1021 * 2 ^ 52 + K) / 2 ^ 63 % 2 == 1) = false := by
    have : (1021 * 2 ^ 52 + K) / 2 ^ 63 % 2 = 0 := by omega
    rw [this]; rfl
  simp only [r1, r2]
  rw [if_neg (by omega), if_pos (by omega)]
  have r3 : (1021 * 2 ^ 52 + K) % 2 ^ 52 = K - 2 ^ 52 := by omega
  have r4 : (1021 * 2 ^ 52 + K) / 2 ^ 52 = 1022 := by omega
  rw [r3, r4, show 2 ^ 52 + (K - 2 ^ 52) = K by omega]
  rfl
theorem order_fb {R S : Nat} (hR0 : 0 < R) (hR : R < 9007199254740992) (hS : 0 < S) (hS' : S < 9007199254740992) : FloatKind.f64.format.order (fb R) (fb S) = some (compare (kb R : Int) (kb S : Int)) := by
  unfold Ieee.Format.order
  rw [read_fb hR0 hR, read_fb hS hS', order_numbers]
  have e : (-53 - min (-53) (-53) : Int).toNat = 0 := by decide
  rw [e, signed_pos, signed_pos, Nat.pow_zero, Nat.mul_one, Nat.mul_one]

/-- against constants -/
theorem read_max : FloatKind.f64.format.read 0x7fefffffffffffff = .number false 9007199254740991 971 := by kernel_rfl
theorem read_nmax : FloatKind.f64.format.read 0xffefffffffffffff = .number true 9007199254740991 971 := by kernel_rfl
theorem read_least : FloatKind.f64.format.read 0x0010000000000000 = .number false 4503599627370496 (-1074) := by kernel_rfl
theorem order_max {m : Nat} (hM : m < 9007199254740992) : FloatKind.f64.format.order (wb m) 0x7fefffffffffffff = some .lt := by
  unfold Ieee.Format.order
  rw [read_max]
  rcases Nat.eq_zero_or_pos m with rfl | hp
  · rw [wb_zero, read_zero, order_numbers, signed_pos, signed_pos, Nat.zero_mul, cmp_lt]
    have := Nat.two_pow_pos (971 - min (-1074) 971 : Int).toNat
    omega
  · have l := log_le hp hM
    have h2 := kb_hi hp hM
    rw [read_wb hp hM, order_numbers, signed_pos, signed_pos, cmp_lt]
    have a1 : ((m.log2 : Int) - 52 - min ((m.log2 : Int) - 52) 971).toNat = 0 := by omega
    obtain ⟨v, hv⟩ : ∃ v, (971 - min ((m.log2 : Int) - 52) 971 : Int).toNat = v + 1 := ⟨(971 - min ((m.log2 : Int) - 52) 971 : Int).toNat - 1, by omega⟩
    rw [a1, hv, Nat.pow_zero, Nat.mul_one, Nat.pow_succ]
    have := Nat.two_pow_pos v
    omega
theorem order_nmax {m : Nat} (hM : m < 9007199254740992) : FloatKind.f64.format.order (wb m) 0xffefffffffffffff = some .gt := by
  unfold Ieee.Format.order
  rw [read_nmax]
  rcases Nat.eq_zero_or_pos m with rfl | hp
  · rw [wb_zero, read_zero, order_numbers, signed_pos, signed_neg, Nat.zero_mul, cmp_gt]
    have := Nat.two_pow_pos (971 - min (-1074) 971 : Int).toNat
    omega
  · rw [read_wb hp hM, order_numbers, signed_pos, signed_neg, cmp_gt]
    have := Nat.two_pow_pos (971 - min ((m.log2 : Int) - 52) 971 : Int).toNat
    omega
theorem order_least {m : Nat} (hm : 0 < m) (hM : m < 9007199254740992) : FloatKind.f64.format.order (wb m) 0x0010000000000000 = some .gt := by
  have l := log_le hm hM
  have h1 := kb_lo hm hM
  unfold Ieee.Format.order
  rw [read_least, read_wb hm hM, order_numbers, signed_pos, signed_pos, cmp_gt]
  have a1 : (-1074 - min ((m.log2 : Int) - 52) (-1074) : Int).toNat = 0 := by omega
  obtain ⟨v, hv⟩ : ∃ v, ((m.log2 : Int) - 52 - min ((m.log2 : Int) - 52) (-1074)).toNat = v + 1 := ⟨((m.log2 : Int) - 52 - min ((m.log2 : Int) - 52) (-1074)).toNat - 1, by omega⟩
  rw [a1, hv, Nat.pow_zero, Nat.mul_one, Nat.pow_succ]
  have := Nat.two_pow_pos v
  have : 4503599627370496 * 1 < kb m * (2 ^ v * 2) := by
    have h3 := Nat.mul_le_mul h1 (show 2 ≤ 2 ^ v * 2 by omega)
    omega
  omega
theorem order_zero {m : Nat} (hm : 0 < m) (hM : m < 9007199254740992) : FloatKind.f64.format.order (wb m) 0 = some .gt := by
  have h1 := kb_lo hm hM
  unfold Ieee.Format.order
  rw [read_zero, read_wb hm hM, order_numbers, signed_pos, signed_pos, Nat.zero_mul, cmp_gt]
  have := Nat.two_pow_pos ((m.log2 : Int) - 52 - min ((m.log2 : Int) - 52) (-1074)).toNat
  have := Nat.mul_pos (show 0 < kb m by omega) this
  omega

/-- what is taken away is no more than there is -/
theorem take_le {R Y : Nat} (hY : 0 < Y) (hYR : Y ≤ R) (hR : R < 9007199254740992) (h : kb Y ≤ kb R) : Y * 2 ^ (R.log2 - Y.log2) ≤ R := by
  have hl := log_mono hY hYR
  have lR := log_le (m := R) (by omega) hR
  have e : Y * 2 ^ (R.log2 - Y.log2) * 2 ^ (52 - R.log2) = kb Y := by
    unfold kb
    rw [Nat.mul_assoc, ← Nat.pow_add]; congr 2; omega
  refine Nat.le_of_mul_le_mul_right ?_ (Nat.two_pow_pos (52 - R.log2))
  rw [e]; exact h
theorem take_lt {R Y : Nat} (hY : 0 < Y) (hYR : Y ≤ R) (hR : R < 9007199254740992) (h : kb R < kb Y) : Y.log2 < R.log2 := by
  have hl := log_mono hY hYR
  rcases Nat.lt_or_ge Y.log2 R.log2 with h2 | h2
  · exact h2
  · exfalso
    have e : Y.log2 = R.log2 := by omega
    unfold kb at h
    rw [e] at h
    have := Nat.lt_of_mul_lt_mul_right h
    omega
theorem take_le' {R Y : Nat} (hY : 0 < Y) (hYR : Y ≤ R) (hR : R < 9007199254740992) (h : kb R < kb Y) : Y * 2 ^ (R.log2 - Y.log2 - 1) ≤ R := by
  have hlt := take_lt hY hYR hR h
  have lR := log_le (m := R) (by omega) hR
  have h1 := kb_lo (m := R) (by omega) hR
  have h2 := kb_hi hY (by omega)
  have e : Y * 2 ^ (R.log2 - Y.log2 - 1) * 2 ^ (53 - R.log2) = kb Y := by
    unfold kb
    rw [Nat.mul_assoc, ← Nat.pow_add]; congr 2; omega
  refine Nat.le_of_mul_le_mul_right ?_ (Nat.two_pow_pos (53 - R.log2))
  rw [e]
  have e2 : R * 2 ^ (53 - R.log2) = 2 * kb R := by
    unfold kb
    rw [show 53 - R.log2 = 52 - R.log2 + 1 by omega, Nat.pow_succ]
    rw [← Nat.mul_assoc, Nat.mul_comm]
  rw [e2]; omega
theorem wb_scale {Y k : Nat} (hY : 0 < Y) (hk : Y.log2 + k ≤ 52) : wb (Y * 2 ^ k) = (Y.log2 + k + 1022) * 2 ^ 52 + kb Y := by
  unfold wb
  have hp : 0 < Y * 2 ^ k := Nat.mul_pos hY (Nat.two_pow_pos k)
  rw [if_neg (by omega), log_scale hY]
  congr 1
  unfold kb
  rw [log_scale hY, Nat.mul_assoc, ← Nat.pow_add]
  congr 2; omega

/-- a word that stands for a number, in parts -/
theorem read_parts {x M : Nat} {s : Bool} {i : Int} (h : FloatKind.f64.format.read x = .number s M i) : (x / 2 ^ 63 % 2 == 1) = s ∧
    ((x % 2 ^ 63 < 2 ^ 52 ∧ M = x % 2 ^ 63 ∧ i = -1074) ∨ (2 ^ 52 ≤ x % 2 ^ 63 ∧ x % 2 ^ 63 < 2047 * 2 ^ 52 ∧ M = 2 ^ 52 + x % 2 ^ 63 % 2 ^ 52 ∧ i = -1074 + ((x % 2 ^ 63 / 2 ^ 52 - 1 : Nat) : Int))) := by
  have hl : FloatKind.f64.format.leastPlace = -1074 := by kernel_rfl
  have hbin : FloatKind.f64.format.binade = 2 ^ 52 := rfl
  have hinf : FloatKind.f64.format.infRung = 2047 * 2 ^ 52 := rfl
  unfold Ieee.Format.read at h
  rw [fsw, hbin, hinf, hl] at h
  dsimp only at h
  by_cases h1 : x % 2 ^ 63 < 2 ^ 52
  · rw [if_pos h1] at h
    injection h with a b c
    exact ⟨a, .inl ⟨h1, b.symm, c.symm⟩⟩
  · rw [if_neg h1] at h
    by_cases h2 : x % 2 ^ 63 < 2047 * 2 ^ 52
    · rw [if_pos h2] at h
      injection h with a b c
      exact ⟨a, .inr ⟨by omega, h2, b.symm, c.symm⟩⟩
    · rw [if_neg h2] at h
      split at h <;> cases h

theorem signed_abs (s : Bool) (m u : Nat) : (Ieee.signed s m u).natAbs = m * 2 ^ u := by
  unfold Ieee.signed
  rw [Nat.shiftLeft_eq]
  cases s <;> simp [Int.natAbs_mul, Int.natAbs_pow]

/-- a float that may be, and is no NaN, is a whole number's word -/
theorem may_wb {x : Nat} (hx : x < 18446744073709551616) (h : mayF x = true) (hs : feq x x = true) : ∃ X : Nat, X < 9007199254740992 ∧ x % 9223372036854775808 = wb X ∧ (X = 0 → x = 0) := by
  obtain ⟨s, M, i, hd⟩ := num_of_may hx h hs
  obtain ⟨b1, b2⟩ := f2i_may hx h hs
  have hfq : feq (FloatKind.f64.nearest (f2i x)) x = true := by
    rw [feq_near hd]
    unfold mayF at h
    rw [hs] at h
    simp only [Bool.not_true, Bool.false_or, Bool.and_eq_true] at h
    exact h.1.1
  obtain ⟨hsg, hp⟩ := read_parts (x := x) hd
  have e63 : (2 : Nat) ^ 63 = 9223372036854775808 := by decide
  have e52 : (2 : Nat) ^ 52 = 4503599627370496 := by decide
  have e53 : (2 : Nat) ^ 53 = 9007199254740992 := by decide
  by_cases h0 : f2i x = 0
  · refine ⟨0, by omega, ?_⟩
    rw [h0] at hfq
    have hz : FloatKind.f64.format.read (FloatKind.f64.nearest 0) = .number false 0 (-1074) := by kernel_rfl
    have hM : M = 0 := by
      unfold feq Ieee.Format.order at hfq
      rw [hz, show FloatKind.f64.format.read x = _ from hd] at hfq
      have hfq : (some (compare (Ieee.signed false 0 (-1074 - min (-1074) i).toNat) (Ieee.signed s M (i - min (-1074) i).toNat)) == some Ordering.eq) = true := hfq
      have hfq : compare (Ieee.signed false 0 (-1074 - min (-1074) i).toNat) (Ieee.signed s M (i - min (-1074) i).toNat) = .eq := by simpa using hfq
      rw [icmp_eq] at hfq
      have := congrArg Int.natAbs hfq
      rw [signed_abs, signed_abs, Nat.zero_mul] at this
      rcases Nat.mul_eq_zero.1 this.symm with h | h
      · exact h
      · have := Nat.two_pow_pos (i - min (-1074) i).toNat; omega
    have hr : x % 2 ^ 63 = 0 := by
      rcases hp with ⟨_, p2, _⟩ | ⟨_, _, p3, _⟩
      · omega
      · omega
    refine ⟨by rw [wb_zero, ← e63]; exact hr, fun _ => ?_⟩
    unfold mayF at h
    rw [hs] at h
    simp only [Bool.not_true, Bool.false_or, Bool.and_eq_true] at h
    have h3 := h.2
    rcases (show x = 0 ∨ x = 9223372036854775808 by omega) with rfl | rfl
    · rfl
    · exfalso
      have : (!feq 9223372036854775808 0 || !sgnF 9223372036854775808) = false := by kernel_rfl
      rw [this] at h3; cases h3
  · have hN0 : 0 < (f2i x).natAbs := by omega
    have hNM : (f2i x).natAbs < 9007199254740992 := by omega
    have hrd := near_decode b1 b2 h0
    have h1 := kb_lo hN0 hNM
    have h2 := kb_hi hN0 hNM
    have hl := log_le hN0 hNM
    refine ⟨(f2i x).natAbs, hNM, ?_, fun h => by omega⟩
    unfold feq Ieee.Format.order at hfq
    rw [show FloatKind.f64.format.read (FloatKind.f64.nearest (f2i x)) = _ from hrd, show FloatKind.f64.format.read x = _ from hd] at hfq
    generalize hNe : (f2i x).natAbs = N at *
    have hfq : (some (compare (Ieee.signed (decide (f2i x < 0)) (N * 2 ^ (52 - N.log2)) (((N.log2 : Int) - 52) - min ((N.log2 : Int) - 52) i).toNat) (Ieee.signed s M (i - min ((N.log2 : Int) - 52) i).toNat)) == some Ordering.eq) = true := hfq
    have hfq : compare (Ieee.signed (decide (f2i x < 0)) (N * 2 ^ (52 - N.log2)) (((N.log2 : Int) - 52) - min ((N.log2 : Int) - 52) i).toNat) (Ieee.signed s M (i - min ((N.log2 : Int) - 52) i).toNat) = .eq := by simpa using hfq
    rw [icmp_eq] at hfq
    have hq := congrArg Int.natAbs hfq
    rw [signed_abs, signed_abs] at hq
    have hq : kb N * 2 ^ (((N.log2 : Int) - 52) - min ((N.log2 : Int) - 52) i).toNat = M * 2 ^ (i - min ((N.log2 : Int) - 52) i).toNat := hq
    have big : ∀ (a b u : Nat), a = b * 2 ^ u → 0 < u → 2 * b ≤ a := fun a b u h hu => by
      obtain ⟨v, rfl⟩ : ∃ v, u = v + 1 := ⟨u - 1, by omega⟩
      rw [h, Nat.pow_succ]
      have := Nat.two_pow_pos v
      have := Nat.mul_le_mul_left b (show 2 ≤ 2 ^ v * 2 by omega)
      omega
    rcases Int.lt_trichotomy ((N.log2 : Int) - 52) i with hlt | heq | hgt
    · exfalso
      have a1 : (((N.log2 : Int) - 52) - min ((N.log2 : Int) - 52) i).toNat = 0 := by omega
      rw [a1, Nat.pow_zero, Nat.mul_one] at hq
      have := big _ _ _ hq (by omega)
      rcases hp with ⟨_, _, p3⟩ | ⟨_, _, p3, _⟩ <;> omega
    · have a1 : (((N.log2 : Int) - 52) - min ((N.log2 : Int) - 52) i).toNat = 0 := by omega
      have a2 : (i - min ((N.log2 : Int) - 52) i).toNat = 0 := by omega
      rw [a1, a2, Nat.pow_zero, Nat.mul_one, Nat.mul_one] at hq
      unfold wb
      rw [if_neg (by omega)]
      rcases hp with ⟨p1, p2, p3⟩ | ⟨p1, p2, p3, p4⟩ <;> omega
    · exfalso
      have a2 : (i - min ((N.log2 : Int) - 52) i).toNat = 0 := by omega
      rw [a2, Nat.pow_zero, Nat.mul_one] at hq
      have := big _ _ _ hq.symm (by omega)
      rcases hp with ⟨p1, p2, p3⟩ | ⟨p1, p2, p3, p4⟩ <;> omega
end Go.Proofs.YtbmekbpgoakkbaaGreatDoor.Vx
set_option linter.unusedVariables false
set_option linter.unusedSimpArgs false
set_option linter.constructorNameAsVariable false
set_option linter.unusedSectionVars false
namespace Go.Proofs.YtbmekbpgoakkbaaGreatDoor.Vx
open Go
set_option maxRecDepth 100000

/-- below B nothing turned, and nothing there may be written -/
structure Calm (B : Nat) (w0 : World) (E : Env) (h : Heap) (w : World) : Prop where
  below : RowKit.Below B w0 w
  size : B ≤ w.heap.size
  nofp : ∀ k, k < B → ¬ fp E h k
theorem Calm.goes {B : Nat} {w0 : World} {E E' : Env} {h h' : Heap} {w w' : World} (c : Calm B w0 E h w) (g : Goes E h w E' h' w') : Calm B w0 E' h' w' :=
  ⟨⟨g.os.trans c.below.os, g.tape.trans c.below.tape, g.output.trans c.below.output, Nat.le_trans c.below.size g.size, fun k hk => (g.fr k (Nat.lt_of_lt_of_le hk c.size) (c.nofp k hk)).trans (c.below.block k hk)⟩,
    Nat.le_trans c.size g.size, fun k hk hf => c.nofp k hk (g.fpm k (Nat.lt_of_lt_of_le hk c.size) hf)⟩

/-- what a piece of code leaves, beside what was at first: E0, h0 -/
def LeavesB (B : Nat) (w0 : World) (E0 : Env) (F nt : Nat) (kn : S) (kx : Nat → S) (kr : S) : Exit → Act → World → Prop := fun e a' w' =>
  ∃ E' regs' h' nxt', St [] E' regs' h' nxt' nt a' w' ∧ Calm B w0 E' h' w' ∧ E0.le E' ∧ flr h' = F ∧ (match e with
    | .normal => kn regs' h' nxt' = true
    | .exit i => kx (Nat.mul 2 (Nat.succ i)) regs' h' nxt' = true
    | .ret => kr regs' h' nxt' = true
    | _ => False)

theorem Leaves.toB {B : Nat} {w0 : World} {E0 E : Env} {F nt : Nat} {h : Heap} {w : World} {kn : S} {kx : Nat → S} {kr : S} {e : Exit} {a' : Act} {w' : World} (hp : ∀ regs h n, kx 0 regs h n = false) (hg : ∀ l regs h n, kx (Nat.succ (Nat.mul 2 l)) regs h n = false)
    (c : Calm B w0 E h w) (hE : E0.le E) (hF : flr h = F) (l : Leaves [] E h w nt kn kx kr e a' w') : LeavesB B w0 E0 F nt kn kx kr e a' w' := by
  obtain ⟨E', regs', h', nxt', st, g, hk⟩ := l
  refine ⟨E', regs', h', nxt', st, c.goes g, Env.le_trans hE g.ext, g.flr.trans hF, ?_⟩
  cases e with
  | normal | exit | ret => exact hk
  | goto l =>
    have hk : kx (Nat.succ (Nat.mul 2 l)) regs' h' nxt' = true := hk
    rw [hg] at hk; cases hk
  | panic l =>
    obtain ⟨_, V, v, _, _, hk⟩ := hk
    rw [hp] at hk; cases hk
  | outgrown => exact hk.elim

/-- the loops of a code, the outermost -/
def loopsOf : Code → List Code
  | .seq a b => loopsOf a ++ loopsOf b
  | .cond _ a b => loopsOf a ++ loopsOf b
  | .block _ c => loopsOf c
  | .loop c => [c]
  | _ => []

noncomputable def noK : S := fun _ _ _ => false
/-- ways out of a block -/
noncomputable def blkK (id : Nat) (kn : S) (kx : Nat → S) : Nat → S := fun i => bcS (Nat.beq i (Nat.mul 2 (Nat.succ id))) kn (kx i)

noncomputable def evCodeJ (P : Program) (call : CallF) (ext : Exts) (draw : DrawF) (nt : Nat) (J : S) (c : Code) : S → (Nat → S) → S → S :=
  Code.rec (motive := fun _ => S → (Nat → S) → S → S)
    (fun kn _ _ => kn)
    (fun _ ops d kn kx _ regs h nxt => bc d (draw ops nt noK kn regs h nxt) (evOps P call ext nt ops ops.toList noK kn regs h nxt))
    (fun _ _ iha ihb kn kx kr => iha (ihb kn kx kr) kx kr)
    (fun x _ _ iht ihe kn kx kr regs h nxt => opd regs x fun v => condK v h (fun h => iht kn kx kr regs h nxt) (fun h => ihe kn kx kr regs h nxt))
    (fun id _ ih kn kx kr => ih kn (blkK id kn kx) kr)
    (fun _ _ _ _ _ => J)
    (fun _ _ _ _ _ _ _ _ _ _ _ _ => false)
    (fun id _ kx _ => kx (Nat.mul 2 (Nat.succ id)))
    (fun _ _ _ _ _ _ _ _ => false)
    (fun _ _ _ _ _ _ _ => false)
    (fun _ _ _ _ _ _ _ => false)
    (fun _ _ kr => kr)
    (fun _ _ _ _ _ _ _ => false) c

/-- the same but for panics and jumps -/
noncomputable def calmK (kx : Nat → S) : Nat → S := fun i => bcS (Nat.beq i 0) noK (bcS (Nat.beq (Nat.mod i 2) 1) noK (kx i))
theorem calmK_zero (kx : Nat → S) (regs : Regs) (h : Heap) (n : Nat) : calmK kx 0 regs h n = false := rfl
theorem calmK_odd (kx : Nat → S) (l : Nat) (regs : Regs) (h : Heap) (n : Nat) : calmK kx (Nat.succ (Nat.mul 2 l)) regs h n = false := by
  unfold calmK
  have e : Nat.beq (Nat.mod (Nat.succ (Nat.mul 2 l)) 2) 1 = true := by
    rw [show Nat.mod (Nat.succ (Nat.mul 2 l)) 2 = 1 from (by show (2 * l + 1) % 2 = 1; omega)]; rfl
  rw [e]
  cases Nat.beq (Nat.succ (Nat.mul 2 l)) 0 <;> rfl
theorem calmK_even (kx : Nat → S) (i : Nat) : calmK kx (Nat.mul 2 (Nat.succ i)) = kx (Nat.mul 2 (Nat.succ i)) := by
  unfold calmK
  have e1 : Nat.beq (Nat.mul 2 (Nat.succ i)) 0 = false := rfl
  have e2 : Nat.beq (Nat.mod (Nat.mul 2 (Nat.succ i)) 2) 1 = false := by
    rw [show Nat.mod (Nat.mul 2 (Nat.succ i)) 2 = 0 from Nat.mul_mod_right 2 (i + 1)]; rfl
  rw [e1, e2]; rfl

theorem evCodeJ_ok {P : Program} {call : CallF} {ext : Exts} {draw : DrawF} (hcall : CallOK P call) (hext : ExtOK P ext) (hdraw : DrawOK P draw) {nt : Nat} {J : S} {B : Nat} {w0 : World} {E0 : Env} {F : Nat} {kr : S} :
    ∀ (c : Code), (∀ l ∈ loopsOf c, ∀ (kn : S) (kx : Nat → S) (E : Env) (regs : Regs) (h : Heap) (nxt : Nat) (a : Act) (w : World), J regs h nxt = true → St [] E regs h nxt nt a w → Calm B w0 E h w → E0.le E → flr h = F → (Code.loop l).wp P (LeavesB B w0 E0 F nt kn kx kr) a w) →
      ∀ (kn : S) (kx : Nat → S) (E : Env) (regs : Regs) (h : Heap) (nxt : Nat) (a : Act) (w : World), evCodeJ P call ext draw nt J c kn kx kr regs h nxt = true → St [] E regs h nxt nt a w → Calm B w0 E h w → E0.le E → flr h = F →
        c.wp P (LeavesB B w0 E0 F nt kn kx kr) a w := by
  intro c
  induction c with
  | skip => exact fun _ kn kx E regs h nxt a w he st cm hE hF => wp_skip ⟨E, regs, h, nxt, st, cm, hE, hF, he⟩
  | region id ops d =>
    intro _ kn kx E regs h nxt a w he st cm hE hF
    have toB : ∀ e a' w', Leaves [] E h w nt kn (fun _ => noK) noK e a' w' → LeavesB B w0 E0 F nt kn kx kr e a' w' := fun e a' w' l => by
      obtain ⟨E', regs', h', nxt', s1, s2, s3, s4, hk⟩ := Leaves.toB (fun _ _ _ => rfl) (fun _ _ _ _ => rfl) cm hE hF l
      refine ⟨E', regs', h', nxt', s1, s2, s3, s4, ?_⟩
      cases e with
      | normal => exact hk
      | exit i => cases hk
      | ret => cases hk
      | goto l => exact hk.elim
      | panic l => exact hk.elim
      | outgrown => exact hk.elim
    rcases bc_or he with ⟨rfl, he⟩ | ⟨rfl, he⟩
    · exact wp_mono (hdraw [] id ops nt kn (fun _ => noK) noK E regs h nxt a w he st) toB
    · have := evOps_ok hcall hext (kx := fun _ => noK) (kr := noK) ops.toList 0 (by simp) he st
      rw [← List.range_eq_range', Array.length_toList] at this
      exact wp_mono (wp_region this) toB
  | seq x y ihx ihy =>
    intro hJ kn kx E regs h nxt a w he st cm hE hF
    refine wp_seq (wp_mono (ihx (fun l hl => hJ l (List.mem_append_left _ hl)) (evCodeJ P call ext draw nt J y kn kx kr) kx E regs h nxt a w he st cm hE hF) ?_)
    intro e a' w' hl
    cases e with
    | normal =>
      obtain ⟨E', regs', h', nxt', st', cm', hE', hF', hk⟩ := hl
      exact ihy (fun l hl => hJ l (List.mem_append_right _ hl)) kn kx E' regs' h' nxt' a' w' hk st' cm' hE' hF'
    | _ => exact hl
  | cond x t e iht ihe =>
    intro hJ kn kx E regs h nxt a w he st cm hE hF
    have he : opd regs x (fun v => condK v h (fun h => evCodeJ P call ext draw nt J t kn kx kr regs h nxt) (fun h => evCodeJ P call ext draw nt J e kn kx kr regs h nxt)) = true := he
    obtain ⟨v, rv, he⟩ := opd_ok he st.regs
    obtain ⟨b, h1, hv, hr1, fk, he⟩ := condK_ok he rv st.heap
    have cm1 := cm.goes (w' := w) (E' := E) fk.goes
    have hF1 : flr h1 = F := fk.flr.trans hF
    refine wp_cond hv ?_
    rcases he with ⟨rfl, he⟩ | ⟨rfl, he⟩
    · exact iht (fun l hl => hJ l (List.mem_append_left _ hl)) kn kx E regs h1 nxt a w he ⟨st.regs, st.size, st.defers, hr1, trivial⟩ cm1 hE hF1
    · exact ihe (fun l hl => hJ l (List.mem_append_right _ hl)) kn kx E regs h1 nxt a w he ⟨st.regs, st.size, st.defers, hr1, trivial⟩ cm1 hE hF1
  | block id c ih =>
    intro hJ kn kx E regs h nxt a w he st cm hE hF
    refine wp_block (wp_mono (ih hJ kn (blkK id kn kx) E regs h nxt a w he st cm hE hF) ?_)
    intro e a' w' hl
    cases e with
    | exit i =>
      obtain ⟨E', regs', h', nxt', st', cm', hE', hF', hk⟩ := hl
      simp only [Exit.inBlock]
      have hk : bcS (Nat.beq (Nat.mul 2 (Nat.succ i)) (Nat.mul 2 (Nat.succ id))) kn (kx (Nat.mul 2 (Nat.succ i))) regs' h' nxt' = true := hk
      rw [bcS_eq] at hk
      rcases bc_or hk with ⟨hi, hk⟩ | ⟨hi, hk⟩
      · have hi : 2 * (i + 1) = 2 * (id + 1) := Nat.eq_of_beq_eq_true hi
        rw [if_pos (by omega)]
        exact ⟨E', regs', h', nxt', st', cm', hE', hF', hk⟩
      · have hi : 2 * (i + 1) ≠ 2 * (id + 1) := Nat.ne_of_beq_eq_false hi
        rw [if_neg (by omega)]
        exact ⟨E', regs', h', nxt', st', cm', hE', hF', hk⟩
    | goto l => obtain ⟨_, _, _, _, _, _, _, _, hk⟩ := hl; exact hk.elim
    | panic l => obtain ⟨_, _, _, _, _, _, _, _, hk⟩ := hl; exact hk.elim
    | outgrown => obtain ⟨_, _, _, _, _, _, _, _, hk⟩ := hl; exact hk.elim
    | _ => exact hl
  | loop c ih => exact fun hJ kn kx E regs h nxt a w he st cm hE hF => hJ c (by simp [loopsOf]) kn kx E regs h nxt a w he st cm hE hF
  | exit id => exact fun _ kn kx E regs h nxt a w he st cm hE hF => wp_exit ⟨E, regs, h, nxt, st, cm, hE, hF, he⟩
  | ret => exact fun _ kn kx E regs h nxt a w he st cm hE hF => wp_ret ⟨E, regs, h, nxt, st, cm, hE, hF, he⟩
  | _ => intro _ kn kx E regs h nxt a w he; cases he

/-! ### The loop's head -/
/-- what is told at a head: registers, rows, the next place -/
structure Can where
  rs : List (Nat × AV)
  R : Rows
  N : Nat
noncomputable def regsOf (rs : List (Nat × AV)) : Regs := List.rec (motive := fun _ => Regs) big (fun p _ ih => T.set p.2 ih p.1) rs
noncomputable def regsIn (rs : List (Nat × AV)) (regs : Regs) : Bool := List.rec (motive := fun _ => Bool) true (fun p _ ih => bc (sameX (T.get .no regs p.1) p.2) ih false) rs
theorem regsOf_get (rs : List (Nat × AV)) (t : Nat) : T.get .no (regsOf rs) t = .no ∨ ∃ v, (t, v) ∈ rs ∧ T.get .no (regsOf rs) t = v := by
  induction rs with
  | nil => exact .inl (by show T.get AV.no big t = .no; unfold big; exact T.get_full _ _ _)
  | cons p rs ih =>
    show T.get .no (T.set p.2 (regsOf rs) p.1) t = .no ∨ ∃ v, (t, v) ∈ p :: rs ∧ T.get .no (T.set p.2 (regsOf rs) p.1) t = v
    by_cases e : t = p.1
    · subst e
      rcases T.get_set_eq AV.no p.2 (regsOf rs) p.1 with g | g
      · exact .inr ⟨p.2, List.mem_cons_self, g⟩
      · exact .inl g
    · rw [T.get_set_ne _ _ _ _ _ e]
      rcases ih with g | ⟨v, hv, g⟩
      · exact .inl g
      · exact .inr ⟨v, List.mem_cons_of_mem _ hv, g⟩
theorem regsIn_ok {regs : Regs} : ∀ {rs : List (Nat × AV)}, regsIn rs regs = true → ∀ t v, (t, v) ∈ rs → T.get .no regs t = v
  | [], _, _, _, h => by cases h
  | p :: rs, he, t, v, h => by
    have he : bc (sameX (T.get .no regs p.1) p.2) (regsIn rs regs) false = true := he
    obtain ⟨h1, he⟩ := bc_and he
    rcases List.mem_cons.1 h with e | h
    · cases e; exact sameX_ok h1
    · exact regsIn_ok he t v h
noncomputable def atB (F m : Nat) (c : Can) : S := fun regs h nxt => bc (regsIn c.rs regs) (bc (Nat.ble nxt c.N) (bc (Nat.ble m c.N) (bc (okR F c.R) (samePs h c.R) false) false) false) false

theorem head {E0 E : Env} {h0 h : Heap} {m F nxt : Nat} {w0 w : World} {regs : Regs} {nt : Nat} {a : Act} {c : Can} (h1 : 1 ≤ F) (hr0 : HR E0 h0 m w0) (nf0 : ∀ k, ¬ fp E0 h0 k) (hF0 : flr h0 = F)
    (he : atB F m c regs h nxt = true) (st : St [] E regs h nxt nt a w) (cm : Calm w0.heap.size w0 E h w) (hE : E0.le E) (hF : flr h = F) :
    St [] E (regsOf c.rs) (rowsH c.R h0) c.N nt a w ∧ Calm w0.heap.size w0 E (rowsH c.R h0) w ∧ flr (rowsH c.R h0) = F := by
  obtain ⟨k1, he⟩ := bc_and he
  obtain ⟨k2, he⟩ := bc_and he
  obtain ⟨k3, he⟩ := bc_and he
  obtain ⟨k4, k5⟩ := bc_and he
  have k1 := regsIn_ok k1
  have k2 := Nat.le_of_ble_eq_true k2
  have k3 := Nat.le_of_ble_eq_true k3
  have k4 := okR_ok k4
  have hr := st.heap
  have known : ∀ i L, (T.get .gone h0 i).live = true → E i = some L → E0 i = some L := fun i L hl hL => by
    obtain ⟨L0, hL0⟩ := ro_spot (hr0.obj i) hl
    have := hE i L0 hL0
    rw [hL] at this; cases this; exact hL0
  have row : ∀ i o, (i, o) ∈ c.R → (T.get .gone h i).live = true ∧ RO E w i (.cells o.n o.esz (wrCs o.l ⟨o.w, bigR⟩ 0)) := fun i o ho => by
    obtain ⟨_, hp⟩ := samePs_ok k5 _ ho
    obtain ⟨cc, c1, c2, c3⟩ := sameP_ok hp
    have := hr.obj i
    dsimp only at c1
    rw [c1] at this
    exact ⟨by rw [c1]; rfl, ro_row c2 c3 this⟩
  have parts : ∀ i, (T.get .gone (rowsH c.R h0) i).live = true → (inR i c.R = false ∧ (T.get .gone h0 i).live = true) ∨ (inR i c.R = true ∧ (T.get .gone h i).live = true) := fun i hi => by
    rcases rowsH_get2 c.R h0 i with ⟨e, g⟩ | ⟨e, g | ⟨o, ho, g⟩⟩
    · exact .inl ⟨e, by rw [g] at hi; exact hi⟩
    · rw [g] at hi; cases hi
    · exact .inr ⟨e, (row i o ho).1⟩
  have geF : ∀ i, inR i c.R = true → F ≤ i := fun i hi => by
    obtain ⟨o, ho⟩ := of_inR hi
    exact k4 i o ho
  have low : inR 0 c.R = false := by
    cases e : inR 0 c.R with
    | false => rfl
    | true => have := geF 0 e; omega
  have zero : T.get .gone (rowsH c.R h0) 0 = T.get .gone h0 0 := by
    rcases rowsH_get2 c.R h0 0 with ⟨_, g⟩ | ⟨e, _⟩
    · exact g
    · rw [low] at e; cases e
  have flr' : flr (rowsH c.R h0) = F := by unfold flr; rw [zero]; exact hF0
  have isfp : ∀ j M, inR j c.R = true → (T.get .gone h j).live = true → E j = some M → fp E h M.blk := fun j M h1 h2 h3 => ⟨j, M, by rw [hF]; exact geF j h1, h2, h3, rfl⟩
  have cross : ∀ i j L M, (T.get .gone h0 i).live = true → inR j c.R = true → (T.get .gone h j).live = true → E i = some L → E j = some M → L.blk ≠ M.blk := fun i j L M hi hj hl hL hM e => by
    have := hr0.inw i L (known i L hi hL)
    exact cm.nofp M.blk (by rw [← e]; exact this) (isfp j M hj hl hM)
  refine ⟨⟨fun t => ?_, st.size, st.defers, ?_, trivial⟩, ⟨cm.below, cm.size, fun k hk ⟨i, L, a1, a2, a3, a4⟩ => ?_⟩, flr'⟩
  · rcases regsOf_get c.rs t with g | ⟨v, hv, g⟩
    · rw [g]; simp [Rv]
    · rw [g, ← k1 t v hv]; exact st.regs t
  · refine ⟨fun i => ?_, fun i j L M hi hj hL hM e => ?_, fun i hi => ?_, fun i hi => hr.fresh i (by omega), hr.inw, by have := hr.pos; omega, by rw [flr']; have := hr.flle; omega, by rw [zero]; exact hr0.zero⟩
    · rcases rowsH_get2 c.R h0 i with ⟨e, g⟩ | ⟨e, g | ⟨o, ho, g⟩⟩
      · rw [g]
        cases hl : (T.get .gone h0 i).live with
        | false => exact ro_dead hE (hr0.obj i) hl
        | true =>
          obtain ⟨L0, hL0⟩ := ro_spot (hr0.obj i) hl
          refine RO.wide hE (RO.same (fun M hM => ?_) (hr0.obj i))
          exact cm.below.block M.blk (hr0.inw i M hM)
      · rw [g]; trivial
      · rw [g]; exact (row i o ho).2
    · rcases parts i hi with ⟨i1, i2⟩ | ⟨i1, i2⟩ <;> rcases parts j hj with ⟨j1, j2⟩ | ⟨j1, j2⟩
      · exact hr0.inj i j L M i2 j2 (known i L i2 hL) (known j M j2 hM) e
      · exact absurd e (cross i j L M i2 j1 j2 hL hM)
      · exact absurd e.symm (cross j i M L j2 i1 i2 hM hL)
      · exact hr.inj i j L M i2 j2 hL hM e
    · cases hl : (T.get .gone (rowsH c.R h0) i).live with
      | false => rfl
      | true =>
        rcases parts i hl with ⟨_, i2⟩ | ⟨_, i2⟩
        · rw [hr0.lt i (by omega)] at i2; cases i2
        · rw [hr.lt i (by omega)] at i2; cases i2
  · rcases parts i a2 with ⟨i1, i2⟩ | ⟨i1, i2⟩
    · exact nf0 k ⟨i, L, by rw [hF0]; rw [flr'] at a1; exact a1, i2, known i L i2 a3, a4⟩
    · rw [← a4] at hk
      exact cm.nofp L.blk hk (isfp i L i1 i2 a3)

/-- a round, run by itself -/
noncomputable def roundB (P : Program) (call : CallF) (ext : Exts) (draw : DrawF) (nt : Nat) (cl : Code) (h0 : Heap) (c : Can) (kn kr : S) : Bool :=
  rowsK c.R h0 fun h => evCodeJ P call ext draw nt noK cl kn (fun _ => noK) kr (regsOf c.rs) h c.N

theorem loop_ok {P : Program} {call : CallF} {ext : Exts} {draw : DrawF} (hcall : CallOK P call) (hext : ExtOK P ext) (hdraw : DrawOK P draw) {nt : Nat} {E0 : Env} {h0 : Nat → Heap} {m F K : Nat} {w0 : World} {kr : S} {cl : Code} {cans : Nat → Can}
    (h1 : 1 ≤ F) (hr0 : ∀ k, HR E0 (h0 k) m w0 ∧ (∀ b, ¬ fp E0 (h0 k) b) ∧ flr (h0 k) = F) (hn : loopsOf cl = [])
    (hit : ∀ k, k < K → roundB P call ext draw nt cl (h0 k) (cans k) (atB F m (cans (k + 1))) kr = true) (hlast : roundB P call ext draw nt cl (h0 K) (cans K) noK kr = true)
    (kn : S) (kx : Nat → S) (E : Env) (regs : Regs) (h : Heap) (nxt : Nat) (a : Act) (w : World) (he : atB F m (cans 0) regs h nxt = true) (st : St [] E regs h nxt nt a w) (cm : Calm w0.heap.size w0 E h w) (hE : E0.le E) (hF : flr h = F) :
    (Code.loop cl).wp P (LeavesB w0.heap.size w0 E0 F nt kn kx kr) a w := by
  refine wp_loop_rounds (K + 1) ?_
  have key : ∀ (n k : Nat), k + n = K → ∀ (E : Env) (regs : Regs) (h : Heap) (nxt : Nat) (a : Act) (w : World), atB F m (cans k) regs h nxt = true → St [] E regs h nxt nt a w → Calm w0.heap.size w0 E h w → E0.le E → flr h = F →
      Code.rounds P cl (LeavesB w0.heap.size w0 E0 F nt kn kx kr) (n + 1) a w := by
    intro n
    induction n with
    | zero =>
      intro k hk E regs h nxt a w he st cm hE hF
      obtain rfl : k = K := by omega
      obtain ⟨st1, cm1, hF1⟩ := head h1 (hr0 k).1 (hr0 k).2.1 (hr0 k).2.2 he st cm hE hF
      have hl := hlast
      unfold roundB at hl
      rw [rowsK_eq] at hl
      rw [rounds_succ]
      refine wp_mono (evCodeJ_ok hcall hext hdraw cl (fun l hl => by rw [hn] at hl; cases hl) _ _ E _ _ _ a w hl st1 cm1 hE hF1) ?_
      intro e a' w' hh
      obtain ⟨E', regs', h', nxt', s1, s2, s3, s4, hk⟩ := hh
      cases e with
      | normal => cases hk
      | exit i => cases hk
      | ret => exact ⟨E', regs', h', nxt', s1, s2, s3, s4, hk⟩
      | goto l => exact hk.elim
      | panic l => exact hk.elim
      | outgrown => exact hk.elim
    | succ n ih =>
      intro k hk E regs h nxt a w he st cm hE hF
      obtain ⟨st1, cm1, hF1⟩ := head h1 (hr0 k).1 (hr0 k).2.1 (hr0 k).2.2 he st cm hE hF
      have hl := hit k (by omega)
      unfold roundB at hl
      rw [rowsK_eq] at hl
      rw [rounds_succ]
      refine wp_mono (evCodeJ_ok hcall hext hdraw cl (fun l hl => by rw [hn] at hl; cases hl) _ _ E _ _ _ a w hl st1 cm1 hE hF1) ?_
      intro e a' w' hh
      obtain ⟨E', regs', h', nxt', s1, s2, s3, s4, hk'⟩ := hh
      cases e with
      | normal => exact ih (k + 1) (by omega) E' regs' h' nxt' a' w' hk' s1 s2 s3 s4
      | exit i => cases hk'
      | ret => exact ⟨E', regs', h', nxt', s1, s2, s3, s4, hk'⟩
      | goto l => exact hk'.elim
      | panic l => exact hk'.elim
      | outgrown => exact hk'.elim
  exact key K 0 (by omega) E regs h nxt a w he st cm hE hF

/-- the whole function: true -/
noncomputable def retT (P : Program) (fn : Func) : S := fun regs h nxt => evRes P fn regs h fun v => finT v h
theorem lawJ {P : Program} {call : CallF} {ext : Exts} {draw : DrawF} (hcall : CallOK P call) (hext : ExtOK P ext) (hdraw : DrawOK P draw) {g : FuncId} {fn : Func} {c cl : Code} (hfn : P.funcs[g]? = some fn) (hb : fn.body = some c) (hc : loopsOf c = [cl]) (hn : loopsOf cl = [])
    {args : List AV} {ARGS : Array Value} {E0 : Env} {h0 : Heap} {h0s : Nat → Heap} {m F K : Nat} {w0 : World} {cans : Nat → Can} (ra : RvL E0 args ARGS.toList) (hle : args.length ≤ fn.ntmps)
    (h1 : 1 ≤ F) (hr0 : HR E0 h0 m w0) (nf0 : ∀ k, ¬ fp E0 h0 k) (hF0 : flr h0 = F) (hr0s : ∀ k, HR E0 (h0s k) m w0 ∧ (∀ b, ¬ fp E0 (h0s k) b) ∧ flr (h0s k) = F)
    (hfirst : evCodeJ P call ext draw fn.ntmps (atB F m (cans 0)) c (retT P fn) (fun _ => noK) (retT P fn) (wrLs args big 0) h0 m = true)
    (hit : ∀ k, k < K → roundB P call ext draw fn.ntmps cl (h0s k) (cans k) (atB F m (cans (k + 1))) (retT P fn) = true) (hlast : roundB P call ext draw fn.ntmps cl (h0s K) (cans K) noK (retT P fn) = true) :
    Calls P g ARGS w0 fun e w' => e = .returned (.bool true) ∧ RowKit.Below w0.heap.size w0 w' := by
  have st := st_enter ra hle hr0 trivial
  have cm0 : Calm w0.heap.size w0 E0 h0 w0 := ⟨RowKit.Below.refl _ _, Nat.le_refl _, fun k _ => nf0 k⟩
  refine calls_of_wp hfn hb (wp_mono (evCodeJ_ok hcall hext hdraw (B := w0.heap.size) (w0 := w0) (E0 := E0) (F := F) (kr := retT P fn) c (fun l hl => ?_) _ _ E0 _ h0 m _ w0 hfirst st cm0 (Env.le_refl _) hF0) ?_)
  · rw [hc] at hl
    obtain rfl : l = cl := by simpa using hl
    exact fun kn kx E regs h nxt a w he st cm hE hF => loop_ok hcall hext hdraw h1 hr0s hn hit hlast kn kx E regs h nxt a w he st cm hE hF
  · intro e a' w' hl
    obtain ⟨E', regs', h', nxt', st', cm', hE', hF', hk⟩ := hl
    have fin : retT P fn regs' h' nxt' = true → a'.defers = [] ∧ ∃ v, (results fn a'.tmps).run P w' = .ok v w' ∧ (Ending.returned v = .returned (.bool true) ∧ RowKit.Below w0.heap.size w0 w') := by
      intro hk
      obtain ⟨v, V, h1, h2, h3⟩ := evRes_ok hk st'
      obtain ⟨x, _, rfl, _, _, hx⟩ := condK_ok h3 h2 st'.heap
      rcases hx with ⟨rfl, _⟩ | ⟨_, hx⟩
      · exact ⟨st'.defers, _, h1, rfl, cm'.below⟩
      · cases hx
    cases e with
    | normal => exact fin hk
    | ret => exact fin hk
    | exit i => cases hk
    | goto l => exact hk.elim
    | panic l => exact hk.elim
    | outgrown => exact hk.elim
end Go.Proofs.YtbmekbpgoakkbaaGreatDoor.Vx
