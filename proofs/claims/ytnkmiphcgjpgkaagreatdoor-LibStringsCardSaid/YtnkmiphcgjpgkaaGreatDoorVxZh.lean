/- A descriptor's check as one expression; a bool as a value. No condition. -/
import Derived.Test.YtnkmiphcgjpgkaaGreatDoorVxZg
set_option linter.unusedVariables false
set_option linter.unusedSimpArgs false
set_option linter.constructorNameAsVariable false
namespace Go.Proofs.YtnkmiphcgjpgkaaGreatDoor.Vx
open Go
set_option maxRecDepth 100000

noncomputable def asB (v : AV) (k : SE → Bool) : Bool := match v with
  | .b x => k (.lb x)
  | .x .b e => k e
  | _ => false
theorem asB_ok {E : Env} {v : AV} {V : Value} {k : SE → Bool} (he : asB v k = true) (r : Rv E v V) : ∃ e x, V = .bool x ∧ den E e = some (.bool x) ∧ k e = true := by
  unfold asB at he
  split at he
  · rw [Rv] at r; subst r; exact ⟨_, _, rfl, rfl, he⟩
  · simp only [Rv, hasS] at r
    obtain ⟨hd, n, rfl⟩ := r
    exact ⟨_, _, rfl, hd, he⟩
  · cases he

/-- a bool, as a value -/
noncomputable def boolC : Ct := fun args h nxt k => match args with
  | [.x .b e] => bc (hasSy e) (k (.ag [.i .u8 2, .x .f (.fn 13 e), .s 0 0, .i .i64 0]) h nxt) false
  | _ => false
theorem boolC_ok {P : Program} {g : FuncId} (H : ∀ (b : Bool) (w : World), 0 < w.heap.size → Calls P g #[.bool b] w fun e w' => e = .returned (.agg #[.int .u8 2, .float .f64 (if b then 0x3ff0000000000000 else 0), .string (str 0 0), .int .i64 0]) ∧ RowKit.Below w.heap.size w w') : CtOK P g boolC := by
  apply ctExpr
  intro args ARGS E h nxt w k he ra hr
  unfold boolC at he
  split at he <;> try (cases he; done)
  obtain ⟨h1, he1⟩ := bc_and he
  obtain ⟨X, hA, rx⟩ := ra.one
  have hA : ARGS = #[X] := by apply Array.ext'; simpa using hA
  subst hA
  simp only [Rv, hasS] at rx
  obtain ⟨da, x, rfl⟩ := rx
  refine ⟨_, h, _, he1, ?_, hr, Fk.refl h, H x w (hr.size_pos h1 da)⟩
  refine rv_ag (rvl_cons (by rw [Rv]) (rvl_cons ?_ (rvl_cons (by rw [Rv]) (rvl_cons (by rw [Rv]) rvl_nil))))
  rw [Rv]
  exact ⟨den_fn da rfl, _, rfl, by cases x <;> decide⟩

/-- a run that hands back what is written out -/
theorem sameRun {P : Program} {call : CallF} (hc : CallOK P call) {g : FuncId} {args : List AV} {ARGS : Array Value} {x : AV} (ra : RvL (symEV [] 1 []) args ARGS.toList) (hx : ∀ u, x ≠ .pk u)
    (he : setF [] (startH [] 1) (fun h => call g args h 1 (fun v _ _ => sameT v x)) = true) (w : World) (hs : 0 < w.heap.size) :
    Calls P g ARGS w fun e w' => ∃ V E, e = .returned V ∧ Rv E x V ∧ RowKit.Below w.heap.size w w' := by
  refine (closedX (fin := fun v _ => sameT v x) (Ls := []) hc rfl rfl rfl rfl (fun L hL => by cases hL) holds_nil ra ?_ he w hs (fun p hp => by cases hp)).mono ?_
  · intro v h
    cases hh : sameT (.pk v) x
    · rfl
    · exact absurd (sameT_ok hh).symm (hx v)
  · rintro e w' ⟨V, v, h', E', n', rfl, rv, hr', hle, hk, hb⟩
    obtain rfl := sameT_ok hk
    exact ⟨V, E', rfl, rv, hb⟩
theorem boolRun {P : Program} {call : CallF} (hc : CallOK P call) {g : FuncId} (h1 : setF [] (startH [] 1) (fun h => call g [.b true] h 1 (fun v _ _ => sameT v (.ag [.i .u8 2, .f .f64 0x3ff0000000000000, .s 0 0, .i .i64 0]))) = true)
    (h0 : setF [] (startH [] 1) (fun h => call g [.b false] h 1 (fun v _ _ => sameT v (.ag [.i .u8 2, .f .f64 0, .s 0 0, .i .i64 0]))) = true) (b : Bool) (w : World) (hs : 0 < w.heap.size) :
    Calls P g #[.bool b] w fun e w' => e = .returned (.agg #[.int .u8 2, .float .f64 (if b then 0x3ff0000000000000 else 0), .string (str 0 0), .int .i64 0]) ∧ RowKit.Below w.heap.size w w' := by
  have key : ∀ z E V, Rv E (.ag [.i .u8 2, .f .f64 z, .s 0 0, .i .i64 0]) V → V = .agg #[.int .u8 2, .float .f64 z, .string (str 0 0), .int .i64 0] := fun z E V r => by
    obtain ⟨A, B, C, D, rfl, ra, rb, rc, rd⟩ := rv_four r
    simp only [Rv] at ra rb rc rd
    subst ra rb rc rd; rfl
  cases b
  · refine (sameRun hc (rvl_cons (by rw [Rv]) rvl_nil) (fun u h => by cases h) h0 w hs).mono ?_
    rintro e w' ⟨V, E, rfl, rv, hb⟩
    exact ⟨by rw [key _ _ _ rv]; rfl, hb⟩
  · refine (sameRun hc (rvl_cons (by rw [Rv]) rvl_nil) (fun u h => by cases h) h1 w hs).mono ?_
    rintro e w' ⟨V, E, rfl, rv, hb⟩
    exact ⟨by rw [key _ _ _ rv]; rfl, hb⟩

/-! ### A descriptor -/
noncomputable def packE : List SE → SE
  | [] => .lb false
  | [a] => a
  | a :: b :: l => .fn2 0 a (packE (b :: l))
noncomputable def specD (c : Nat) (v1 b1 b2 c2 b3 c3 w e f : SE) : SE :=
  .and (.lb (Nat.ble c 63)) (.and (.lb (!((hasB c 1 || hasB c 2) && (hasB c 4 || hasB c 8)))) (.and (if hasB c 1 then v1 else b1) (.and (if hasB c 4 then c2 else b2) (.and (if hasB c 8 then c3 else b3)
    (.and (seOr (.not w) (.lb (hasB c 2))) (.and (seOr (.not e) (.lb (hasB c 16))) (seOr (.not f) (.lb (hasB c 32)))))))))
theorem den_ite {E : Env} {b : Bool} {x y : SE} {p q : Bool} (hx : den E x = some (.bool p)) (hy : den E y = some (.bool q)) : den E (if b then x else y) = some (.bool (if b then p else q)) := by cases b <;> simp [hx, hy]
theorem den_specD {E : Env} {c : Nat} {v1 b1 b2 c2 b3 c3 w e f : SE} {V1 B1 B2 C2 B3 C3 W F G : Bool} (h1 : den E v1 = some (.bool V1)) (h2 : den E b1 = some (.bool B1)) (h3 : den E b2 = some (.bool B2)) (h4 : den E c2 = some (.bool C2)) (h5 : den E b3 = some (.bool B3)) (h6 : den E c3 = some (.bool C3))
    (h7 : den E w = some (.bool W)) (h8 : den E e = some (.bool F)) (h9 : den E f = some (.bool G)) : den E (specD c v1 b1 b2 c2 b3 c3 w e f) = some (.bool (chkV c V1 B1 B2 C2 B3 C3 W F G)) := by
  unfold specD chkV
  exact den_and rfl (den_and rfl (den_and (den_ite h1 h2) (den_and (den_ite h4 h3) (den_and (den_ite h6 h5) (den_and (den_or (den_not h7) rfl) (den_and (den_or (den_not h8) rfl) (den_or (den_not h9) rfl)))))))
noncomputable def calledS (a b c d : SE) : SE := .and (.fn 10 (packV a b c d)) (seOr (.cmp .eql a (.li .u8 0)) (seOr (.cmp .eql a (.li .u8 7)) (.cmp .eql a (.li .u8 8))))
theorem den_called {E : Env} {a b c d : SE} {n r : Int} {x : Nat} {s : ByteArray} (ha : den E a = some (.int .u8 n)) (hb : den E b = some (.float .f64 x)) (hc : den E c = some (.string s)) (hd : den E d = some (.int .i64 r)) :
    den E (calledS a b c d) = some (.bool (calledV n x s r)) := den_and (den_may ha hb hc hd) (den_or (fact_eq ha) (den_or (fact_eq ha) (fact_eq ha)))
theorem den_bare {E : Env} {a b c d : SE} {n r : Int} {x : Nat} {s : ByteArray} (ha : den E a = some (.int .u8 n)) (hb : den E b = some (.float .f64 x)) (hc : den E c = some (.string s)) (hd : den E d = some (.int .i64 r)) :
    den E (bareS a b c d) = some (.bool (bareV n x s r)) := den_and (den_may ha hb hc hd) (den_and (fact_eq ha) (den_and (den_feq hb rfl) (den_and (den_empty hc) (fact_eq hd))))

def kindsD : List TypeDesc := [.int .u8, .int .u8, .float .f64, .string, .int .i64, .int .u8, .float .f64, .string, .int .i64, .int .u8, .float .f64, .string, .int .i64, .bool, .bool, .bool]
/-- a descriptor's cells -/
structure DescV where
  c : Int
  n1 : Int
  x1 : Nat
  s1 : ByteArray
  r1 : Int
  n2 : Int
  x2 : Nat
  s2 : ByteArray
  r2 : Int
  n3 : Int
  x3 : Nat
  s3 : ByteArray
  r3 : Int
  w : Bool
  e : Bool
  f : Bool
def DescV.cells (d : DescV) : List Value := [.int .u8 d.c, .int .u8 d.n1, .float .f64 d.x1, .string d.s1, .int .i64 d.r1, .int .u8 d.n2, .float .f64 d.x2, .string d.s2, .int .i64 d.r2, .int .u8 d.n3, .float .f64 d.x3, .string d.s3, .int .i64 d.r3, .bool d.w, .bool d.e, .bool d.f]
/-- the symbols' values: all cells but the first -/
def DescV.syms (d : DescV) : List Value := [.int .u8 d.n1, .float .f64 d.x1, .string d.s1, .int .i64 d.r1, .int .u8 d.n2, .float .f64 d.x2, .string d.s2, .int .i64 d.r2, .int .u8 d.n3, .float .f64 d.x3, .string d.s3, .int .i64 d.r3, symOf (.bool d.w), symOf (.bool d.e), symOf (.bool d.f)]
def DescV.chk (d : DescV) : Bool := chkV d.c.toNat (mayV d.n1 d.x1 d.s1 d.r1) (bareV d.n1 d.x1 d.s1 d.r1) (bareV d.n2 d.x2 d.s2 d.r2) (calledV d.n2 d.x2 d.s2 d.r2) (bareV d.n3 d.x3 d.s3 d.r3) (calledV d.n3 d.x3 d.s3 d.r3) d.w d.e d.f
structure DescV.ok (d : DescV) : Prop where
  c : 0 ≤ d.c ∧ d.c ≤ 255
  n1 : 0 ≤ d.n1 ∧ d.n1 ≤ 255
  x1 : d.x1 < 18446744073709551616
  s1 : (d.s1.size : Int) ≤ 9223372036854775807
  r1 : -9223372036854775808 ≤ d.r1 ∧ d.r1 ≤ 9223372036854775807
  n2 : 0 ≤ d.n2 ∧ d.n2 ≤ 255
  x2 : d.x2 < 18446744073709551616
  s2 : (d.s2.size : Int) ≤ 9223372036854775807
  r2 : -9223372036854775808 ≤ d.r2 ∧ d.r2 ≤ 9223372036854775807
  n3 : 0 ≤ d.n3 ∧ d.n3 ≤ 255
  x3 : d.x3 < 18446744073709551616
  s3 : (d.s3.size : Int) ≤ 9223372036854775807
  r3 : -9223372036854775808 ≤ d.r3 ∧ d.r3 ≤ 9223372036854775807
theorem all2_cons {α β : Type} {R : α → β → Prop} {a : α} {as : List α} {bs : List β} (h : All2 R (a :: as) bs) : ∃ b bs', bs = b :: bs' ∧ R a b ∧ All2 R as bs' := by
  cases bs with
  | nil => exact h.elim
  | cons b bs => exact ⟨b, bs, rfl, h.1, h.2⟩
theorem open_desc {cs : List Value} (h : All2 leafOk kindsD cs) : ∃ d : DescV, d.ok ∧ cs = d.cells := by
  have st : ∀ {s : ByteArray}, s.size ≤ maxLen → (s.size : Int) ≤ 9223372036854775807 := fun {s} h => by have : s.size ≤ 9223372036854775807 := h; omega
  obtain ⟨v0, cs1, e0, hv0, h1⟩ := all2_cons h
  obtain ⟨c, rfl, hc⟩ := hv0
  obtain ⟨v1, cs2, e1, hv1, h2⟩ := all2_cons h1
  obtain ⟨n1, rfl, hn1⟩ := hv1
  obtain ⟨v2, cs3, e2, hv2, h3⟩ := all2_cons h2
  obtain ⟨x1, rfl, hx1⟩ := hv2
  obtain ⟨v3, cs4, e3, hv3, h4⟩ := all2_cons h3
  obtain ⟨s1, rfl, hs1⟩ := hv3
  obtain ⟨v4, cs5, e4, hv4, h5⟩ := all2_cons h4
  obtain ⟨r1, rfl, hr1⟩ := hv4
  obtain ⟨v5, cs6, e5, hv5, h6⟩ := all2_cons h5
  obtain ⟨n2, rfl, hn2⟩ := hv5
  obtain ⟨v6, cs7, e6, hv6, h7⟩ := all2_cons h6
  obtain ⟨x2, rfl, hx2⟩ := hv6
  obtain ⟨v7, cs8, e7, hv7, h8⟩ := all2_cons h7
  obtain ⟨s2, rfl, hs2⟩ := hv7
  obtain ⟨v8, cs9, e8, hv8, h9⟩ := all2_cons h8
  obtain ⟨r2, rfl, hr2⟩ := hv8
  obtain ⟨v9, cs10, e9, hv9, h10⟩ := all2_cons h9
  obtain ⟨n3, rfl, hn3⟩ := hv9
  obtain ⟨v10, cs11, e10, hv10, h11⟩ := all2_cons h10
  obtain ⟨x3, rfl, hx3⟩ := hv10
  obtain ⟨v11, cs12, e11, hv11, h12⟩ := all2_cons h11
  obtain ⟨s3, rfl, hs3⟩ := hv11
  obtain ⟨v12, cs13, e12, hv12, h13⟩ := all2_cons h12
  obtain ⟨r3, rfl, hr3⟩ := hv12
  obtain ⟨v13, cs14, e13, hv13, h14⟩ := all2_cons h13
  obtain ⟨w, rfl⟩ := hv13
  obtain ⟨v14, cs15, e14, hv14, h15⟩ := all2_cons h14
  obtain ⟨e, rfl⟩ := hv14
  obtain ⟨v15, cs16, e15, hv15, h16⟩ := all2_cons h15
  obtain ⟨f, rfl⟩ := hv15
  have e16 : cs16 = [] := by cases cs16 with | nil => rfl | cons => exact h16.elim
  refine ⟨⟨c, n1, x1, s1, r1, n2, x2, s2, r2, n3, x3, s3, r3, w, e, f⟩, ⟨wf_int hc, wf_int hn1, wf_f64 hx1, st hs1, wf_int hr1, wf_int hn2, wf_f64 hx2, st hs2, wf_int hr2, wf_int hn3, wf_f64 hx3, st hs3, wf_int hr3⟩, ?_⟩
  rw [e0, e1, e2, e3, e4, e5, e6, e7, e8, e9, e10, e11, e12, e13, e14, e15, e16]; rfl
theorem DescV.leaves {d : DescV} (h : d.ok) : RvL (symEV [] 1 d.syms) (.i .u8 d.c :: leafAVs kindsD.tail 1) d.cells := by
  have bl : ∀ (b : Bool) (j : Nat), d.syms[j]? = some (symOf (.bool b)) → Rv (symEV [] 1 d.syms) (.x .b (.cmp .eql (.sy (1 + j)) (.li .u8 1))) (.bool b) := fun b j hj => by
    rw [Rv]
    refine ⟨?_, _, rfl⟩
    rw [fact_eq (den_sym (gl := []) (n0 := 1) j hj (sok_i _ _))]
    cases b <;> rfl
  have bi : ∀ (k : IntKind) (n : Int) (j : Nat), d.syms[j]? = some (.int k n) → k.min ≤ n ∧ n ≤ k.max → Rv (symEV [] 1 d.syms) (.x (.i k) (.sy (1 + j))) (.int k n) := fun k n j hj hn => rv_sym (s := .i k) j hj (sok_i _ _) ⟨_, rfl, hn⟩
  have bf : ∀ (n : Nat) (j : Nat), d.syms[j]? = some (.float .f64 n) → n < 18446744073709551616 → Rv (symEV [] 1 d.syms) (.x .f (.sy (1 + j))) (.float .f64 n) := fun n j hj hn => rv_sym (s := .f) j hj (sok_f _) ⟨_, rfl, hn⟩
  have bs : ∀ (n : ByteArray) (j : Nat), d.syms[j]? = some (.string n) → (n.size : Int) ≤ 9223372036854775807 → Rv (symEV [] 1 d.syms) (.x .s (.sy (1 + j))) (.string n) := fun n j hj hn => rv_sym (s := .s) j hj (sok_s _) ⟨_, rfl, hn⟩
  refine rvl_cons (by rw [Rv]) ?_
  refine rvl_cons (bi _ _ 0 rfl h.n1) ?_
  refine rvl_cons (bf _ 1 rfl h.x1) ?_
  refine rvl_cons (bs _ 2 rfl h.s1) ?_
  refine rvl_cons (bi _ _ 3 rfl h.r1) ?_
  refine rvl_cons (bi _ _ 4 rfl h.n2) ?_
  refine rvl_cons (bf _ 5 rfl h.x2) ?_
  refine rvl_cons (bs _ 6 rfl h.s2) ?_
  refine rvl_cons (bi _ _ 7 rfl h.r2) ?_
  refine rvl_cons (bi _ _ 8 rfl h.n3) ?_
  refine rvl_cons (bf _ 9 rfl h.x3) ?_
  refine rvl_cons (bs _ 10 rfl h.s3) ?_
  refine rvl_cons (bi _ _ 11 rfl h.r3) ?_
  refine rvl_cons (bl _ 12 rfl) ?_
  refine rvl_cons (bl _ 13 rfl) ?_
  exact rvl_cons (bl _ 14 rfl) rvl_nil
noncomputable def specL (c : Nat) : SE := specD c (.fn 10 (packV (.sy 1) (.sy 2) (.sy 3) (.sy 4))) (bareS (.sy 1) (.sy 2) (.sy 3) (.sy 4)) (bareS (.sy 5) (.sy 6) (.sy 7) (.sy 8)) (calledS (.sy 5) (.sy 6) (.sy 7) (.sy 8)) (bareS (.sy 9) (.sy 10) (.sy 11) (.sy 12)) (calledS (.sy 9) (.sy 10) (.sy 11) (.sy 12))
  (.cmp .eql (.sy 13) (.li .u8 1)) (.cmp .eql (.sy 14) (.li .u8 1)) (.cmp .eql (.sy 15) (.li .u8 1))
theorem DescV.den_spec (d : DescV) {c : Nat} (hc : d.c = c) : den (symEV [] 1 d.syms) (specL c) = some (.bool d.chk) := by
  have i : ∀ {j : Nat} {k : IntKind} {n : Int}, d.syms[j]? = some (.int k n) → den (symEV [] 1 d.syms) (.sy (1 + j)) = some (.int k n) := fun h => den_sym _ h (sok_i _ _)
  have g : ∀ {j : Nat} {n : Nat}, d.syms[j]? = some (.float .f64 n) → den (symEV [] 1 d.syms) (.sy (1 + j)) = some (.float .f64 n) := fun h => den_sym _ h (sok_f _)
  have t : ∀ {j : Nat} {n : ByteArray}, d.syms[j]? = some (.string n) → den (symEV [] 1 d.syms) (.sy (1 + j)) = some (.string n) := fun h => den_sym _ h (sok_s _)
  have b : ∀ {j : Nat} {x : Bool}, d.syms[j]? = some (symOf (.bool x)) → den (symEV [] 1 d.syms) (.cmp .eql (.sy (1 + j)) (.li .u8 1)) = some (.bool x) := fun {j x} h => by
    rw [fact_eq (den_sym (gl := []) (n0 := 1) j h (sok_i _ _))]; cases x <;> rfl
  have e : d.chk = chkV c (mayV d.n1 d.x1 d.s1 d.r1) (bareV d.n1 d.x1 d.s1 d.r1) (bareV d.n2 d.x2 d.s2 d.r2) (calledV d.n2 d.x2 d.s2 d.r2) (bareV d.n3 d.x3 d.s3 d.r3) (calledV d.n3 d.x3 d.s3 d.r3) d.w d.e d.f := by
    unfold DescV.chk; rw [hc]; rfl
  rw [e]
  have a1 := i (j := 0) (show d.syms[0]? = some (.int .u8 d.n1) from rfl)
  have a2 := g (j := 1) (show d.syms[1]? = some (.float .f64 d.x1) from rfl)
  have a3 := t (j := 2) (show d.syms[2]? = some (.string d.s1) from rfl)
  have a4 := i (j := 3) (show d.syms[3]? = some (.int .i64 d.r1) from rfl)
  have b1 := i (j := 4) (show d.syms[4]? = some (.int .u8 d.n2) from rfl)
  have b2 := g (j := 5) (show d.syms[5]? = some (.float .f64 d.x2) from rfl)
  have b3 := t (j := 6) (show d.syms[6]? = some (.string d.s2) from rfl)
  have b4 := i (j := 7) (show d.syms[7]? = some (.int .i64 d.r2) from rfl)
  have c1 := i (j := 8) (show d.syms[8]? = some (.int .u8 d.n3) from rfl)
  have c2 := g (j := 9) (show d.syms[9]? = some (.float .f64 d.x3) from rfl)
  have c3 := t (j := 10) (show d.syms[10]? = some (.string d.s3) from rfl)
  have c4 := i (j := 11) (show d.syms[11]? = some (.int .i64 d.r3) from rfl)
  exact den_specD (den_may a1 a2 a3 a4) (den_bare a1 a2 a3 a4) (den_bare b1 b2 b3 b4) (den_called b1 b2 b3 b4) (den_bare c1 c2 c3 c4) (den_called c1 c2 c3 c4)
    (b (j := 12) (x := d.w) rfl) (b (j := 13) (x := d.e) rfl) (b (j := 14) (x := d.f) rfl)

/-- the end of a check: no error just where the expression is true -/
noncomputable def finE (spec : SE) (v : AV) (h : Heap) : Bool := match v with
  | .i .i64 (.ofNat 0) => d3 (decX (factsOf h) spec) false true false
  | .i .i64 (.ofNat 90) => d3 (decX (factsOf h) spec) false false true
  | _ => false
theorem errRun {P : Program} {call : CallF} (hc : CallOK P call) {Vs : List Value} {fs : Facts} {g : FuncId} {args : List AV} {ARGS : Array Value} {nn : Nat} {spec : SE} {b : Bool}
    (hnn : 1 + Vs.length = nn) (hf : Holds (symEV [] 1 Vs) fs) (ra : RvL (symEV [] 1 Vs) args ARGS.toList) (hd : den (symEV [] 1 Vs) spec = some (.bool b))
    (he : setF fs (startH [] 1) (fun h => call g args h nn (fun v h _ => finE spec v h)) = true) (w : World) (hs : 0 < w.heap.size) :
    Calls P g ARGS w fun e w' => e = .returned (.int .i64 (if b then 0 else 90)) ∧ RowKit.Below w.heap.size w w' := by
  refine (closedX hc rfl rfl (List.length_map _) hnn (fun L hL => by obtain ⟨V, _, rfl⟩ := List.mem_map.1 hL; exact spot_blk V) hf ra (fun v h => rfl) he w hs (fun p hp => by cases hp)).mono ?_
  rintro e w' ⟨V, v, h', E', n', rfl, rv, hr', hle, hk, hb⟩
  have hd' := den_mono hle _ _ hd
  have hdx := decX_ok (factsOf_ok hr') hd'
  refine ⟨?_, hb⟩
  congr 1
  unfold finE at hk
  split at hk
  · rw [Rv] at rv; subst rv
    match hdd : decX (factsOf h') spec with
    | 0 => rw [hdd] at hk; cases hk
    | 1 => rw [hdx.1 hdd]; rfl
    | n + 2 => rw [hdd] at hk; cases hk
  · rw [Rv] at rv; subst rv
    match hdd : decX (factsOf h') spec with
    | 0 => rw [hdd] at hk; cases hk
    | 1 => rw [hdd] at hk; cases hk
    | n + 2 => rw [hdx.2 (by omega)]; rfl
  · cases hk

/-- the check as a contract -/
noncomputable def descK (v : AV) (k : SE → Bool) : Bool := match v with
  | .ag [a0, a1, a2, a3, a4, a5, a6, a7, a8, a9, a10, a11, a12, a13, a14, a15] =>
    asI .u8 a0 fun a0 => asI .u8 a1 fun a1 => asF a2 fun a2 => asS a3 fun a3 => asI .i64 a4 fun a4 => asI .u8 a5 fun a5 => asF a6 fun a6 => asS a7 fun a7 => asI .i64 a8 fun a8 =>
    asI .u8 a9 fun a9 => asF a10 fun a10 => asS a11 fun a11 => asI .i64 a12 fun a12 => asB a13 fun a13 => asB a14 fun a14 => asB a15 fun a15 =>
    bc (hasSy (packE [a0, a1, a2, a3, a4, a5, a6, a7, a8, a9, a10, a11, a12, a13, a14, a15])) (k (.fn 14 (packE [a0, a1, a2, a3, a4, a5, a6, a7, a8, a9, a10, a11, a12, a13, a14, a15]))) false
  | _ => false
theorem unpackV_pack (n : Nat) (a b : Value) : unpackV (n + 1) (.agg #[a, b]) = a :: unpackV n b := rfl
theorem descK_ok {E : Env} {h : Heap} {nxt : Nat} {w : World} {v : AV} {V : Value} {k : SE → Bool} (he : descK v k = true) (r : Rv E v V) (hr : HR E h nxt w) :
    ∃ (d : DescV) (e : SE), d.ok ∧ V = .agg d.cells.toArray ∧ den E e = some (.bool d.chk) ∧ 0 < w.heap.size ∧ k e = true := by
  unfold descK at he
  split at he <;> try (cases he; done)
  rw [Rv] at r
  obtain ⟨vs, rfl, r⟩ := r
  simp only [RvL] at r
  obtain ⟨A0, _, rfl, r0, A1, _, rfl, r1, A2, _, rfl, r2, A3, _, rfl, r3, A4, _, rfl, r4, A5, _, rfl, r5, A6, _, rfl, r6, A7, _, rfl, r7, A8, _, rfl, r8, A9, _, rfl, r9, A10, _, rfl, r10, A11, _, rfl, r11, A12, _, rfl, r12, A13, _, rfl, r13, A14, _, rfl, r14, A15, _, rfl, r15, rfl⟩ := r
  obtain ⟨a0, c, rfl, c1, c2, d0, he⟩ := asI_ok he r0
  obtain ⟨a1, n1, rfl, n11, n12, d1, he⟩ := asI_ok he r1
  obtain ⟨a2, x1, rfl, x11, d2, he⟩ := asF_ok he r2
  obtain ⟨a3, s1, rfl, s11, d3, he⟩ := asS_ok he r3
  obtain ⟨a4, m1, rfl, m11, m12, d4, he⟩ := asI_ok he r4
  obtain ⟨a5, n2, rfl, n21, n22, d5, he⟩ := asI_ok he r5
  obtain ⟨a6, x2, rfl, x21, d6, he⟩ := asF_ok he r6
  obtain ⟨a7, s2, rfl, s21, d7, he⟩ := asS_ok he r7
  obtain ⟨a8, m2, rfl, m21, m22, d8, he⟩ := asI_ok he r8
  obtain ⟨a9, n3, rfl, n31, n32, d9, he⟩ := asI_ok he r9
  obtain ⟨a10, x3, rfl, x31, d10, he⟩ := asF_ok he r10
  obtain ⟨a11, s3, rfl, s31, d11, he⟩ := asS_ok he r11
  obtain ⟨a12, m3, rfl, m31, m32, d12, he⟩ := asI_ok he r12
  obtain ⟨a13, w1, rfl, d13, he⟩ := asB_ok he r13
  obtain ⟨a14, w2, rfl, d14, he⟩ := asB_ok he r14
  obtain ⟨a15, w3, rfl, d15, he⟩ := asB_ok he r15
  obtain ⟨h1, he⟩ := bc_and he
  have dp : den E (packE [a0, a1, a2, a3, a4, a5, a6, a7, a8, a9, a10, a11, a12, a13, a14, a15]) = some (.agg #[.int .u8 c, .agg #[.int .u8 n1, .agg #[.float .f64 x1, .agg #[.string s1, .agg #[.int .i64 m1, .agg #[.int .u8 n2, .agg #[.float .f64 x2, .agg #[.string s2, .agg #[.int .i64 m2, .agg #[.int .u8 n3, .agg #[.float .f64 x3, .agg #[.string s3, .agg #[.int .i64 m3, .agg #[.bool w1, .agg #[.bool w2, .bool w3]]]]]]]]]]]]]]]) := by
    simp only [packE, den, d0, d1, d2, d3, d4, d5, d6, d7, d8, d9, d10, d11, d12, d13, d14, d15, apf2]
  refine ⟨⟨c, n1, x1, s1, m1, n2, x2, s2, m2, n3, x3, s3, m3, w1, w2, w3⟩, _, ⟨⟨c1, c2⟩, ⟨n11, n12⟩, x11, s11, ⟨m11, m12⟩, ⟨n21, n22⟩, x21, s21, ⟨m21, m22⟩, ⟨n31, n32⟩, x31, s31, ⟨m31, m32⟩⟩, rfl, ?_, hr.size_pos h1 dp, he⟩
  exact den_fn dp rfl
def OfDesc (P : Program) (g : FuncId) : Prop := ∀ (d : DescV) (w : World), d.ok → 0 < w.heap.size → Calls P g #[.agg d.cells.toArray] w fun e w' => e = .returned (.int .i64 (if d.chk then 0 else 90)) ∧ RowKit.Below w.heap.size w w'
/-- for all numbers from one on -/
def AllFrom (p : Nat → Prop) : Nat → Nat → Prop
  | _, 0 => True
  | i, n + 1 => p i ∧ AllFrom p (i + 1) n
theorem AllFrom.get {p : Nat → Prop} : ∀ {i n : Nat}, AllFrom p i n → ∀ k, i ≤ k → k < i + n → p k
  | i, 0, _, k, h1, h2 => absurd h2 (by omega)
  | i, n + 1, h, k, h1, h2 => by
    by_cases e : k = i
    · subst e; exact h.1
    · exact h.2.get k (by omega) (by omega)
theorem AllFrom.append {p : Nat → Prop} : ∀ {i n m : Nat}, AllFrom p i n → AllFrom p (i + n) m → AllFrom p i (m + n)
  | i, 0, m, _, k => k
  | i, n + 1, m, h, k => ⟨h.1, h.2.append (by rw [show i + 1 + n = i + (n + 1) by omega]; exact k)⟩
noncomputable def D (call : CallF) (g : FuncId) (c : Nat) : Bool := setF [] (startH [] 1) (fun h => call g [.ag (.i .u8 (Int.ofNat c) :: leafAVs kindsD.tail 1)] h 16 (fun v h _ => finE (specL c) v h))
theorem ofDesc {P : Program} {call : CallF} (hc : CallOK P call) {g : FuncId} (H : ∀ c, c < 256 → D call g c = true) : OfDesc P g := by
  intro d w hd hs
  obtain ⟨c, hc'⟩ : ∃ c : Nat, d.c = c := ⟨d.c.toNat, by have := hd.c; omega⟩
  have hlt : c < 256 := by have := hd.c; omega
  have hl := DescV.leaves hd
  rw [hc'] at hl
  refine errRun hc (Vs := d.syms) rfl holds_nil (rvl_cons (rv_ag hl) rvl_nil) (d.den_spec hc') (H c hlt) w hs
noncomputable def chkC : Ct := fun args h nxt k => match args with
  | [v] => descK v fun e => forkK e (factsOf h) (fun fs => setF fs h fun h1 => k (.i .i64 0) h1 nxt) (fun fs => setF fs h fun h1 => k (.i .i64 90) h1 nxt)
  | _ => false
theorem chkC_ok {P : Program} {g : FuncId} (H : OfDesc P g) : CtOK P g chkC := by
  apply ctExpr
  intro args ARGS E h nxt w k he ra hr
  unfold chkC at he
  split at he <;> try (cases he; done)
  obtain ⟨V, hA, rx⟩ := ra.one
  have hA : ARGS = #[V] := by apply Array.ext'; simpa using hA
  subst hA
  obtain ⟨d, e, hd, rfl, de, hs, he⟩ := descK_ok he rx hr
  obtain ⟨fs, hf, hx⟩ := forkK_ok e he (factsOf_ok hr) de
  have hc := H d w hd hs
  rcases hx with ⟨hb, hx⟩ | ⟨hb, hx⟩
  · obtain ⟨h1, k1, k2, k3⟩ := setF_ok hx hr hf
    exact ⟨_, h1, _, k1, by rw [Rv], k2, k3, by rw [hb] at hc; exact hc⟩
  · obtain ⟨h1, k1, k2, k3⟩ := setF_ok hx hr hf
    exact ⟨_, h1, _, k1, by rw [Rv], k2, k3, by rw [hb] at hc; exact hc⟩
end Go.Proofs.YtnkmiphcgjpgkaaGreatDoor.Vx
