/- ReflectAnswers: what the law takes by contract. No condition. -/
import Derived.Test.YtaecedlhiclkdaaGreatDoorRfF
namespace Go.Proofs.YtaecedlhiclkdaaGreatDoor.Rf
open Go Vx Con RowKit
set_option linter.unusedVariables false
set_option linter.constructorNameAsVariable false
set_option maxRecDepth 100000

theorem den_keys {E : Env} {w : World} {h : Heap} {n : Nat} (hr : HR E h n w) {id m S g m' : Nat} {cp : SE} {c' : T AV} {V : Value} (hg : T.get .gone h id = .glob g m' c') (e1 : g = 2000001 + 2 * S) (e2 : id ≤ 1999999) (r : Rv E (.sx id m (.sy S) cp) V) :
    ∃ (L : Spot) (N C : Nat) (g0 : Nat → Value), V = .slice (some ⟨L.blk, L.base, none⟩) N C ∧ den E (.sy S) = some (.int .i64 N) ∧ N ≤ 9223372036854775807 ∧ KeysW w L N g0 := by
  rw [Rv] at r
  obtain ⟨L, N, C, eL, dN, _, _, hN, rfl⟩ := r
  have ho := hr.obj id
  rw [hg] at ho
  obtain ⟨L', arr, el, fr, eL', _, hb, _, _, ht⟩ := ho
  rw [eL] at eL'; cases eL'
  obtain ⟨N', dN', hsz, hty⟩ := ht ⟨by omega, by omega⟩
  have eS : (g - 2000000) / 2 = S := by omega
  have eP : g % 2 = 1 := by omega
  rw [eS, dN] at dN'
  have eN : N' = N := by injection dN' with e; injection e with _ e; omega
  subst eN
  rw [eP] at hsz hty
  exact ⟨L, N', C, fun j => arr.getD (L.base + j) undef, rfl, dN, hN, (Array.getElem?_eq_some_iff.1 hb).1, arr, el, fr, hb, hsz, hty, fun j _ => rfl⟩
/-- keys: none, or a row of keys -/
noncomputable def keysK (h : Heap) (v : AV) (k : Facts → Bool) : Bool := match v with
  | .sn => k []
  | .sx id _ (.sy S) _ => (match T.get .gone h id with
    | .glob g _ _ => bc (bc (Nat.beq g (Nat.add 2000001 (Nat.mul 2 S))) (Nat.ble id 1999999) false) (k [(.cmp .leq (.sy S) (.li .i64 1024), true)]) false
    | _ => false)
  | _ => false
noncomputable def fitA (h : Heap) (n : Nat) (k : K) (a b : AV) (l : List AV) : Bool := match l with
  | [c0, c1, c2, c3, c4, c5, c6, c7, c8, c9, c10, c11, c12, c13, c14, c15, c16, c17, c18, c19, c20, c21, c22, c23, c24, c25] => asI .u8 a fun _ => asI .u8 b fun _ => asI .u8 c0 fun ek => valK (.ag [c1, c2, c3, c4]) fun e1 e2 e3 e4 => asB c5 fun _ => asB c6 fun _ => asI .u8 c7 fun _ => valK (.ag [c8, c9, c10, c11]) fun _ _ _ _ => valK (.ag [c12, c13, c14, c15]) fun _ _ _ _ => valK (.ag [c16, c17, c18, c19]) fun _ _ _ _ =>
    asB c20 fun _ => asB c21 fun _ => asB c22 fun _ => asI .u8 c24 fun _ => asS c25 fun _ => keysK h c23 fun fk => bc (k (.b false) h n) (bc (setF ((.cmp .eql ek (.li .u8 1), true) :: (.cmp .eql ek (.li .u8 2), false) :: (.cmp .leq ek (.li .u8 2), true) :: (.cmp .leq ek (.li .u8 0), false) :: (.fn 10 (packV e1 e2 e3 e4), true) :: fk ++ factsOf h) h fun h1 => k (.b true) h1 n) (setF ((.cmp .eql ek (.li .u8 1), false) :: (.cmp .eql ek (.li .u8 2), true) :: (.cmp .leq ek (.li .u8 2), true) :: (.cmp .leq ek (.li .u8 0), false) :: (.fn 10 (packV e1 e2 e3 e4), true) :: fk ++ factsOf h) h fun h1 => k (.b true) h1 n) false) false
  | _ => false
noncomputable def fitC : Ct := fun args h n k => match args with
  | [a, b, .ag l] => fitA h n k a b l
  | _ => false
theorem nilFit {k1 k2 : Int} {o : OutV} {w : World} (h1 : 0 ≤ k1 ∧ k1 ≤ 255) (h2 : 0 ≤ k2 ∧ k2 ≤ 255) (ok : o.ok) (hs : 0 < w.heap.size) : Calls P 66 #[.int .u8 k1, .int .u8 k2, .agg (o.cells (.slice none 0 0)).toArray] w (FitEnds o 0 w) := by
  have dF := fun i {V} a b => den_f1 (k1 := k1) (k2 := k2) (o := o) (N := 0) (C := 0) (g := fun _ => undef) i (V := V) a b
  have d9 := dF 2 rfl (sok_i _ _)
  have dv : Dens (EF1 k1 k2 o 0 0 (fun _ => undef)) 10 o.v := dens_f1 (i := 3) ⟨rfl, rfl, rfl, rfl⟩
  have ra : RvL (EF1 k1 k2 o 0 0 (fun _ => undef)) (argF .sn) (#[.int .u8 k1, .int .u8 k2, .agg (o.cells (.slice none 0 0)).toArray] : Array Value).toList :=
    rvl_cons (by rw [Rv]; exact ⟨dF 0 rfl (sok_i _ _), _, rfl, h1⟩) (rvl_cons (by rw [Rv]; exact ⟨dF 1 rfl (sok_i _ _), _, rfl, h2⟩) (rvl_cons (by rw [Rv]; exact ⟨_, rfl, rv_out (Env.le_refl _) ok (by rw [Rv])⟩) rvl_nil))
  have td : Vx.Told (EF1 k1 k2 o 0 0 (fun _ => undef)) needN := fun p hp => by
    unfold needN at hp
    simp only [List.mem_cons, List.not_mem_nil, or_false] at hp
    rcases hp with rfl | rfl | rfl
    · exact ⟨_, fact_le d9⟩
    · exact ⟨_, fact_le d9⟩
    · exact ⟨_, den_mA dv⟩
  refine (closedXL cS_ok (gl := []) (n0 := 7) (Vs := vsF k1 k2 o 0 0 fun _ => undef) (fin := finN) rfl rfl rfl (by rw [vsF_len]) holds_nil ra (fun _ _ => rfl) nilR w hs (fun p hp => by cases hp)).mono ?_
  rintro e w' ⟨⟨V, v, h', E', rfl, rv, hf, hE, hk⟩, hb⟩
  refine ⟨?_, hb⟩
  have fin : hasFs (factsOf h') needN = true → (1 ≤ o.k ∧ o.k ≤ 2) ∧ o.v.may = true ∧ 0 ≤ 1024 := fun hh' => by
    have hN : Holds (EF1 k1 k2 o 0 0 (fun _ => undef)) needN := told_holds hE td (hasFs_ok hf (td.mono hE) hh')
    have q1 := hN _ List.mem_cons_self
    have q2 := hN _ (List.mem_cons_of_mem _ List.mem_cons_self)
    have q3 := hN _ (List.mem_cons_of_mem _ (List.mem_cons_of_mem _ List.mem_cons_self))
    rw [fact_le (k := .u8) (c := 2) d9] at q1
    rw [fact_le (k := .u8) (c := 0) d9] at q2
    rw [den_mA dv] at q3
    injection q1 with q1; injection q1 with q1
    injection q2 with q2; injection q2 with q2
    injection q3 with q3; injection q3 with q3
    have q1 := of_decide_eq_true q1
    have q2 := of_decide_eq_false q2
    exact ⟨⟨by omega, q1⟩, q3, by omega⟩
  unfold finN at hk
  split at hk
  · rw [Rv] at rv; subst rv; exact ⟨false, rfl, fun h => by cases h⟩
  · rw [Rv] at rv; subst rv; exact ⟨true, rfl, fun _ => fin hk⟩
  · simp only [Rv, hasS] at rv
    obtain ⟨_, b, rfl⟩ := rv
    exact ⟨b, rfl, fun _ => fin hk⟩
  · cases hk
theorem fitC_ok : CtOK P 66 fitC := by
  intro args ARGS E h n w k he ra hr
  unfold fitC at he
  split at he <;> try (cases he; done)
  rename_i a b l
  unfold fitA at he
  split at he <;> try (cases he; done)
  rename_i c0 c1 c2 c3 c4 c5 c6 c7 c8 c9 c10 c11 c12 c13 c14 c15 c16 c17 c18 c19 c20 c21 c22 c23 c24 c25
  simp only [RvL] at ra
  obtain ⟨A, _, eA, ra, B, _, rfl, rb, O, _, rfl, ro, rfl⟩ := ra
  rw [Rv] at ro
  obtain ⟨vs, rfl, ro⟩ := ro
  simp only [RvL] at ro
  obtain ⟨C0, _, rfl, r0, C1, _, rfl, r1, C2, _, rfl, r2, C3, _, rfl, r3, C4, _, rfl, r4, C5, _, rfl, r5, C6, _, rfl, r6, C7, _, rfl, r7, C8, _, rfl, r8, C9, _, rfl, r9, C10, _, rfl, r10, C11, _, rfl, r11, C12, _, rfl, r12, C13, _, rfl, r13, C14, _, rfl, r14, C15, _, rfl, r15, C16, _, rfl, r16, C17, _, rfl, r17, C18, _, rfl, r18, C19, _, rfl, r19, C20, _, rfl, r20, C21, _, rfl, r21, C22, _, rfl, r22, C23, _, rfl, r23, C24, _, rfl, r24, C25, _, rfl, r25, rfl⟩ := ro
  obtain ⟨_, k1, rfl, h11, h12, _, he⟩ := asI_ok he ra
  obtain ⟨_, k2, rfl, h21, h22, _, he⟩ := asI_ok he rb
  obtain ⟨ek, kk, rfl, hk1, hk2, dk, he⟩ := asI_ok he r0
  have four : ∀ {a b c d : AV} {A B C D : Value}, Rv E a A → Rv E b B → Rv E c C → Rv E d D → Rv E (.ag [a, b, c, d]) (.agg #[A, B, C, D]) := fun h1 h2 h3 h4 => by rw [Rv]; exact ⟨_, rfl, rvl_cons h1 (rvl_cons h2 (rvl_cons h3 (rvl_cons h4 rvl_nil)))⟩
  have open4 : ∀ {a b c d : AV} {A B C D : Value} {f : SE → SE → SE → SE → Bool}, valK (.ag [a, b, c, d]) f = true → Rv E a A → Rv E b B → Rv E c C → Rv E d D → ∃ (v : V4) (e1 e2 e3 e4 : SE), v.ok ∧ A = .int .u8 v.k ∧ B = .float .f64 v.x ∧ C = .string v.s ∧ D = .int .i64 v.r ∧ den E (.fn 10 (packV e1 e2 e3 e4)) = some (.bool v.may) ∧ 0 < w.heap.size ∧ f e1 e2 e3 e4 = true := fun he h1 h2 h3 h4 => by
    obtain ⟨e1, e2, e3, e4, q, x, s, m, hA, q1, q2, q3, q4, d1, d2, d3, d4, hs, he⟩ := valK_ok he (four h1 h2 h3 h4) hr
    simp only [Value.agg.injEq, Array.mk.injEq, List.cons.injEq, and_true] at hA
    obtain ⟨rfl, rfl, rfl, rfl⟩ := hA
    exact ⟨⟨q, x, s, m⟩, e1, e2, e3, e4, ⟨q1, q2, q3, q4⟩, rfl, rfl, rfl, rfl, den_may d1 d2 d3 d4, hs, he⟩
  obtain ⟨v, e1, e2, e3, e4, vok, rfl, rfl, rfl, rfl, dm, hs, he⟩ := open4 he r1 r2 r3 r4
  obtain ⟨_, b1, rfl, _, he⟩ := asB_ok he r5
  obtain ⟨_, b2, rfl, _, he⟩ := asB_ok he r6
  obtain ⟨_, hs', rfl, hh1, hh2, _, he⟩ := asI_ok he r7
  obtain ⟨v1, _, _, _, _, v1ok, rfl, rfl, rfl, rfl, _, _, he⟩ := open4 he r8 r9 r10 r11
  obtain ⟨v2, _, _, _, _, v2ok, rfl, rfl, rfl, rfl, _, _, he⟩ := open4 he r12 r13 r14 r15
  obtain ⟨v3, _, _, _, _, v3ok, rfl, rfl, rfl, rfl, _, _, he⟩ := open4 he r16 r17 r18 r19
  obtain ⟨_, b3, rfl, _, he⟩ := asB_ok he r20
  obtain ⟨_, b4, rfl, _, he⟩ := asB_ok he r21
  obtain ⟨_, b5, rfl, _, he⟩ := asB_ok he r22
  obtain ⟨_, er, rfl, he1, he2, _, he⟩ := asI_ok he r24
  obtain ⟨_, tx, rfl, htx, _, he⟩ := asS_ok he r25
  have ok : OutV.ok ⟨kk, v, b1, b2, hs', v1, v2, v3, b3, b4, b5, er, tx⟩ := ⟨⟨hk1, hk2⟩, vok, ⟨hh1, hh2⟩, v1ok, v2ok, v3ok, ⟨he1, he2⟩, htx⟩
  have done : ∀ (N : Nat) (fk : Facts) (kv : Value), C23 = kv → Calls P 66 #[.int .u8 k1, .int .u8 k2, .agg (OutV.cells ⟨kk, v, b1, b2, hs', v1, v2, v3, b3, b4, b5, er, tx⟩ kv).toArray] w (FitEnds ⟨kk, v, b1, b2, hs', v1, v2, v3, b3, b4, b5, er, tx⟩ N w) → (N ≤ 1024 → Holds E fk) →
      bc (k (.b false) h n) (bc (setF ((.cmp .eql ek (.li .u8 1), true) :: (.cmp .eql ek (.li .u8 2), false) :: (.cmp .leq ek (.li .u8 2), true) :: (.cmp .leq ek (.li .u8 0), false) :: (.fn 10 (packV e1 e2 e3 e4), true) :: fk ++ factsOf h) h fun h1 => k (.b true) h1 n) (setF ((.cmp .eql ek (.li .u8 1), false) :: (.cmp .eql ek (.li .u8 2), true) :: (.cmp .leq ek (.li .u8 2), true) :: (.cmp .leq ek (.li .u8 0), false) :: (.fn 10 (packV e1 e2 e3 e4), true) :: fk ++ factsOf h) h fun h1 => k (.b true) h1 n) false) false = true →
      Calls P 66 ARGS w fun e w' => ∃ V, e = .returned V ∧ Gives E h w k V w' := by
    intro N fk kv ekv hcall hfk hx
    subst ekv
    have hA : ARGS = #[.int .u8 k1, .int .u8 k2, .agg (OutV.cells ⟨kk, v, b1, b2, hs', v1, v2, v3, b3, b4, b5, er, tx⟩ C23).toArray] := by apply Array.ext'; exact eA
    rw [hA]
    obtain ⟨x1, x2⟩ := bc_and hx
    refine hcall.mono ?_
    rintro e w' ⟨⟨b, rfl, hb⟩, hbw⟩
    cases b with
    | false => exact ⟨_, rfl, .b false, h, n, E, by rw [Rv], hr.below hbw, Goes.below hbw, x1⟩
    | true =>
      obtain ⟨⟨y1, y2⟩, y3, y4⟩ := hb rfl
      have y1 : 1 ≤ kk := y1
      have y2 : kk ≤ 2 := y2
      have y3 : v.may = true := y3
      have hf : Holds E ((.cmp .leq ek (.li .u8 2), true) :: (.cmp .leq ek (.li .u8 0), false) :: (.fn 10 (packV e1 e2 e3 e4), true) :: fk ++ factsOf h) :=
        holds_cons ((fact_le dk).trans (by rw [decide_eq_true y2])) (holds_cons ((fact_le dk).trans (by rw [decide_eq_false (by omega)])) (holds_cons (dm.trans (by rw [y3])) (holds_app (hfk y4) (factsOf_ok hr))))
      obtain ⟨x2, x3⟩ := bc_and x2
      by_cases e1 : kk = 1
      · obtain ⟨h1, z1, z2, z3⟩ := setF_ok x2 (hr.below hbw) (holds_cons ((fact_eq dk).trans (by rw [decide_eq_true e1])) (holds_cons ((fact_eq dk).trans (by rw [decide_eq_false (by omega)])) hf))
        exact ⟨_, rfl, .b true, h1, n, E, by rw [Rv], z2, (Goes.below hbw).trans z3.goes, z1⟩
      · obtain ⟨h1, z1, z2, z3⟩ := setF_ok x3 (hr.below hbw) (holds_cons ((fact_eq dk).trans (by rw [decide_eq_false e1])) (holds_cons ((fact_eq dk).trans (by rw [decide_eq_true (by omega)])) hf))
        exact ⟨_, rfl, .b true, h1, n, E, by rw [Rv], z2, (Goes.below hbw).trans z3.goes, z1⟩
  unfold keysK at he
  split at he <;> try (cases he; done)
  · rw [Rv] at r23
    exact done 0 [] _ r23 (nilFit ⟨h11, h12⟩ ⟨h21, h22⟩ ok hs) (fun _ => holds_nil) he
  · split at he <;> try (cases he; done)
    rename_i g' m' c' hg
    obtain ⟨e1', he⟩ := bc_and he
    obtain ⟨e1', e2'⟩ := bc_and e1'
    obtain ⟨L, N, C, g0, hV, dN, hN, KW⟩ := den_keys hr hg (Nat.eq_of_beq_eq_true e1') (Nat.le_of_ble_eq_true e2') r23
    exact done N _ _ hV (fits ⟨h11, h12⟩ ⟨h21, h22⟩ ok hN KW) (fun hle => holds_cons ((fact_le dN).trans (by rw [decide_eq_true (by omega)])) holds_nil) he
end Go.Proofs.YtaecedlhiclkdaaGreatDoor.Rf
