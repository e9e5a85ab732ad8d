/- A call at a known state of memory, as a contract: what it answers and what memory is then; what else was known is dropped. No condition. -/
import Derived.Test.YtnkmiphcgjpgkaaGreatDoorVxZa
import Derived.Test.YtnkmiphcgjpgkaaGreatDoorVxZc
set_option linter.unusedVariables false
set_option linter.unusedSimpArgs false
set_option linter.constructorNameAsVariable false
namespace Go.Proofs.YtnkmiphcgjpgkaaGreatDoor.Vx
open Go

abbrev Rows := List (Nat × ObjL)

noncomputable def sameP (h : Heap) (id : Nat) (o : ObjL) : Bool := match T.get .gone h id with
  | .cells n e c => bc (Nat.beq n o.n) (bc (eszEq e o.esz) (bc (Nat.beq o.l.length n) (rdC c n 0 fun l => sameWL l o.l) false) false) false
  | _ => false
theorem sameP_ok {h : Heap} {id : Nat} {o : ObjL} (he : sameP h id o = true) : ∃ c, T.get .gone h id = .cells o.n o.esz c ∧ o.l.length = o.n ∧ ∀ j, j < o.n → c.get j = nthR o.l j := by
  unfold sameP at he
  split at he <;> try (cases he; done)
  rename_i n e c hc
  obtain ⟨h1, he1⟩ := bc_and he
  obtain ⟨h2, he2⟩ := bc_and he1
  obtain ⟨h3, he3⟩ := bc_and he2
  rw [rdC_ok] at he3
  have hl := sameWL_ok he3
  have h1 := Nat.eq_of_beq_eq_true h1
  have h3 := Nat.eq_of_beq_eq_true h3
  have h2 := eszEq_ok h2
  clear he he1 he2 he3
  subst h1 h2
  refine ⟨c, hc, h3, fun j hj => ?_⟩
  rw [← hl, nthR_eq]
  simp [List.getD_eq_getElem?_getD, hj]

noncomputable def samePs (h : Heap) (R : Rows) : Bool := List.rec (motive := fun _ => Bool) true (fun p _ ih => bc (Nat.ble 1 p.1) (bc (sameP h p.1 p.2) ih false) false) R
theorem samePs_ok {h : Heap} : ∀ {R : Rows}, samePs h R = true → ∀ p ∈ R, 1 ≤ p.1 ∧ sameP h p.1 p.2 = true
  | [], _, p, hp => by cases hp
  | q :: R, he, p, hp => by
    have he : bc (Nat.ble 1 q.1) (bc (sameP h q.1 q.2) (samePs h R) false) false = true := he
    obtain ⟨h1, he⟩ := bc_and he
    obtain ⟨h2, he⟩ := bc_and he
    rcases List.mem_cons.1 hp with rfl | hp
    · exact ⟨Nat.le_of_ble_eq_true h1, h2⟩
    · exact samePs_ok he p hp

/-- memory by its rows -/
noncomputable def rowsH (R : Rows) (h : Heap) : Heap := List.rec (motive := fun _ => Heap → Heap) (fun h => h) (fun p _ ih h => ih (T.set (.cells p.2.n p.2.esz (wrCs p.2.l ⟨p.2.w, bigR⟩ 0)) h p.1)) R h
noncomputable def rowsK (R : Rows) : Heap → (Heap → Bool) → Bool := List.rec (motive := fun _ => Heap → (Heap → Bool) → Bool) (fun h k => k h)
  (fun p _ ih h k => wrC p.2.l ⟨p.2.w, bigR⟩ 0 fun c => T.setK (.cells p.2.n p.2.esz c) h p.1 fun h' => ih h' k) R
theorem rowsK_eq : ∀ (R : Rows) (h : Heap) (k : Heap → Bool), rowsK R h k = k (rowsH R h)
  | [], _, _ => rfl
  | p :: R, h, k => by
    show wrC _ _ _ _ = _
    rw [wrC_eq, T.setK_eq]
    exact rowsK_eq R _ k
theorem rowsH_get : ∀ (R : Rows) (h : Heap) (i : Nat), T.get .gone (rowsH R h) i = T.get .gone h i ∨ T.get .gone (rowsH R h) i = .gone ∨ ∃ o, (i, o) ∈ R ∧ T.get .gone (rowsH R h) i = .cells o.n o.esz (wrCs o.l ⟨o.w, bigR⟩ 0)
  | [], _, _ => .inl rfl
  | p :: R, h, i => by
    rcases rowsH_get R (T.set (.cells p.2.n p.2.esz (wrCs p.2.l ⟨p.2.w, bigR⟩ 0)) h p.1) i with e | e | ⟨o, ho, e⟩
    · by_cases hi : i = p.1
      · subst hi
        rcases T.get_set_eq .gone (.cells p.2.n p.2.esz (wrCs p.2.l ⟨p.2.w, bigR⟩ 0)) h p.1 with e2 | e2
        · exact .inr (.inr ⟨p.2, List.mem_cons_self, e.trans e2⟩)
        · exact .inr (.inl (e.trans e2))
      · rw [T.get_set_ne _ _ _ _ _ hi] at e
        exact .inl e
    · exact .inr (.inl e)
    · exact .inr (.inr ⟨o, List.mem_cons_of_mem _ ho, e⟩)

theorem ro_row {E : Env} {w : World} {i : Nat} {o : ObjL} {c : Cs} (hl : o.l.length = o.n) (hc : ∀ j, j < o.n → c.get j = nthR o.l j) (r : RO E w i (.cells o.n o.esz c)) : RO E w i (.cells o.n o.esz (wrCs o.l ⟨o.w, bigR⟩ 0)) := by
  obtain ⟨L, arr, el, a1, a2, a3, a4, a5⟩ := r
  refine ⟨L, arr, el, a1, a2, a3, a4, fun j hj => ?_⟩
  rcases wrCs_in (l := o.l) (c := ⟨o.w, bigR⟩) (off := 0) (i := j) (by omega) with e2 | e2 <;> rw [Nat.zero_add] at e2 <;> rw [e2]
  · have h8 := a5 j hj
    rw [hc j hj] at h8
    exact h8
  · simp [Rv]

/-- what is known is less -/
theorem HR.cut {E : Env} {h h' : Heap} {nxt n' : Nat} {w : World} (hr : HR E h nxt w) (hn : nxt ≤ n') (hf : flr h' ≤ n')
    (hs : ∀ i, RO E w i (T.get .gone h' i) ∧ ((T.get .gone h' i).live = true → (T.get .gone h i).live = true)) : HR E h' n' w := by
  refine ⟨fun i => (hs i).1, fun i j L M hi hj => hr.inj i j L M ((hs i).2 hi) ((hs j).2 hj), fun i hi => ?_, fun i hi => hr.fresh i (by omega), hr.inw, by have := hr.pos; omega, hf, ?_⟩
  · cases hl : (T.get .gone h' i).live with
    | false => rfl
    | true => have := (hs i).2 hl; rw [hr.lt i (by omega)] at this; cases this
  · cases hl : (T.get .gone h' 0).live with
    | false => rfl
    | true => have := (hs 0).2 hl; rw [hr.zero] at this; cases this

/-- nothing but the floor, and what is known of symbols -/
noncomputable def baseH (a : AO) : Heap := T.set (.floor 1) (T.set a (T.full .gone 20) fplace) 0
theorem base_get (a : AO) (i : Nat) : T.get .gone (baseH a) i = .gone ∨ (i = 0 ∧ T.get .gone (baseH a) i = .floor 1) ∨ (i = fplace ∧ T.get .gone (baseH a) i = a) := by
  unfold baseH
  by_cases h0 : i = 0
  · subst h0
    rcases T.get_set_eq AO.gone (.floor 1) (T.set a (T.full .gone 20) fplace) 0 with e | e
    · exact .inr (.inl ⟨rfl, e⟩)
    · exact .inl e
  · rw [T.get_set_ne _ _ _ _ _ h0]
    by_cases hi : i = fplace
    · subst hi
      rcases T.get_set_eq AO.gone a (T.full .gone 20) fplace with e | e
      · exact .inr (.inr ⟨rfl, e⟩)
      · exact .inl e
    · left
      rw [T.get_set_ne _ _ _ _ _ hi, T.get_full]

/-- memory cut down to rows: each place tells nothing, or what it told -/
theorem cut_at {E : Env} {h : Heap} {w : World} {nxt : Nat} {R : Rows} {a : AO} (hr : HR E h nxt w) (hR : samePs h R = true) (ha : RO E w fplace a ∧ a.live = false) (i : Nat) :
    RO E w i (T.get .gone (rowsH R (baseH a)) i) ∧ ((T.get .gone (rowsH R (baseH a)) i).live = true → (T.get .gone h i).live = true) := by
  rcases rowsH_get R (baseH a) i with e | e | ⟨o, ho, e⟩
  · rcases base_get a i with g | ⟨_, g⟩ | ⟨rfl, g⟩
    · rw [e, g]; exact ⟨trivial, fun h => by cases h⟩
    · rw [e, g]; exact ⟨trivial, fun h => by cases h⟩
    · rw [e, g]; exact ⟨ha.1, fun h => by rw [ha.2] at h; cases h⟩
  · rw [e]; exact ⟨trivial, fun h => by cases h⟩
  · obtain ⟨_, hp⟩ := samePs_ok hR _ ho
    obtain ⟨c, c1, c2, c3⟩ := sameP_ok hp
    have := hr.obj i
    rw [e]
    dsimp only at c1
    rw [c1] at this
    exact ⟨ro_row c2 c3 this, fun _ => by rw [c1]; rfl⟩

theorem flr_one {h : Heap} (e : flr h = 1) : T.get .gone h 0 = .floor 1 := by
  unfold flr at e
  split at e
  · rename_i n hn; rw [hn, e]
  · cases e

theorem rows_flr (R : Rows) (a : AO) : flr (rowsH R (baseH a)) ≤ 1 := by
  unfold flr
  rcases rowsH_get R (baseH a) 0 with e | e | ⟨o, ho, e⟩
  · rcases base_get a 0 with g | ⟨_, g⟩ | ⟨k, g⟩
    · rw [e, g]; exact Nat.zero_le _
    · rw [e, g]; exact Nat.le_refl _
    · exact absurd k (by unfold fplace; omega)
  · rw [e]; exact Nat.zero_le _
  · rw [e]; exact Nat.zero_le _

noncomputable def factsAt (h : Heap) : AO := match T.get .gone h fplace with
  | .facts fs => .facts fs
  | _ => .gone
theorem factsAt_ok {E : Env} {h : Heap} {nxt : Nat} {w : World} (hr : HR E h nxt w) {E' : Env} (hle : E.le E') (w' : World) : RO E' w' fplace (factsAt h) ∧ (factsAt h).live = false := by
  have := hr.obj fplace
  unfold factsAt
  split
  · rename_i fs hf
    rw [hf] at this
    exact ⟨fun p hp => den_mono hle _ _ (this p hp), rfl⟩
  · exact ⟨trivial, rfl⟩

noncomputable def cutC (args0 : List AV) (N : Nat) (R : Rows) (v' : AV) (R' : Rows) (N' : Nat) : Ct := fun args h nxt k =>
  bc (sameWL args args0) (bc (Nat.beq nxt N) (bc (Nat.beq (flr h) 1) (bc (samePs h R)
    (rowsK R' (baseH (factsAt h)) fun h3 => bc (Nat.beq (flr h3) 1) (k v' h3 N') false) false) false) false) false

/-- the run that shows it -/
noncomputable def cutRun (call : CallF) (g : FuncId) (args0 : List AV) (N : Nat) (R : Rows) (v' : AV) (R' : Rows) (N' : Nat) : Bool :=
  rowsK R (baseH .gone) fun h0 => bc (Nat.beq (flr h0) 1) (call g args0 h0 N fun v h n => bc (sameT v v') (bc (Nat.ble n N') (samePs h R') false) false) false

theorem cutC_ok {P : Program} {call : CallF} (hc : CallOK P call) {g : FuncId} {args0 : List AV} {N N' : Nat} {R R' : Rows} {v' : AV} (hv : ∀ u, v' ≠ .pk u)
    (he : cutRun call g args0 N R v' R' N' = true) : CtOK P g (cutC args0 N R v' R' N') := by
  intro args ARGS E h nxt w k hk ra hr
  unfold cutRun at he
  rw [rowsK_eq] at he
  obtain ⟨f0, he⟩ := bc_and he
  have f0 := Nat.eq_of_beq_eq_true f0
  have hk : bc (sameWL args args0) (bc (Nat.beq nxt N) (bc (Nat.beq (flr h) 1) (bc (samePs h R)
    (rowsK R' (baseH (factsAt h)) fun h3 => bc (Nat.beq (flr h3) 1) (k v' h3 N') false) false) false) false) false = true := hk
  obtain ⟨k1, hk⟩ := bc_and hk
  obtain ⟨k2, hk⟩ := bc_and hk
  obtain ⟨k3, hk⟩ := bc_and hk
  obtain ⟨k4, hk⟩ := bc_and hk
  rw [rowsK_eq] at hk
  obtain ⟨f3, hfin⟩ := bc_and hk
  have f3 := Nat.eq_of_beq_eq_true f3
  have k3 := Nat.eq_of_beq_eq_true k3
  obtain rfl := sameWL_ok k1
  obtain rfl := Nat.eq_of_beq_eq_true k2
  have g0 := cut_at (R := R) (a := .gone) hr k4 ⟨trivial, rfl⟩
  have hr0 : HR E (rowsH R (baseH .gone)) nxt w := hr.cut (Nat.le_refl _) (by rw [f0]; exact hr.pos) g0
  have sub : ∀ j, fp E (rowsH R (baseH .gone)) j → fp E h j := fun j ⟨i, L, a1, a2, a3, a4⟩ => ⟨i, L, by rw [k3]; rw [f0] at a1; exact a1, (g0 i).2 a2, a3, a4⟩
  refine (hc g args ARGS E _ nxt w _ he ra hr0).mono ?_
  rintro e w' (⟨V, rfl, v, h', n', E', rv, hr', gs, hh⟩ | ⟨V, rfl, v, h', n', E', rv, hr', gs, hh⟩)
  case inr =>
    obtain ⟨hh, _⟩ := bc_and hh
    exact absurd (sameT_ok hh).symm (hv v)
  obtain ⟨h1, hh⟩ := bc_and hh
  obtain ⟨h2, h3⟩ := bc_and hh
  obtain rfl := sameT_ok h1
  have h2 := Nat.le_of_ble_eq_true h2
  have ge := cut_at (R := R') (a := factsAt h) hr' h3 (factsAt_ok hr gs.ext w')
  have hr2 : HR E' (rowsH R' (baseH (factsAt h))) N' w' := hr'.cut h2 (by rw [f3]; have := hr'.pos; omega) ge
  refine ⟨V, rfl, _, _, _, E', rv, hr2, ⟨gs.ext, gs.size, fun j hj hn => gs.fr j hj fun hf => hn (sub j hf), fun j hj ⟨i, L, a1, a2, a3, a4⟩ => sub j (gs.fpm j hj ⟨i, L, ?_, (ge i).2 a2, a3, a4⟩), by rw [f3, k3], fun i hi => ?_, gs.os, gs.output, gs.tape⟩, hfin⟩
  · rw [gs.flr, f0]; rw [f3] at a1; exact a1
  · rw [k3] at hi
    obtain rfl : i = 0 := by omega
    rw [flr_one f3, flr_one k3]

/-- the function's own code, where it doesn't panic -/
noncomputable def noPk (v : AV) (b : Bool) : Bool := match v with
  | .pk _ => false
  | _ => b
noncomputable def runC (call : CallF) (g : FuncId) : Ct := fun args h nxt k => call g args h nxt fun v h n => noPk v (k v h n)
theorem runC_ok {P : Program} {call : CallF} (hc : CallOK P call) (g : FuncId) : CtOK P g (runC call g) := by
  intro args ARGS E h nxt w k he ra hr
  refine (hc g args ARGS E h nxt w _ he ra hr).mono ?_
  rintro e w' (⟨V, rfl, v, h', n', E', rv, hr', gs, hh⟩ | ⟨V, rfl, v, h', n', E', rv, hr', gs, hh⟩)
  · refine ⟨V, rfl, v, h', n', E', rv, hr', gs, ?_⟩
    have hh : noPk v (k v h' n') = true := hh
    cases v <;> first | exact hh | (cases hh; done)
  · cases hh
end Go.Proofs.YtnkmiphcgjpgkaaGreatDoor.Vx
