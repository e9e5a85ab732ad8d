/- A great call with inner calls, where a package variable is some whole number; a package variable that holds a table. No condition. -/
import Derived.Test.YtbmekbpgoakkbaaGreatDoorVxZ
import Derived.Test.YtbmekbpgoakkbaaGreatDoorVxZh
set_option linter.all false
namespace Go.Proofs.YtbmekbpgoakkbaaGreatDoor.Vx
open Go
theorem someInt_row {h : Heap} {g : Nat} {b : Bool} (he : someInt h g b = true) : b = true ∧ ∃ n c, T.get .gone h (Nat.succ g) = .glob g n c ∧ 1 ≤ n ∧ T.get .no c 0 = .ii .i64 := by
  unfold someInt at he
  split at he <;> try (cases he; done)
  rename_i g' n c hc
  obtain ⟨h1, he1⟩ := bc_and he
  clear he
  obtain ⟨h1, _⟩ := bc_and h1
  obtain ⟨h2, he2⟩ := bc_and he1
  obtain rfl := Nat.eq_of_beq_eq_true h1
  split at he2 <;> try (cases he2; done)
  rename_i hg
  exact ⟨he2, n, c, hc, Nat.le_of_ble_eq_true h2, hg⟩

theorem cut_glob {E : Env} {h : Heap} {w : World} {nxt F gv n : Nat} {R : Rows} {c : T AV} (hr : HR E h nxt w) (hR : samePs h R = true) (h1 : T.get .gone h (Nat.succ gv) = .glob gv n c) (h2 : 1 ≤ n) (h3 : T.get .no c 0 = .ii .i64) (i : Nat) :
    RO E w i (T.get .gone (rowsH R (startH [(gv, [.ii .i64])] F)) i) ∧ ((T.get .gone (rowsH R (startH [(gv, [.ii .i64])] F)) i).live = true → (T.get .gone h i).live = true) := by
  rcases rowsH_get R (startH [(gv, [.ii .i64])] F) i with e | e | ⟨o, ho, e⟩
  · rw [e]
    cases i with
    | zero => rw [startH_zero]; exact ⟨trivial, fun h => by cases h⟩
    | succ i =>
      rcases startH_get [(gv, [.ii .i64])] F i with b | ⟨q, hq, e2, b⟩
      · rw [b]; exact ⟨trivial, fun h => by cases h⟩
      · obtain rfl := List.mem_singleton.1 hq
        have e2 : gv = i := e2
        subst e2
        rw [b, h1]
        refine ⟨?_, fun _ => rfl⟩
        have ho := hr.obj (Nat.succ gv)
        rw [h1] at ho
        obtain ⟨L, arr, el, fr, k1, k2, k3, k4, k5, k6⟩ := ho
        refine ⟨L, arr, el, fr, k1, k2, k3, by show L.base + 1 ≤ arr.size; omega, fun j hj => ?_, k6⟩
        have hj : j < 1 := hj
        obtain rfl : j = 0 := by omega
        have r0 := k5 0 (by omega)
        rw [h3] at r0
        have := wrLs_new [.ii .i64] [arr.getD (L.base + 0) undef] (.cons r0 .nil) 0 (by simp)
        simpa using this
  · rw [e]; exact ⟨trivial, fun h => by cases h⟩
  · obtain ⟨_, hp⟩ := samePs_ok hR _ ho
    obtain ⟨c, c1, c2, c3⟩ := sameP_ok hp
    have := hr.obj i
    rw [e]
    dsimp only at c1
    rw [c1] at this
    exact ⟨ro_row c2 c3 this, fun _ => by rw [c1]; rfl⟩

noncomputable def keepG (gv : Nat) (args0 : List AV) (F N : Nat) (R : Rows) (v' : AV) (R' : Rows) (N' : Nat) : Ct := fun args h nxt k =>
  someInt h gv (bc (Nat.beq nxt N) (bc (sameWL args args0) (bc (Nat.beq (flr h) F) (bc (samePs h R) (rowsK R' h fun h3 => k v' h3 N') false) false) false) false)

/-- the run that shows it -/
noncomputable def keepRunG (call : CallF) (gv : Nat) (g : FuncId) (args0 : List AV) (F N : Nat) (R : Rows) (v' : AV) (R' : Rows) (N' : Nat) : Bool :=
  bc (noPk v' true) (bc (Nat.ble (gv + 2) F) (bc (Nat.ble F N) (bc (Nat.ble N N') (bc (okR F R) (bc (okW N N' R R')
  (rowsK R (startH [(gv, [.ii .i64])] F) fun h0 => bc (Nat.beq (flr h0) F) (call g args0 h0 N fun v h n => bc (sameT v v') (bc (Nat.ble n N') (bc (samePs h R') (keptPs h R R') false) false) false) false)
  false) false) false) false) false) false

theorem keepG_ok {P : Program} {call : CallF} (hc : CallOK P call) {g gv : FuncId} {args0 : List AV} {F N N' : Nat} {R R' : Rows} {v' : AV} 
    (he : keepRunG call gv g args0 F N R v' R' N' = true) : CtOK P g (keepG gv args0 F N R v' R' N') := by
  refine CtOK.of ?_
  intro args ARGS E h nxt w k hk ra hr
  unfold keepRunG at he
  obtain ⟨s0, he⟩ := bc_and he
  have hv : ∀ u, v' ≠ .pk u := fun u hu => by rw [hu] at s0; cases s0
  obtain ⟨s1, he⟩ := bc_and he
  obtain ⟨s2, he⟩ := bc_and he
  obtain ⟨s3, he⟩ := bc_and he
  obtain ⟨s4, he⟩ := bc_and he
  obtain ⟨s5, he⟩ := bc_and he
  have s1 := Nat.le_of_ble_eq_true s1
  have s2 := Nat.le_of_ble_eq_true s2
  have s3 := Nat.le_of_ble_eq_true s3
  have s4 := okR_ok s4
  have s5 := okW_ok s5
  rw [rowsK_eq] at he
  obtain ⟨f0, he⟩ := bc_and he
  have f0 := Nat.eq_of_beq_eq_true f0
  have hk : someInt h gv (bc (Nat.beq nxt N) (bc (sameWL args args0) (bc (Nat.beq (flr h) F) (bc (samePs h R) (rowsK R' h fun h3 => k v' h3 N') false) false) false) false) = true := hk
  obtain ⟨hk, gn, gc, gh1, gh2, gh3⟩ := someInt_row hk
  obtain ⟨k2, hk⟩ := bc_and hk
  obtain ⟨k1, hk⟩ := bc_and hk
  obtain ⟨k3, hk⟩ := bc_and hk
  obtain ⟨k4, hfin⟩ := bc_and hk
  rw [rowsK_eq] at hfin
  have k3 := Nat.eq_of_beq_eq_true k3
  obtain rfl := sameWL_ok k1
  obtain rfl := Nat.eq_of_beq_eq_true k2
  have g0 := cut_glob (R := R) (F := F) hr k4 gh1 gh2 gh3
  have hr0 : HR E (rowsH R (startH [(gv, [.ii .i64])] F)) nxt w := hr.cut (Nat.le_refl _) (by rw [f0]; omega) g0
  -- a place behind the floor that is live in the cut is one of the rows
  have lv : ∀ i, F ≤ i → (T.get .gone (rowsH R (startH [(gv, [.ii .i64])] F)) i).live = true → inR i R = true := fun i hF hi => by
    rcases rowsH_get2 R (startH [(gv, [.ii .i64])] F) i with ⟨e, g⟩ | ⟨e, _⟩
    · rw [g] at hi
      cases i with
      | zero => rw [startH_zero] at hi; cases hi
      | succ i =>
        rcases startH_get [(gv, [.ii .i64])] F i with b | ⟨q, hq, e, _⟩
        · rw [b] at hi; cases hi
        · obtain rfl := List.mem_singleton.1 hq
          have e : gv = i := e
          omega
    · exact e
  have geF : ∀ i, inR i R = true → F ≤ i := fun i hi => by
    obtain ⟨o, ho⟩ := of_inR hi
    exact s4 i o ho
  have sub : ∀ j, fp E (rowsH R (startH [(gv, [.ii .i64])] F)) j → fp E h j := fun j ⟨i, L, a1, a2, a3, a4⟩ => ⟨i, L, by rw [k3]; rw [f0] at a1; exact a1, (g0 i).2 a2, a3, a4⟩
  refine (hc g args ARGS E _ nxt w _ he ra hr0 trivial).mono ?_
  rintro e w' (⟨V, rfl, v, h', n', E', rv, hr', gs, hh⟩ | ⟨V, rfl, v, h', n', E', rv, hr', gs, hh⟩)
  case inr =>
    obtain ⟨hh, _⟩ := bc_and hh
    exact absurd (sameT_ok hh).symm (hv v)
  obtain ⟨h1, hh⟩ := bc_and hh
  obtain ⟨h2, hh⟩ := bc_and hh
  obtain ⟨h3, h4⟩ := bc_and hh
  obtain rfl := sameT_ok h1
  have h2 := Nat.le_of_ble_eq_true h2
  have h3 := samePs_ok h3
  have h4 := keptPs_ok h4
  -- a place that stays and is no row: its block is untouched
  have far : ∀ i L, inR i R = false → (T.get .gone h i).live = true → E i = some L → ¬ fp E (rowsH R (startH [(gv, [.ii .i64])] F)) L.blk := fun i L hi hl hL ⟨i', L', b1, b2, b3, b4⟩ => by
    have := hr.inj i i' L L' hl ((g0 i').2 b2) hL b3 b4.symm
    subst this
    rw [f0] at b1
    rw [lv i b1 b2] at hi; cases hi
  have stay : ∀ i, inR i R' = false → RO E' w' i (T.get .gone h i) := fun i hi => by
    cases hR : inR i R with
    | true =>
      obtain ⟨o, ho⟩ := of_inR hR
      obtain ⟨c, c1, c2, c3⟩ := sameP_ok (samePs_ok k4 _ ho).2
      obtain ⟨c', d1, d2, d3⟩ := sameP_ok (h4 i o ho hi)
      have := hr'.obj i
      rw [d1] at this
      dsimp only at c1
      rw [c1]
      exact ro_eq (fun j hj => (c3 j hj).trans (d3 j hj).symm) this
    | false =>
      cases hl : (T.get .gone h i).live with
      | false => exact ro_dead gs.ext (hr.obj i) hl
      | true =>
        obtain ⟨L, hL⟩ := ro_spot (hr.obj i) hl
        refine RO.wide gs.ext (RO.same (fun M hM => ?_) (hr.obj i))
        rw [hL] at hM; cases hM
        exact gs.fr L.blk (hr.inw i L hL) (far i L hR hl hL)
  have row : ∀ i o, (i, o) ∈ R' → (T.get .gone h' i).live = true ∧ RO E' w' i (.cells o.n o.esz (wrCs o.l ⟨o.w, bigR⟩ 0)) := fun i o ho => by
    obtain ⟨_, hp⟩ := h3 _ ho
    obtain ⟨c, c1, c2, c3⟩ := sameP_ok hp
    have := hr'.obj i
    dsimp only at c1
    rw [c1] at this
    exact ⟨by rw [c1]; rfl, ro_row c2 c3 this⟩
  -- live places: those that stay, and rows
  have parts : ∀ i, (T.get .gone (rowsH R' h) i).live = true → (inR i R' = false ∧ (T.get .gone h i).live = true) ∨ (inR i R' = true ∧ (T.get .gone h' i).live = true) := fun i hi => by
    rcases rowsH_get2 R' h i with ⟨e, g⟩ | ⟨e, g | ⟨o, ho, g⟩⟩
    · exact .inl ⟨e, by rw [g] at hi; exact hi⟩
    · rw [g] at hi; cases hi
    · exact .inr ⟨e, (row i o ho).1⟩
  have keptLive : ∀ i, inR i R' = false → inR i R = true → (T.get .gone h' i).live = true := fun i hi hR => by
    obtain ⟨o, ho⟩ := of_inR hR
    obtain ⟨c', d1, _, _⟩ := sameP_ok (h4 i o ho hi)
    rw [d1]; rfl
  have cross : ∀ i j L M, F ≤ j → inR i R' = false → (T.get .gone h i).live = true → (T.get .gone h' j).live = true → E' i = some L → E' j = some M → L.blk = M.blk → i = j := fun i j L M hF hi hl hj hL hM e => by
    cases hR : inR i R with
    | true => exact hr'.inj i j L M (keptLive i hi hR) hj hL hM e
    | false =>
      obtain ⟨L0, hL0⟩ := ro_spot (hr.obj i) hl
      have := gs.ext i L0 hL0
      rw [hL] at this; cases this
      have hlt := hr.inw i L hL0
      refine absurd (gs.fpm L.blk hlt ⟨j, M, ?_, hj, hM, e.symm⟩) (far i L hR hl hL0)
      rw [gs.flr, f0]
      exact hF
  have rowF : ∀ i, inR i R' = true → F ≤ i := fun i hi => by
    obtain ⟨o, ho⟩ := of_inR hi
    rcases (s5 i o ho).2 with hN | hR
    · omega
    · exact geF i hR
  have low : inR 0 R' = false := by
    cases e : inR 0 R' with
    | false => rfl
    | true =>
      obtain ⟨o, ho⟩ := of_inR e
      have := (h3 _ ho).1
      exact absurd this (by simp)
  have zero : T.get .gone (rowsH R' h) 0 = T.get .gone h 0 := by
    rcases rowsH_get2 R' h 0 with ⟨e, g⟩ | ⟨e, _⟩
    · exact g
    · rw [low] at e; cases e
  have flr' : flr (rowsH R' h) = flr h := by unfold flr; rw [zero]
  have hr2 : HR E' (rowsH R' h) N' w' := by
    refine ⟨fun i => ?_, fun i j L M hi hj hL hM e => ?_, fun i hi => ?_, fun i hi => hr'.fresh i (by omega), hr'.inw, by have := hr.pos; omega, by rw [flr']; have := hr.flle; omega, by rw [zero]; exact hr.zero⟩
    · rcases rowsH_get2 R' h i with ⟨e, g⟩ | ⟨e, g | ⟨o, ho, g⟩⟩
      · rw [g]; exact stay i e
      · rw [g]; trivial
      · rw [g]; exact (row i o ho).2
    · rcases parts i hi with ⟨i1, i2⟩ | ⟨i1, i2⟩ <;> rcases parts j hj with ⟨j1, j2⟩ | ⟨j1, j2⟩
      · obtain ⟨L0, hL0⟩ := ro_spot (hr.obj i) i2
        obtain ⟨M0, hM0⟩ := ro_spot (hr.obj j) j2
        have a := gs.ext i L0 hL0
        have b := gs.ext j M0 hM0
        rw [hL] at a; rw [hM] at b; cases a; cases b
        exact hr.inj i j L M i2 j2 hL0 hM0 e
      · exact cross i j L M (rowF j j1) i1 i2 j2 hL hM e
      · exact (cross j i M L (rowF i i1) j1 j2 i2 hM hL e.symm).symm
      · exact hr'.inj i j L M i2 j2 hL hM e
    · cases hl : (T.get .gone (rowsH R' h) i).live with
      | false => rfl
      | true =>
        rcases parts i hl with ⟨_, i2⟩ | ⟨i1, _⟩
        · rw [hr.lt i (by omega)] at i2; cases i2
        · obtain ⟨o, ho⟩ := of_inR i1
          have := (s5 i o ho).1
          omega
  refine ⟨V, rfl, _, _, _, E', rv, hr2, ⟨gs.ext, gs.size, fun j hj hn => gs.fr j hj fun hf => hn (sub j hf), fun j hj ⟨i, L, a1, a2, a3, a4⟩ => ?_, flr', fun i hi => ?_, gs.os, gs.output, gs.tape⟩, hfin⟩
  · rcases parts i a2 with ⟨i1, i2⟩ | ⟨i1, i2⟩
    · obtain ⟨L0, hL0⟩ := ro_spot (hr.obj i) i2
      have a := gs.ext i L0 hL0
      rw [a3] at a; cases a
      exact ⟨i, L, by rw [flr'] at a1; exact a1, i2, hL0, a4⟩
    · refine sub j (gs.fpm j hj ⟨i, L, ?_, i2, a3, a4⟩)
      rw [gs.flr, f0]
      exact rowF i i1
  · rcases rowsH_get2 R' h i with ⟨e, g⟩ | ⟨e, _⟩
    · exact g
    · obtain ⟨o, ho⟩ := of_inR e
      rw [k3] at hi
      rcases (s5 i o ho).2 with hN | hR
      · omega
      · have := geF i hR; omega

end Go.Proofs.YtbmekbpgoakkbaaGreatDoor.Vx
set_option linter.all false
namespace Go.Proofs.YtbmekbpgoakkbaaGreatDoor.Vx
open Go
noncomputable def tabIs (h : Heap) (g : Nat) (l : List AV) (b : Bool) : Bool := match T.get .gone h (Nat.succ g) with
  | .glob g' n c => bc (bc (Nat.beq g g') (Nat.ble (Nat.succ g) 1000000) false) (bc (Nat.ble l.length n) (rdN c l.length 0 fun m => bc (sameL m l) b false) false) false
  | _ => false
theorem tabIs_holds {E : Env} {h : Heap} {nxt : Nat} {w : World} {g : Nat} {l : List AV} {pv : List Value} {b : Bool} (hex : exL l = true) (ra0 : ∀ E, RvL E l pv) (he : tabIs h g l b = true) (hr : HR E h nxt w) : b = true ∧ HoldsG w [(g, l)] := by
  unfold tabIs at he
  split at he <;> try (cases he; done)
  rename_i g' n c hc
  obtain ⟨h1, e1⟩ := bc_and he
  obtain ⟨h2, e2⟩ := bc_and e1
  obtain ⟨h1, hbig⟩ := bc_and h1
  have hbig := Nat.le_of_ble_eq_true hbig
  have h1 := Nat.eq_of_beq_eq_true h1
  have h2 := Nat.le_of_ble_eq_true h2
  rw [rdN_ok] at e2
  obtain ⟨h3, h4⟩ := bc_and e2
  have h3 := sameL_ok h3
  clear he e1 e2
  subst h1
  have ho := hr.obj (Nat.succ g)
  rw [hc] at ho
  obtain ⟨L, arr, el, fr, _, hLB, hb, hsz, hcs, _⟩ := ho
  obtain ⟨hL, hB⟩ := hLB (by omega)
  refine ⟨h4, fun p hp => ?_⟩
  obtain rfl := List.mem_singleton.1 hp
  rw [hL] at hb
  refine ⟨arr, el, fr, hb, fun E' => ?_⟩
  have key : RvL E l ((List.range' 0 l.length).map fun j => arr.getD j undef) := by
    have := RvL.of_range (E := E) (f := fun j => T.get .no c j) (g := fun j => arr.getD j undef) l.length 0 (fun j _ hj => by
      have := hcs j (by omega)
      rw [hB, Nat.zero_add] at this
      exact this)
    rw [h3] at this
    exact this
  have hpv := RvL.exact (Env.le_refl E) l _ _ hex (ra0 E) key
  have e3 : (List.range' 0 l.length).map (fun j => arr.getD j undef) = arr.toList.take l.length := by
    apply List.ext_getElem
    · simp; omega
    · intro j q1 q2
      simp at q1 q2 ⊢
      have : j < arr.size := by omega
      simp [Array.getD, this]
  show RvL E' l (arr.toList.take l.length)
  rw [← e3, hpv]
  exact ra0 E'
theorem holds_two {w : World} {a b : Nat × List AV} (h1 : HoldsG w [a]) (h2 : HoldsG w [b]) : HoldsG w [a, b] := by
  intro p hp
  rcases List.mem_cons.1 hp with rfl | hp
  · exact h1 p (List.mem_singleton.2 rfl)
  · exact h2 p hp
end Go.Proofs.YtbmekbpgoakkbaaGreatDoor.Vx
