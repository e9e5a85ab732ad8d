/- The evaluator of regions that draw their order. No condition. -/
import Derived.Test.YtbmekbpgoakkbaaGreatDoorVxP
import Derived.Test.YtbmekbpgoakkbaaGreatDoorVxL
set_option linter.unusedVariables false
set_option linter.unusedSimpArgs false
set_option linter.constructorNameAsVariable false
set_option linter.unusedSectionVars false
namespace Go.Proofs.YtbmekbpgoakkbaaGreatDoor.Vx
open Go

/-! ### Values that say all -/
noncomputable def exK (v : AV) : Bool := AV.rec (motive_1 := fun _ => Bool) (motive_2 := fun _ => Bool)
  false true (fun _ => true) (fun _ _ => true) (fun _ _ => true) false (fun _ _ => true) true (fun _ _ => true) (fun _ _ => true) true
  (fun _ _ _ _ => true) (fun _ _ _ _ => true) (fun _ _ _ a b => bc a b false) true (fun _ _ a => a) true (fun _ a => a) (fun _ a => a) (fun _ => true) true (fun _ => false) (fun _ _ => false) (fun _ _ => true) false (fun _ _ _ _ => true) (fun _ _ => true) (fun _ _ => true)
  true (fun _ _ a b => bc a b false) v

noncomputable def exL (l : List AV) : Bool := AV.rec_1 (motive_1 := fun _ => Bool) (motive_2 := fun _ => Bool)
  false true (fun _ => true) (fun _ _ => true) (fun _ _ => true) false (fun _ _ => true) true (fun _ _ => true) (fun _ _ => true) true
  (fun _ _ _ _ => true) (fun _ _ _ _ => true) (fun _ _ _ a b => bc a b false) true (fun _ _ a => a) true (fun _ a => a) (fun _ a => a) (fun _ => true) true (fun _ => false) (fun _ _ => false) (fun _ _ => true) false (fun _ _ _ _ => true) (fun _ _ => true) (fun _ _ => true)
  true (fun _ _ a b => bc a b false) l

mutual
theorem Rv.exact {E E' : Env} (h : E.le E') : ∀ (a : AV) (V V' : Value), exK a = true → Rv E a V → Rv E' a V' → V' = V
  | .no, _, _, he, _, _ => by cases he
  | .un, _, _, _, r, r' => by rw [Rv] at *; rw [r, r']
  | .b _, _, _, _, r, r' => by rw [Rv] at *; rw [r, r']
  | .i _ _, _, _, _, r, r' => by rw [Rv] at *; rw [r, r']
  | .f _ _, _, _, _, r, r' => by rw [Rv] at *; rw [r, r']
  | .nan, _, _, he, _, _ => by cases he
  | .ii _, _, _, he, _, _ => by cases he
  | .pk _, _, _, he, _, _ => by cases he
  | .any, _, _, he, _, _ => by cases he
  | .sx _ _ _ _, _, _, _, r, r' => by
    rw [Rv] at *
    obtain ⟨L, n, c, e, e1, e2, _, _, rfl⟩ := r
    obtain ⟨L', n', c', e', e1', e2', _, _, rfl⟩ := r'
    rw [h _ _ e] at e'; cases e'
    rw [den_mono h _ _ e1] at e1'
    rw [den_mono h _ _ e2] at e2'
    simp only [Option.some.injEq, Value.int.injEq, true_and] at e1' e2'
    have : n = n' := by omega
    have : c = c' := by omega
    subst n; subst c; rfl
  | .sz _ _, _, _, _, r, r' => by
    rw [Rv] at *
    obtain ⟨L, n, e, e1, _, _, rfl⟩ := r
    obtain ⟨L', n', e', e1', _, _, rfl⟩ := r'
    rw [h _ _ e] at e'; cases e'
    rw [den_mono h _ _ e1] at e1'
    simp only [Option.some.injEq, Value.int.injEq, true_and] at e1'
    have : n = n' := by omega
    subst n; rfl
  | .sr _ _, _, _, _, r, r' => by
    rw [Rv] at *
    obtain ⟨L, n, e, e1, _, _, rfl⟩ := r
    obtain ⟨L', n', e', e1', _, _, rfl⟩ := r'
    rw [h _ _ e] at e'; cases e'
    rw [den_mono h _ _ e1] at e1'
    simp only [Option.some.injEq, Value.int.injEq, true_and] at e1'
    have : n = n' := by omega
    subst n; rfl
  | .x _ e, V, V', _, r, r' => by
    rw [Rv] at *
    have := den_mono h e V r.1
    rw [r'.1] at this; cases this; rfl
  | .s _ _, _, _, _, r, r' => by rw [Rv] at *; rw [r, r']
  | .pn, _, _, _, r, r' => by rw [Rv] at *; rw [r, r']
  | .p _ _, _, _, _, r, r' => by
    rw [Rv] at *
    obtain ⟨L, e, rfl⟩ := r
    obtain ⟨L', e', rfl⟩ := r'
    rw [h _ _ e] at e'; cases e'; rfl
  | .pg _ _, _, _, _, r, r' => by rw [Rv] at *; rw [r, r']
  | .sn, _, _, _, r, r' => by rw [Rv] at *; rw [r, r']
  | .sl _ _ _ _, _, _, _, r, r' => by
    rw [Rv] at *
    obtain ⟨L, e, rfl⟩ := r
    obtain ⟨L', e', rfl⟩ := r'
    rw [h _ _ e] at e'; cases e'; rfl
  | .so _ _ _ _, _, _, _, r, r' => by
    rw [Rv] at *
    obtain ⟨L, e, rfl, _⟩ := r
    obtain ⟨L', e', rfl, _⟩ := r'
    rw [h _ _ e] at e'; cases e'; rfl
  | .fn _ as bs, _, _, he, r, r' => by
    have he : bc (exL as) (exL bs) false = true := he
    obtain ⟨h1, h2⟩ := bc_and he
    rw [Rv] at *
    obtain ⟨vs, ws, rfl, r1, r2⟩ := r
    obtain ⟨vs', ws', rfl, r1', r2'⟩ := r'
    rw [RvL.exact h as vs vs' h1 r1 r1', RvL.exact h bs ws ws' h2 r2 r2']
  | .fnil, _, _, _, r, r' => by rw [Rv] at *; rw [r, r']
  | .ifc _ v, _, _, he, r, r' => by
    have he : exK v = true := he
    rw [Rv] at *
    obtain ⟨W, rfl, r⟩ := r
    obtain ⟨W', rfl, r'⟩ := r'
    rw [Rv.exact h v W W' he r r']
  | .inil, _, _, _, r, r' => by rw [Rv] at *; rw [r, r']
  | .ag cs, _, _, he, r, r' => by
    have he : exL cs = true := he
    rw [Rv] at *
    obtain ⟨vs, rfl, r⟩ := r
    obtain ⟨vs', rfl, r'⟩ := r'
    rw [RvL.exact h cs vs vs' he r r']
  | .tu cs, _, _, he, r, r' => by
    have he : exL cs = true := he
    rw [Rv] at *
    obtain ⟨vs, rfl, r⟩ := r
    obtain ⟨vs', rfl, r'⟩ := r'
    rw [RvL.exact h cs vs vs' he r r']
  | .mp _, _, _, _, r, r' => by
    rw [Rv] at *
    obtain ⟨L, e, rfl⟩ := r
    obtain ⟨L', e', rfl⟩ := r'
    rw [h _ _ e] at e'; cases e'; rfl
  | .mpn, _, _, _, r, r' => by rw [Rv] at *; rw [r, r']
theorem RvL.exact {E E' : Env} (h : E.le E') : ∀ (as : List AV) (vs vs' : List Value), exL as = true → RvL E as vs → RvL E' as vs' → vs' = vs
  | [], _, _, _, r, r' => by rw [RvL] at *; rw [r, r']
  | a :: as, _, _, he, r, r' => by
    have he : bc (exK a) (exL as) false = true := he
    obtain ⟨h1, h2⟩ := bc_and he
    rw [RvL] at *
    obtain ⟨v, vs, rfl, r1, r2⟩ := r
    obtain ⟨v', vs', rfl, r1', r2'⟩ := r'
    rw [Rv.exact h a v v' h1 r1 r1', RvL.exact h as vs vs' h2 r2 r2']
end

/-! ### Parts of memory -/
/-- the trie with only the places that 'p' holds of -/
def T.keep {α : Type} (d : α) : (Nat → Bool) → T α → T α
  | _, .nil => .nil
  | p, .node v l r => .node (bif p 0 then v else d) (T.keep d (fun j => p (2 * j + 1)) l) (T.keep d (fun j => p (2 * j + 2)) r)

theorem T.get_keep {α : Type} (d : α) : ∀ (t : T α) (p : Nat → Bool) (i : Nat), T.get d (T.keep d p t) i = bif p i then T.get d t i else d
  | .nil, p, i => by cases h : p i <;> rfl
  | .node v l r, p, 0 => rfl
  | .node v l r, p, j + 1 => by
    show Nat.rec (motive := fun _ => α) (T.get d (T.keep d (fun j => p (2 * j + 1)) l) (j / 2)) (fun _ _ => T.get d (T.keep d (fun j => p (2 * j + 2)) r) (j / 2)) (j % 2)
      = bif p (j + 1) then Nat.rec (motive := fun _ => α) (T.get d l (j / 2)) (fun _ _ => T.get d r (j / 2)) (j % 2) else d
    rcases T.mod_two j with h | h <;> rw [h]
    · show T.get d (T.keep d (fun j => p (2 * j + 1)) l) (j / 2) = bif p (j + 1) then T.get d l (j / 2) else d
      rw [T.get_keep d l]
      have : 2 * (j / 2) + 1 = j + 1 := by omega
      rw [this]
    · show T.get d (T.keep d (fun j => p (2 * j + 2)) r) (j / 2) = bif p (j + 1) then T.get d r (j / 2) else d
      rw [T.get_keep d r]
      have : 2 * (j / 2) + 2 = j + 1 := by omega
      rw [this]

theorem T.get_set_live {α : Type} (d x : α) : ∀ (t : T α) (i : Nat), T.get d t i ≠ d → T.get d (T.set x t i) i = x
  | .nil, i, h => absurd rfl h
  | .node v l r, 0, _ => rfl
  | .node v l r, j + 1, h => by
    have h : Nat.rec (motive := fun _ => α) (T.get d l (j / 2)) (fun _ _ => T.get d r (j / 2)) (j % 2) ≠ d := h
    show T.get d (Nat.rec (motive := fun _ => T α) (.node v (T.set x l (j / 2)) r) (fun _ _ => .node v l (T.set x r (j / 2))) (j % 2)) (j + 1) = x
    rcases T.mod_two j with e | e
    · rw [e] at h ⊢
      show Nat.rec (motive := fun _ => α) (T.get d (T.set x l (j / 2)) (j / 2)) (fun _ _ => T.get d r (j / 2)) (j % 2) = x
      rw [e]; exact T.get_set_live d x l _ h
    · rw [e] at h ⊢
      show Nat.rec (motive := fun _ => α) (T.get d l (j / 2)) (fun _ _ => T.get d (T.set x r (j / 2)) (j / 2)) (j % 2) = x
      rw [e]; exact T.get_set_live d x r _ h

/-- the first says no more than the second -/
def AO.le : AO → AO → Prop
  | .cells n e c, b => ∃ n' e' c', b = .cells n' e' c' ∧ n ≤ n' ∧ (e = 0 ∨ (e = e' ∧ n = n')) ∧ ∀ j, c.get j = .no ∨ c.get j = c'.get j
  | a, b => b = a

theorem AO.le_refl (a : AO) : a.le a := by
  cases a with
  | cells n e c => exact ⟨n, e, c, rfl, Nat.le_refl _, .inr ⟨rfl, rfl⟩, fun _ => .inr rfl⟩
  | _ => rfl
theorem AO.le.live {a b : AO} (h : a.le b) : b.live = a.live := by
  cases a with
  | cells n e c => obtain ⟨n', e', c', rfl, _⟩ := h; rfl
  | _ => cases h; rfl
theorem RO.le {E : Env} {w : World} {i : Nat} {a b : AO} (h : a.le b) (r : RO E w i b) : RO E w i a := by
  cases a with
  | cells n e c =>
    obtain ⟨n', e', c', rfl, h1, h2, h3⟩ := h
    obtain ⟨L, arr, el, k1, k2, k3, k4, k5⟩ := r
    refine ⟨L, arr, el, k1, k2, by omega, ?_, fun j hj => ?_⟩
    · rcases h2 with rfl | ⟨rfl, rfl⟩
      · exact Esz.ok_zero _ _ _ _
      · exact k4
    · rcases h3 j with h | h
      · rw [h]; simp [Rv]
      · rw [h]; exact k5 j (by omega)
  | _ => cases h; exact r

def Sub (g h : Heap) : Prop := ∀ i, (T.get .gone g i).live = true → (T.get .gone g i).le (T.get .gone h i)
theorem Sub.refl (h : Heap) : Sub h h := fun _ _ => AO.le_refl _
theorem Sub.nil (h : Heap) : Sub .nil h := fun i hi => by cases hi

/-- what holds of the worlds in which 'g' still stands -/
def IW (E : Env) (g : Heap) (w : World) : Prop := ∃ E1 n, E.le E1 ∧ HR E1 g n w

/-- the facts hold -/
def FOK (E : Env) (g : Heap) : Prop := (∀ i fs, T.get .gone g i = .facts fs → ∀ p ∈ fs, den E p.1 = some (.bool p.2)) ∧ ∀ i p off q cap, T.get .gone g i = .ali p off q cap → ∀ w, RO E w i (.ali p off q cap)
theorem FOK.mono {E E' : Env} (h : E.le E') {g : Heap} (f : FOK E g) : FOK E' g := ⟨fun i fs hi p hp => den_mono h _ _ (f.1 i fs hi p hp), fun i p off q cap hi w => by obtain ⟨L, M, c, h1, h2, h3, h4⟩ := f.2 i p off q cap hi w; exact ⟨L, M, c, h _ _ h1, h _ _ h2, den_mono h _ _ h3, h4⟩⟩
theorem FOK.nil (E : Env) : FOK E .nil := ⟨fun i fs hi => (by cases hi), fun i p off q cap hi => (by cases hi)⟩
theorem HR.fok {E : Env} {h : Heap} {n : Nat} {w : World} (hr : HR E h n w) : FOK E h := ⟨fun i fs hi => by
  have := hr.obj i
  rw [hi] at this; exact this, fun i p off q cap hi w' => by
  have := hr.obj i
  rw [hi] at this; exact this⟩
def SubF (E : Env) (g h : Heap) : Prop := Sub g h ∧ FOK E g

theorem HR.sub {E : Env} {g h : Heap} {n : Nat} {w : World} (hr : HR E h n w) (s : SubF E g h) : HR E g (max n (Vx.flr g)) w := by
  have lv : ∀ i, (T.get .gone g i).live = true → (T.get .gone h i).live = true := fun i hi => by rw [(s.1 i hi).live]; exact hi
  have z : ∀ i, (T.get .gone h i).live = false → (T.get .gone g i).live = false := fun i hi => by
    cases hz : (T.get .gone g i).live
    · rfl
    · rw [lv i hz] at hi; exact hi
  refine ⟨fun i => ?_, fun i j L M hi hj => hr.inj i j L M (lv i hi) (lv j hj), fun i hi => z i (hr.lt i (by omega)), fun i hi => hr.fresh i (by omega), hr.inw, by have := hr.pos; omega, by omega, z 0 hr.zero⟩
  cases hl : (T.get .gone g i).live
  · cases hg : T.get .gone g i <;> first | trivial | (rw [hg] at hl; cases hl; done) | exact s.2.1 i _ hg | exact s.2.2 i _ _ _ _ hg w
  · exact RO.le (s.1 i hl) (hr.obj i)

theorem IW.of {E E1 : Env} {g h : Heap} {n : Nat} {w : World} (hE : E.le E1) (hr : HR E1 h n w) (s : SubF E g h) : IW E g w := ⟨E1, _, hE, hr.sub ⟨s.1, s.2.mono hE⟩⟩

/-! ### The floor -/
theorem get_set0 {t : Heap} {x : AO} (h : t ≠ .nil) : T.get .gone (T.set x t 0) 0 = x := by
  cases t with
  | nil => exact absurd rfl h
  | node v l r => rfl

theorem flr_ne {h : Heap} (p : 1 ≤ Vx.flr h) : h ≠ .nil := by
  rintro rfl
  simp [Vx.flr, T.get] at p

theorem HR.floor {E : Env} {h : Heap} {n : Nat} {w : World} (hr : HR E h n w) (hf : Vx.flr (T.set (.floor n) h 0) = n) : HR E (T.set (.floor n) h 0) n w := by
  have z : (T.get .gone (T.set (.floor n) h 0) 0).live = false := by
    rcases T.get_set_eq .gone (AO.floor n) h 0 with g | g <;> rw [g] <;> rfl
  have ne : ∀ i, (T.get .gone (T.set (.floor n) h 0) i).live = true → T.get .gone (T.set (.floor n) h 0) i = T.get .gone h i := fun i hi => by
    by_cases h0 : i = 0
    · subst h0; rw [z] at hi; cases hi
    · exact T.get_set_ne _ _ _ _ _ h0
  refine ⟨fun i => ?_, fun i j L M hi hj => ?_, fun i hi => ?_, hr.fresh, hr.inw, hr.pos, by omega, z⟩
  · by_cases h0 : i = 0
    · subst h0
      rcases T.get_set_eq .gone (AO.floor n) h 0 with g | g <;> rw [g] <;> trivial
    · rw [T.get_set_ne _ _ _ _ _ h0]; exact hr.obj i
  · rw [ne i hi] at hi; rw [ne j hj] at hj
    exact hr.inj i j L M hi hj
  · by_cases h0 : i = 0
    · subst h0; exact z
    · rw [T.get_set_ne _ _ _ _ _ h0]; exact hr.lt i hi

theorem HR.unfloor {E E' : Env} {h h' : Heap} {n n' : Nat} {w w' : World} (hr : HR E h n w) (hf : Vx.flr (T.set (.floor n) h 0) = n) (hr' : HR E' h' n' w') (g : Goes E (T.set (.floor n) h 0) w E' h' w') :
    HR E' (T.set (T.get .gone h 0) h' 0) n' w' ∧ Goes E h w E' (T.set (T.get .gone h 0) h' 0) w' ∧ ∀ i, i < n → T.get .gone (T.set (T.get .gone h 0) h' 0) i = T.get .gone h i := by
  have fl : Vx.flr h' = n := g.flr.trans hf
  have hne : h' ≠ .nil := flr_ne (by have := hr.pos; omega)
  have e0 : T.get .gone (T.set (T.get .gone h 0) h' 0) 0 = T.get .gone h 0 := get_set0 hne
  have en : ∀ i, i ≠ 0 → T.get .gone (T.set (T.get .gone h 0) h' 0) i = T.get .gone h' i := fun i hi => T.get_set_ne _ _ _ _ _ hi
  have eo : ∀ i, i < n → T.get .gone (T.set (T.get .gone h 0) h' 0) i = T.get .gone h i := fun i hi => by
    by_cases h0 : i = 0
    · subst h0; exact e0
    · rw [en i h0, g.keep i (by rw [hf]; exact hi), T.get_set_ne _ _ _ _ _ h0]
  have efl : Vx.flr (T.set (T.get .gone h 0) h' 0) = Vx.flr h := by unfold Vx.flr; rw [e0]
  have nz : ∀ i, (T.get .gone (T.set (T.get .gone h 0) h' 0) i).live = true → i ≠ 0 := fun i hi h0 => by
    subst h0; rw [e0, hr.zero] at hi; cases hi
  have nofp : ∀ k, ¬ fp E (T.set (.floor n) h 0) k := by
    rintro k ⟨i, L, hi, hl, _, _⟩
    rw [hf] at hi
    have : i ≠ 0 := by have := hr.pos; omega
    rw [T.get_set_ne _ _ _ _ _ this, hr.lt i hi] at hl
    cases hl
  refine ⟨⟨fun i => ?_, fun i j L M hi hj => ?_, fun i hi => ?_, hr'.fresh, hr'.inw, hr'.pos, ?_, by rw [e0]; exact hr.zero⟩, ⟨g.ext, g.size, fun k hk _ => g.fr k hk (nofp k), fun k hk => ?_, efl, fun i hi => eo i (by have := hr.flle; omega), g.os, g.output, g.tape⟩, eo⟩
  · by_cases h0 : i = 0
    · subst h0
      rw [e0]
      have z := hr.zero
      cases hg : T.get .gone h 0 <;> first | trivial | (rw [hg] at z; cases z; done) | (have := hr.obj 0; rw [hg] at this; exact fun p hp => den_mono g.ext _ _ (this p hp)) | (have := hr.obj 0; rw [hg] at this; obtain ⟨L9, M9, c9, q1, q2, q3, q4⟩ := this; exact ⟨L9, M9, c9, g.ext _ _ q1, g.ext _ _ q2, den_mono g.ext _ _ q3, q4⟩)
    · rw [en i h0]; exact hr'.obj i
  · have a := en i (nz i hi)
    have b := en j (nz j hj)
    rw [a] at hi; rw [b] at hj
    exact hr'.inj i j L M hi hj
  · by_cases h0 : i = 0
    · subst h0; rw [e0]; exact hr.zero
    · rw [en i h0]; exact hr'.lt i hi
  · rw [efl]
    have := hr.flle
    have := hr'.flle
    omega
  · rintro ⟨i, L, h1, h2, h3, h4⟩
    have h0 := nz i h2
    rcases Nat.lt_or_ge i n with hi | hi
    · rw [eo i hi] at h2
      rw [efl] at h1
      have ho := hr.obj i
      have : ∃ M, E i = some M := by
        cases hg : T.get .gone h i with
        | gone => rw [hg] at h2; cases h2
        | floor m => rw [hg] at h2; cases h2
        | facts m => rw [hg] at h2; cases h2
        | ali a1 a2 a3 a4 => rw [hg] at h2; cases h2
        | cells => rw [hg] at ho; obtain ⟨M, _, _, e, _⟩ := ho; exact ⟨M, e⟩
        | map => rw [hg] at ho; obtain ⟨M, _, e, _⟩ := ho; exact ⟨M, e⟩
        | siter => rw [hg] at ho; obtain ⟨M, e, _⟩ := ho; exact ⟨M, e⟩
        | glob => rw [hg] at ho; obtain ⟨M, _, _, _, e, _⟩ := ho; exact ⟨M, e⟩
        | rows => rw [hg] at ho; obtain ⟨M, _, _, e, _⟩ := ho; exact ⟨M, e⟩
        | blob => rw [hg] at ho; obtain ⟨M, _, _, e, _⟩ := ho; exact ⟨M, e⟩
      obtain ⟨M, e⟩ := this
      have := g.ext _ _ e
      rw [h3] at this; cases this
      exact ⟨i, L, h1, h2, e, h4⟩
    · rw [en i h0] at h2
      exact absurd (g.fpm k hk ⟨i, L, by omega, h2, h3, h4⟩) (nofp k)
end Go.Proofs.YtbmekbpgoakkbaaGreatDoor.Vx
