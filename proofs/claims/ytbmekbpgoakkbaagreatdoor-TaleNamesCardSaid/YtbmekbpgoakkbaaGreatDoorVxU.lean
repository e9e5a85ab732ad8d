/- Blocks that nobody knows, and that are taken up later. No condition. -/
import Derived.Test.YtbmekbpgoakkbaaGreatDoorVxQ
set_option linter.unusedVariables false
set_option linter.unusedSimpArgs false
set_option linter.constructorNameAsVariable false
set_option linter.unusedSectionVars false
namespace Go.Proofs.YtbmekbpgoakkbaaGreatDoor.Vx
open Go

section
variable {E : Env} {h : Heap} {nxt : Nat} {w : World}

theorem push_get {o x : Obj} {k : Nat} (hx : w.heap[k]? = some x) : ({ w with heap := w.heap.push o } : World).heap[k]? = some x := by
  have : k < w.heap.size := by
    rcases Nat.lt_or_ge k w.heap.size with hh | hh
    · exact hh
    · rw [Array.getElem?_eq_none hh] at hx; cases hx
  show (w.heap.push o)[k]? = _
  rw [Array.getElem?_push, if_neg (by omega)]; exact hx

theorem RO.push {i : Nat} {a : AO} {o : Obj} (r : RO E w i a) : RO E { w with heap := w.heap.push o } i a := by
  cases a with
  | gone => trivial
  | floor n => trivial
  | facts fs => exact r
  | ali p off q cap => exact r
  | cells n e c => obtain ⟨L, arr, el, h1, h2, h3⟩ := r; exact ⟨L, arr, el, h1, push_get h2, h3⟩
  | map es c => obtain ⟨L, ms, h1, h2, h3⟩ := r; exact ⟨L, ms, h1, push_get h2, h3⟩
  | siter l n p => obtain ⟨L, h1, h2, h3⟩ := r; exact ⟨L, h1, h2, push_get h3⟩
  | glob g n c => obtain ⟨L, arr, el, fr, h1, h2, h3, h4⟩ := r; exact ⟨L, arr, el, fr, h1, h2, push_get h3, h4⟩
  | rows el len => obtain ⟨L, arr, n, h1, h0, h2, h3⟩ := r; exact ⟨L, arr, n, h1, h0, push_get h2, h3⟩
  | blob el sz S l len => obtain ⟨L, arr, n, h1, h0, h2, h3⟩ := r; exact ⟨L, arr, n, h1, h0, push_get h2, h3⟩

/-- a block more, that nobody knows -/
theorem HR.junk (hr : HR E h nxt w) (o : Obj) : HR E h nxt { w with heap := w.heap.push o } :=
  ⟨fun i => (hr.obj i).push, hr.inj, hr.lt, hr.fresh, fun i L hi => by have := hr.inw i L hi; simp; omega, hr.pos, hr.flle, hr.zero⟩

theorem Goes.junk {E0 : Env} {h0 : Heap} {w0 : World} (g : Goes E0 h0 w0 E h w) {o : Obj} (hz : Cold o) : Goes E0 h0 w0 E h { w with heap := w.heap.push o } :=
  ⟨g.ext, by have := g.size; simp; omega, fun k hk hn => by
    rw [← g.fr k hk hn]
    have : k < w.heap.size := by have := g.size; omega
    show (w.heap.push o)[k]? = _
    rw [Array.getElem?_push, if_neg (by omega)], g.fpm, g.flr, g.keep, g.os, g.output, g.tape⟩

theorem Env.mono_map {E' : Env} (hle : E.le E') : ∀ (es : List Ent) (ms : List MapEntry), REntL E es ms → REntL E' es ms := by
  intro es
  induction es with
  | nil => intro ms r; exact r
  | cons x es ih => intro ms ⟨m, ms', e1, ⟨r1, r2, r3⟩, r4⟩; exact ⟨m, ms', e1, ⟨r1.mono hle, r2.mono hle, r3⟩, ih _ r4⟩

/-- a block that nobody knew is taken up -/
theorem HR.adopt (hr : HR E h nxt w) (L : Spot) (hL : L.blk < w.heap.size) (hno : ∀ i M, (T.get .gone h i).live = true → E i = some M → M.blk ≠ L.blk) (a : AO)
    (ha : RO (fun i => if i = nxt then some L else E i) w nxt a) :
    HR (fun i => if i = nxt then some L else E i) (T.set a h nxt) (nxt + 1) w := by
  have hle := Env.le_set (hr.fresh nxt (Nat.le_refl _)) L
  have old : ∀ i M, i ≠ nxt → (if i = nxt then some L else E i) = some M → E i = some M := fun i M e hM => by simpa [e] using hM
  have live_of : ∀ i, i ≠ nxt → (T.get AO.gone (T.set a h nxt) i) = T.get .gone h i := fun i e => T.get_set_ne _ _ _ _ _ e
  have hp := hr.pos
  have hfl := hr.flle
  have hfs : flr (T.set a h nxt) = flr h := flr_set fun e => by omega
  refine ⟨fun i => ?_, fun i j A B hi hj hA hB hAB => ?_, fun i hi => ?_, fun i hi => ?_, fun i M hM => ?_, by omega, by rw [hfs]; omega, by rw [live_of 0 (by omega)]; exact hr.zero⟩
  · by_cases e : i = nxt
    · subst e
      rcases T.get_set_eq AO.gone a h i with g | g <;> rw [g]
      · exact ha
      · trivial
    · rw [live_of i e]
      have hob := hr.obj i
      cases ho : T.get AO.gone h i <;> rw [ho] at hob
      case gone => trivial
      case floor => trivial
      case facts => exact fun p hp => den_mono hle _ _ (hob p hp)
      case ali =>
        obtain ⟨M9, M8, c9, h1, h2, h3, h4⟩ := hob
        exact ⟨M9, M8, c9, hle _ _ h1, hle _ _ h2, den_mono hle _ _ h3, h4⟩
      case cells =>
        obtain ⟨M, ar, e', h1, h2, h3, h4, h5⟩ := hob
        exact ⟨M, ar, e', by simp [e, h1], h2, h3, h4, fun j hj => (h5 j hj).mono hle⟩
      case map es ck =>
        obtain ⟨M, ms, h1, h2, h3⟩ := hob
        exact ⟨M, ms, by simp [e, h1], h2, Env.mono_map hle _ _ h3⟩
      case siter =>
        obtain ⟨M, h1, h2, h3⟩ := hob
        exact ⟨M, by simp [e, h1], h2, h3⟩
      case glob =>
        obtain ⟨M, ar, e', fr, h1, h2, h3, h4, h5⟩ := hob
        exact ⟨M, ar, e', fr, by simp [e, h1], h2, h3, h4, (fun j hj => (h5.1 j hj).mono hle), h5.2.wide hle⟩
      case rows =>
        obtain ⟨M, ar, n9, h1, hb0, h2, h3, h4⟩ := hob
        exact ⟨M, ar, n9, by simp [e, h1], hb0, h2, den_mono hle _ _ h3, h4⟩
      case blob =>
        obtain ⟨M, ar, n9, h1, hb0, h2, h3, h4, h5, c0, h6, h7, h8, h9⟩ := hob
        exact ⟨M, ar, n9, by simp [e, h1], hb0, h2, den_mono hle _ _ h3, h4, h5, c0, den_mono hle _ _ h6, h7, h8, fun j a hj => (h9 j a hj).mono hle⟩
  · by_cases ei : i = nxt
    · by_cases ej : j = nxt
      · rw [ei, ej]
      · rw [live_of j ej] at hj
        have hA' : A = L := by simpa [ei] using hA.symm
        subst hA'
        exact absurd hAB.symm (hno j B hj (old j B ej hB))
    · by_cases ej : j = nxt
      · rw [live_of i ei] at hi
        have hB' : B = L := by simpa [ej] using hB.symm
        subst hB'
        exact absurd hAB (hno i A hi (old i A ei hA))
      · rw [live_of i ei] at hi
        rw [live_of j ej] at hj
        exact hr.inj i j A B hi hj (old i A ei hA) (old j B ej hB) hAB
  · rw [live_of i (by omega)]; exact hr.lt i (by omega)
  · have : i ≠ nxt := by omega
    simp only [this, if_false]; exact hr.fresh i (by omega)
  · by_cases e : i = nxt
    · have : M = L := by simpa [e] using hM.symm
      rw [this]; exact hL
    · exact hr.inw i M (old i M e hM)

theorem Goes.adopt {E0 : Env} {h0 : Heap} {w0 : World} (g : Goes E0 h0 w0 E h w) (hr : HR E h nxt w) (L : Spot) (hL : w0.heap.size ≤ L.blk) (a : AO) :
    Goes E0 h0 w0 (fun i => if i = nxt then some L else E i) (T.set a h nxt) w := by
  have hle := Env.le_set (hr.fresh nxt (Nat.le_refl _)) L
  have hp := hr.pos
  have hfl := hr.flle
  have hfs : Vx.flr (T.set a h nxt) = Vx.flr h := flr_set fun e => by omega
  refine ⟨Env.le_trans g.ext hle, g.size, g.fr, fun k hk ⟨i, M, h1, h2, h3, h4⟩ => ?_, hfs.trans g.flr, fun i hi => ?_, g.os, g.output, g.tape⟩
  · by_cases e : i = nxt
    · have : M = L := by simpa [e] using h3.symm
      subst this; omega
    · rw [T.get_set_ne _ _ _ _ _ e] at h2
      exact g.fpm k hk ⟨i, M, by rw [← hfs]; exact h1, h2, by simpa [e] using h3, h4⟩
  · have := g.flr
    rw [T.get_set_ne _ _ _ _ _ (by omega)]; exact g.keep i hi
end
end Go.Proofs.YtbmekbpgoakkbaaGreatDoor.Vx
