/- sort.SliceStable for the evaluator; the table of contracts with it. No condition. -/
import Derived.Test.YtbmekbpgoakkbaaGreatDoorVxZ
import Derived.Test.YtbmekbpgoakkbaaGreatDoorKw
import Derived.Shelf.GgSortMore.Stable
import Derived.Test.YtbmekbpgoakkbaaGreatDoorSd
set_option linter.all false
namespace Go.Proofs.YtbmekbpgoakkbaaGreatDoor.Vx
open Go Go.Lib Go.Shelf Go.RowKit Go.Proofs

theorem below_grow (w : World) (os : Array Obj) : Below w.heap.size w (Sort.grow w os) :=
  { os := rfl, tape := rfl, output := rfl, size := by simp [Sort.grow], block := fun k hk => by simp [Sort.grow, Array.getElem?_append_left hk] }

noncomputable def stableC (call : CallF) (st sw t el G : Nat) : Ct := fun args h nxt k => match args with
  | [.ifc t' (.so id off n used), .fn f a b] => bc (Nat.beq t' t) (bc (Nat.ble 2 n) (bc (Nat.ble n 1000) (call st [.ag [.fn f a b, .fn (.func sw) [] [.so id off n used, .pg G el]], .i .i64 (Int.ofNat n)] h nxt fun v h' n' => match v with
    | .tu [] => k (.tu []) h' n'
    | _ => false) false) (k (.tu []) h nxt)) false
  | [.ifc t' .sn, .fn f a b] => bc (Nat.beq t' t) (k (.tu []) h nxt) false
  | _ => false

theorem stableC_ok {P : Program} {ρ : Ren} (L : LaysGt.n8 P ρ) {call : CallF} (hc : CallOK P call) {t el sw : Nat} {i ie : TypeInfo} (hi : P.info? t = some i) (hd : i.desc = .slice el) (hpk : P.packed t = false) (hie : P.info? el = some ie) (ke : Nat) (hke : ∀ w, (Extern.Rtype.kind el).run P w = .ok ke w)
    (hsw : ∀ n, 2 ≤ n → swapperK n ie ke = 9) (hf : P.funcs.findIdx? (·.name == "internal/reflectlite" ++ ".Swapper$" ++ toString 9) = some sw) {s1 s2 : Nat} (hf1 : P.funcs.findIdx? (·.name == "internal/reflectlite" ++ ".Swapper$" ++ toString 1) = some s1) (hf2 : P.funcs.findIdx? (·.name == "internal/reflectlite" ++ ".Swapper$" ++ toString 2) = some s2) : CtOK P (ρ.f 8) (stableC call (ρ.f 15) sw t el P.globals.size) := by
  refine CtOK.of ?_
  intro args ARGS E h nxt w k hk ra hr
  have tiny : ∀ (p : Option Addr) (n c : Nat) (lf : Fn) (la lb : Array Value) (w : World), n ≤ 1 → Calls P (ρ.f 8) #[.iface t (.slice p n c), .func lf la lb] w fun e w' => e = .returned (.tuple #[]) ∧ ∃ os, w' = Sort.grow w os := fun p n c lf la lb w hn => by
    rcases Nat.eq_zero_or_pos n with h0 | h0
    · subst h0
      exact Any.sort_SliceStable_tiny L t el i ie hi hd hpk hie ke hke p 0 c (by omega) s1 hf1 lf la lb w
    · obtain rfl : n = 1 := by omega
      exact Any.sort_SliceStable_tiny L t el i ie hi hd hpk hie ke hke p 1 c (by omega) s2 hf2 lf la lb w
  unfold stableC at hk
  split at hk <;> try (cases hk; done)
  case h_2 =>
    rename_i t' f a b
    obtain ⟨h1, c1⟩ := bc_and hk
    have h1 := Nat.eq_of_beq_eq_true h1
    clear hk
    subst h1
    obtain ⟨X, Y, hA, rx, ry⟩ := ra.two
    rw [Rv] at rx
    obtain ⟨W, hX, rw0⟩ := rx
    subst hX
    rw [Rv] at rw0
    subst rw0
    rw [Rv] at ry
    obtain ⟨vs, ws, hY, _, _⟩ := ry
    subst hY
    have hARGS : ARGS = #[.iface t' (.slice none 0 0), .func f vs.toArray ws.toArray] := by apply Array.ext'; simpa using hA
    subst hARGS
    refine (tiny _ _ _ f vs.toArray ws.toArray w (by omega)).mono ?_
    rintro en w' ⟨rfl, os, rfl⟩
    exact ⟨_, rfl, .tu [], h, nxt, E, by rw [Rv]; exact ⟨[], rfl, RvL.nil⟩, hr.below (below_grow w os), Goes.below (below_grow w os), c1⟩
  rename_i t' id off n used f a b
  obtain ⟨h1, c1⟩ := bc_and hk
  have h1 := Nat.eq_of_beq_eq_true h1
  clear hk
  subst h1
  rcases bc_or c1 with ⟨h2, c2⟩ | ⟨h2, c2⟩
  rotate_left
  · have hn : n ≤ 1 := by
      rcases Nat.lt_or_ge n 2 with hh | hh
      · omega
      · rw [Nat.ble_eq_true_of_le hh] at h2; cases h2
    obtain ⟨X, Y, hA, rx, ry⟩ := ra.two
    rw [Rv] at rx
    obtain ⟨W, hX, rw0⟩ := rx
    subst hX
    rw [Rv] at rw0
    obtain ⟨S, hS, hW, hroom⟩ := rw0
    subst hW
    rw [Rv] at ry
    obtain ⟨vs, ws, hY, _, _⟩ := ry
    subst hY
    have hARGS : ARGS = #[.iface t' (.slice (some ⟨S.blk, S.base + off, none⟩) n (S.room - used)), .func f vs.toArray ws.toArray] := by apply Array.ext'; simpa using hA
    subst hARGS
    refine (tiny _ _ _ f vs.toArray ws.toArray w hn).mono ?_
    rintro en w' ⟨rfl, os, rfl⟩
    exact ⟨_, rfl, .tu [], h, nxt, E, by rw [Rv]; exact ⟨[], rfl, RvL.nil⟩, hr.below (below_grow w os), Goes.below (below_grow w os), c2⟩
  obtain ⟨h3, c3⟩ := bc_and c2
  have h2 := Nat.le_of_ble_eq_true h2
  have h3 := Nat.le_of_ble_eq_true h3
  clear c1 c2
  obtain ⟨X, Y, hA, rx, ry⟩ := ra.two
  rw [Rv] at rx
  obtain ⟨W, rfl, rw0⟩ := rx
  have rw1 := rw0
  rw [Rv] at rw0
  obtain ⟨S, hS, hW, hroom⟩ := rw0
  subst hW
  have ry1 := ry
  rw [Rv] at ry
  obtain ⟨vs, ws, hY, q1, q2⟩ := ry
  subst hY
  have hARGS : ARGS = #[.iface t' (.slice (some ⟨S.blk, S.base + off, none⟩) n (S.room - used)), .func f vs.toArray ws.toArray] := by apply Array.ext'; simpa using hA
  subst hARGS
  have hb : Below w.heap.size w (stableWorld P ρ t' (some ⟨S.blk, S.base + off, none⟩) n (S.room - used) w) := by
    unfold stableWorld
    exact ((Below.refl _ _).alloc (Nat.le_refl _) _).alloc (by simp) _
  have hr' := hr.below hb
  refine (Any.sort_SliceStable_of_stable L t' el i ie hi hd hpk hie ke hke _ n _ (by omega) sw (by rw [hsw n h2]; exact hf) f vs.toArray ws.toArray w (fun w' => Gives E h w k (.tuple #[]) w') ?_).mono ?_
  · have hB : sliceBound P el ie ke (some ⟨S.blk, S.base + off, none⟩) n (S.room - used) = #[.slice (some ⟨S.blk, S.base + off, none⟩) n (S.room - used), typeHandle P el] := by
      unfold sliceBound
      rw [hsw n h2]; rfl
    rw [hB]
    refine (hc (ρ.f 15) _ _ E h nxt _ _ c3 ?_ hr' trivial).mono ?_
    · exact .cons (by rw [Rv]; exact ⟨_, rfl, .cons ry1 (.cons (by rw [Rv]; exact ⟨[], _, rfl, .nil, .cons rw1 (.cons (by rw [Rv]; rfl) .nil)⟩) .nil)⟩) (.cons (by rw [Rv]; rfl) .nil)
    · rintro en w' (⟨V, rfl, v, h', n', E', rv, hr2, gs, hh⟩ | ⟨V, rfl, v, h', n', E', rv, hr2, gs, hh⟩)
      · dsimp only at hh
        split at hh <;> try (cases hh; done)
        have rv0 := rv
        rw [Rv] at rv0
        obtain ⟨us, e1, e2⟩ := rv0
        rw [RvL] at e2
        subst e2
        subst e1
        exact ⟨rfl, _, h', n', E', rv, hr2, (Goes.below hb).trans gs, hh⟩
      · cases hh
  · rintro en w' ⟨rfl, hg⟩
    exact ⟨_, rfl, hg⟩
end Go.Proofs.YtbmekbpgoakkbaaGreatDoor.Vx
set_option linter.all false
namespace Go.Proofs.YtbmekbpgoakkbaaGreatDoor.Se
open Go Vx
noncomputable def sp : Specs := fun g => match g with
  | 441 => some (stableC (run Sd.sp 200) 579 664 82 86 Tryz.prog.globals.size)
  | g => Sd.sp g
end Go.Proofs.YtbmekbpgoakkbaaGreatDoor.Se
