/- sort.SliceStable: what Swapper's function does, for the evaluator. No condition. -/
import Derived.Test.YtbmekbpgoakkbaaGreatDoorVxX
import Derived.Lib.ReflectliteSwap
set_option linter.all false
namespace Go.Proofs.YtbmekbpgoakkbaaGreatDoor.Vx
open Go Go.Lib Go.Extern.Rtype

theorem loadAt_var {P : Program} {t : TypeId} {a : Addr} {w w' : World} {V : Value} (h : (Instr.loadAt t (.pointer (some a))).run P w = .ok V w') : (loadVar t a).run P w = .ok V w' := by
  simpa [Instr.loadAt, Instr.sureAddr, Sem.run_bind, Sem.run_pure, Result.andThen_ok] using h
theorem storeAt_var {P : Program} {t : TypeId} {a : Addr} {w w' : World} {V : Value} (h : (Instr.storeAt t (.pointer (some a)) V).run P w = .ok () w') : (storeVar t a V).run P w = .ok () w' := by
  simpa [Instr.storeAt, Instr.sureAddr, Sem.run_bind, Sem.run_pure, Result.andThen_ok] using h

noncomputable def swapC (P : Program) (e G : Nat) : List AV → Heap → Nat → K → Bool := fun args h nxt k => match args with
  | [.i .i64 (.ofNat i), .i .i64 (.ofNat j), .so id off n used, .pg g o] => bc (Nat.beq g G) (bc (Nat.beq o e) (bc (Nat.ble (Nat.succ i) n) (bc (Nat.ble (Nat.succ j) n) (match P.info? e with
    | some ie => forceN (Nat.add off (Nat.mul i ie.size)) fun a => forceN (Nat.add off (Nat.mul j ie.size)) fun b => evLoad P e (.p id a) h fun x => evLoad P e (.p id b) h fun y => evStore P e (.p id a) y h fun h1 => evStore P e (.p id b) x h1 fun h2 => k (.tu []) h2 nxt
    | none => false) false) false) false) false
  | _ => false

theorem swapC_ok (P : Program) (e : Nat) (gs : Bool) : Ext1 P (Extern.ReflectliteSwapper.swap gs) (swapC P e P.globals.size) := by
  intro args ARGS E h nxt w k hc ra hr
  unfold swapC at hc
  split at hc <;> try (cases hc; done)
  rename_i i j id off n used g o
  obtain ⟨h1, c1⟩ := bc_and hc
  obtain ⟨h2, c2⟩ := bc_and c1
  obtain ⟨h3, c3⟩ := bc_and c2
  obtain ⟨h4, c4⟩ := bc_and c3
  have h3 : i + 1 ≤ n := Nat.le_of_ble_eq_true h3
  have h4 : j + 1 ≤ n := Nat.le_of_ble_eq_true h4
  have h1 := Nat.eq_of_beq_eq_true h1
  have h2 := Nat.eq_of_beq_eq_true h2
  clear hc c1 c2 c3
  subst h1 h2
  cases hie : P.info? o with
  | none => rw [hie] at c4; cases c4
  | some ie =>
  rw [hie] at c4
  dsimp only at c4
  rw [forceN_eq, forceN_eq] at c4
  rw [RvL] at ra
  obtain ⟨X1, v1, hA, r1, ra⟩ := ra
  rw [RvL] at ra
  obtain ⟨X2, v2, e2, r2, ra⟩ := ra
  obtain ⟨X3, X4, e3, r3, r4⟩ := ra.two
  rw [Rv] at r1
  rw [Rv] at r2
  rw [Rv] at r3
  rw [Rv] at r4
  obtain ⟨L, hL, r3, _⟩ := r3
  subst r1 r2 r3 r4 e2 e3
  have hARGS : ARGS = #[.int .i64 (Int.ofNat i), .int .i64 (Int.ofNat j), .slice (some ⟨L.blk, L.base + off, none⟩) n (L.room - used), typeHandle P o] := by apply Array.ext'; simpa [typeHandle] using hA
  subst hARGS
  have pa : Rv E (.p id (Nat.add off (Nat.mul i ie.size))) (.pointer (some ⟨L.blk, L.base + (off + i * ie.size), none⟩)) := by rw [Rv]; exact ⟨L, hL, rfl⟩
  have pb : Rv E (.p id (Nat.add off (Nat.mul j ie.size))) (.pointer (some ⟨L.blk, L.base + (off + j * ie.size), none⟩)) := by rw [Rv]; exact ⟨L, hL, rfl⟩
  obtain ⟨x, X, l1, rx, hc⟩ := evLoad_ok c4 pa hr
  obtain ⟨y, Y, l2, ry, hc⟩ := evLoad_ok hc pb hr
  obtain ⟨h1, w1, s1, hr1, g1, hc⟩ := evStore_ok hc pa ry hr
  obtain ⟨h2, w2, s2, hr2, g2, hc⟩ := evStore_ok hc pb rx hr1
  have l1 := loadAt_var l1
  have l2 := loadAt_var l2
  have s1 := storeAt_var s1
  have s2 := storeAt_var s2
  refine ⟨.tuple #[], w2, ?_, .tu [], h2, nxt, E, by rw [Rv]; exact ⟨[], rfl, RvL.nil⟩, hr2, g1.trans g2, hc⟩
  have i0 : ¬ ((i : Int) < 0) := by omega
  have j0 : ¬ ((j : Int) < 0) := by omega
  have i1 : ¬ (n ≤ i) := by omega
  have j1 : ¬ (n ≤ j) := by omega
  rw [rl_swap]
  cases gs <;> simp [Extern.ReflectliteSwapper.exchange, ofHandle, handleType, typeHandle, Sem.run_bind, run_sizeOf' hie, Result.andThen, Addr.add_lit, Nat.add_assoc, l1, l2, s1, s2, i0, j0, i1, j1]
end Go.Proofs.YtbmekbpgoakkbaaGreatDoor.Vx
