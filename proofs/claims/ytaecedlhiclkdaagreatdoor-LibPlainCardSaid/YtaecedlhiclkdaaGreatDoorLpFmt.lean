/- strconv.FormatInt at base 10, whatever its table of powers holds: a text that is a plain function of the number and of one cell of the table. No condition. -/
import Derived.Test.YtaecedlhiclkdaaGreatDoorVxZh
import Derived.Test.YtaecedlhiclkdaaGreatDoorLpShelf
import Derived.Test.YtaecedlhiclkdaaGreatDoorProg
import Derived.WalkKit
import Derived.RegionTactic
import Derived.BigCall
import Derived.BigGuard
import Derived.CellFam
import Derived.Lib.Walk
import Derived.Lib.ItoaWalk
import Derived.Lib.ItoaMem
import Derived.Lib.AppendIntMem
import Derived.Shelf.Strconv.Itoa4
namespace Go.Proofs.YtaecedlhiclkdaaGreatDoor.Fmt
open Go Go.RowKit Go.Sort Go.Lib
open Vx (rowB rowL)
set_option linter.unusedVariables false
set_option linter.unusedSimpArgs false
set_option linter.constructorNameAsVariable false
set_option maxRecDepth 100000

structure FG (n u nd v : Nat) (d : Array UInt8) : Prop where
  size : d.size = n
  le : nd ≤ n
  par : nd % 2 = n % 2
  rest : v = u / 10 ^ (n - nd)
  lt : u < 10 ^ (n + 1)
  row : ∀ t, nd ≤ t → t < n → d[t]! = rowB n u t
theorem FG.start (d : Array UInt8) (u : Nat) (h : u < 10 ^ (d.size + 1)) : FG d.size u d.size u d :=
  ⟨rfl, Nat.le_refl _, rfl, by simp, h, fun t h1 h2 => by omega⟩
theorem FG.step2 {n u k v : Nat} {d : Array UInt8} (h : FG n u (k + 2) v d) : FG n u k (v / 100) ((d.setIfInBounds (k + 1) (sm (v % 100 * 2 + 1))).setIfInBounds k (sm (v % 100 * 2))) := by
  have hle := h.le
  have hpar := h.par
  have hp : v % 100 < 100 := Nat.mod_lt _ (by decide)
  refine ⟨by simp [h.size], by omega, by omega, ?_, h.lt, fun t h1 h3 => ?_⟩
  · rw [h.rest, Nat.div_div_eq_div_mul, show n - k = n - (k + 2) + 2 by omega, Nat.pow_add]
  · by_cases e2 : t = k
    · rw [e2, get_set_same _ _ _ (by simp [h.size]; omega), sm_hi _ hp]
      unfold rowB
      rw [if_neg (by omega), show n - 1 - k = n - (k + 2) + 1 by omega, Nat.pow_succ, ← Nat.div_div_eq_div_mul, ← h.rest]
      congr 2
      omega
    · rw [get_set_other _ _ _ _ e2]
      by_cases e1 : t = k + 1
      · rw [e1, get_set_same _ _ _ (by rw [h.size]; omega), sm_lo _ hp]
        unfold rowB
        rw [if_neg (by omega), show n - 1 - (k + 1) = n - (k + 2) by omega, ← h.rest]
        congr 2
        omega
      · rw [get_set_other _ _ _ _ e1]
        exact h.row t (by omega) h3
theorem FG.step1 {n u v : Nat} {d : Array UInt8} (h : FG n u 1 v d) : FG n u 0 (v / 10) (d.setIfInBounds 0 (UInt8.ofNat (48 + v))) ∨ True := .inr trivial
theorem FG.last {n u v : Nat} {d : Array UInt8} (h : FG n u 1 v d) : ∀ t, t < n → (d.setIfInBounds 0 (UInt8.ofNat (48 + v)))[t]! = rowB n u t := fun t h3 => by
  have hle := h.le
  have hpar := h.par
  by_cases e0 : t = 0
  · rw [e0, get_set_same _ _ _ (by rw [h.size]; omega)]
    unfold rowB
    rw [if_pos ⟨rfl, by omega⟩, h.rest]
  · rw [get_set_other _ _ _ _ e0]
    exact h.row t (by omega) h3
theorem FG.lt8 {n u nd v : Nat} {d : Array UInt8} (h : FG n u nd v d) (h8 : nd < 8) : v < 100000000 := by
  have hle := h.le
  rw [h.rest]
  apply Nat.div_lt_of_lt_mul
  have h1 := h.lt
  rw [show n + 1 = n - nd + (nd + 1) by omega, Nat.pow_add] at h1
  exact Nat.lt_of_lt_of_le h1 (Nat.mul_le_mul_left _ (by have := Nat.pow_le_pow_right (n := 10) (by decide) (show nd + 1 ≤ 8 by omega); simpa using this))
/-- a row that is done -/
def Row (n u : Nat) (dk : Array UInt8) : Prop := dk.size = n ∧ ∀ t, t < n → dk[t]! = rowB n u t

set_option maxHeartbeats 12800000 in
theorem format (blk off cap : Nat) (u : Nat) (d : Array UInt8) (w : World) (hH : Holds (fun (b : UInt8) => Value.int .u8 (b.toNat : Int)) w blk off d) (hu : u < 10 ^ (d.size + 1)) (hu64 : u < 18446744073709551616) (hsz : d.size < 4611686018427387904) :
    Calls Tryz.prog 165 #[.slice (some ⟨blk, off, none⟩) d.size cap, .int .u64 u] w fun e w' =>
      e = .returned (.tuple #[]) ∧ ∃ (n : Nat) (dk : Array UInt8), w' = (putRow (fun (b : UInt8) => Value.int .u8 (b.toNat : Int)) w blk off dk).drewN n ∧ Row d.size u dk := by
  go_enter Tryz.func165, Tryz.ntmps165
  go_name_bytes SM hSM
  have eSM : SM = Lib.smalls := by rw [← hSM]; decide +kernel
  subst eSM
  clear hSM
  go_wp2
  go_loopw [1, 4] (fun vu vn wr => ∃ (nd v n : Nat) (dk : Array UInt8), vu = .int .u64 v ∧ vn = .int .i64 nd ∧ wr = (putRow (fun (b : UInt8) => Value.int .u8 (b.toNat : Int)) w blk off dk).drewN n ∧ Hid (FG d.size u nd v dk)) (fun _ vn _ => (RowKit.intOf vn).toNat)
  case atStart => exact ⟨d.size, u, 0, d, rfl, rfl, (putRow_self _ _ _ _ _ hH).symm, FG.start d u hu⟩
  case round =>
    obtain ⟨nd, v, n, dk0, rfl, rfl, hw0, HI0⟩ := hrel
    rename World => W0
    have AH := Lib.hid hH
    clear hH
    have hv64 : v < 18446744073709551616 := by have := HI0.out.rest; have := Nat.div_le_self u (10 ^ (d.size - nd)); omega
    have hs0 := HI0.out.size
    have hH0 : Holds (fun (b : UInt8) => Value.int .u8 (b.toNat : Int)) W0 blk off dk0 := by rw [hw0]; exact holds_putRow _ w blk off d dk0 AH.out hs0
    obtain ⟨G0, hG0⟩ : ∃ G : Nat → Int, ∀ t, G t = (dk0[t]!.toNat : Int) := ⟨_, fun _ => rfl⟩
    have hc0 : ∀ t, t < d.size → W0.cell? ⟨blk, off + t, none⟩ = some (.int .u8 (G0 t)) := fun t ht => by rw [hG0]; exact (hH0 t (by omega)).1
    have hf0 : ∀ t, t < d.size → W0.frozen? ⟨blk, off + t, none⟩ = false := fun t ht => (hH0 t (by omega)).2
    have AW0 := Lib.hid hw0
    clear hw0 hG0 hH0
    by_cases h8 : 8 ≤ nd
    · obtain ⟨m, rfl⟩ : ∃ m, nd = m + 8 := ⟨nd - 8, by omega⟩
      go_wp2
      have HI1 := Lib.hid (FG.step2 (show FG d.size u (m + 6 + 2) (v) dk0 from HI0.out))
      have hle0 := HI0.out.le
      go_name_slot 9 x0 hx0
      have hxe0 : x0 = ((v % 100 * 2 : Nat) : Int) := by omega
      have hXa0 : ∀ w, (Instr.index 9 (.string Lib.smalls) (.int .u32 (x0 + 1))).run Tryz.prog w = .ok (.int .u8 ((sm (v % 100 * 2 + 1)).toNat : Int)) w := idx_smalls 9 Tryz.underlying9 .u32 _ _ (by omega) (by omega)
      have hXb0 : ∀ w, (Instr.index 9 (.string Lib.smalls) (.int .u32 x0)).run Tryz.prog w = .ok (.int .u8 ((sm (v % 100 * 2)).toNat : Int)) w := idx_smalls 9 Tryz.underlying9 .u32 _ _ (by omega) (by omega)
      have hlo0 : 0 ≤ x0 := by omega
      have hhi0 : x0 ≤ 198 := by omega
      clear hx0 hxe0
      go_region
      go_wp2
      go_name_world W1 hW1
      have hw1 : W1 = (putRow (fun (b : UInt8) => Value.int .u8 (b.toNat : Int)) w blk off ((dk0.setIfInBounds (m + 6 + 1) (sm (v % 100 * 2 + 1))).setIfInBounds (m + 6) (sm (v % 100 * 2)))).drewN (n + 0 + 1) := by rw [← hW1]; exact (by rw [AW0.out]; exact store2_world w blk off dk0 (n + 0) (m + 6 + 1) (m + 6) _ _ (by omega) (by omega))
      generalize ((dk0.setIfInBounds (m + 6 + 1) (sm (v % 100 * 2 + 1))).setIfInBounds (m + 6) (sm (v % 100 * 2))) = dk1 at hw1 HI1
      clear hW1 hc0 hf0 AW0 HI0 hXa0 hXb0 hs0
      have hs1 := HI1.out.size
      have hH1 : Holds (fun (b : UInt8) => Value.int .u8 (b.toNat : Int)) W1 blk off dk1 := by rw [hw1]; exact holds_putRow _ w blk off d dk1 AH.out hs1
      obtain ⟨G1, hG1⟩ : ∃ G : Nat → Int, ∀ t, G t = (dk1[t]!.toNat : Int) := ⟨_, fun _ => rfl⟩
      have hc1 : ∀ t, t < d.size → W1.cell? ⟨blk, off + t, none⟩ = some (.int .u8 (G1 t)) := fun t ht => by rw [hG1]; exact (hH1 t (by omega)).1
      have hf1 : ∀ t, t < d.size → W1.frozen? ⟨blk, off + t, none⟩ = false := fun t ht => (hH1 t (by omega)).2
      have AW1 := Lib.hid hw1
      clear hw1 hG1 hH1
      have HI2 := Lib.hid (FG.step2 (show FG d.size u (m + 4 + 2) (v / 100) dk1 from HI1.out))
      have hle1 := HI1.out.le
      go_name_slot 8 x1 hx1
      have hxe1 : x1 = ((v / 100 % 100 * 2 : Nat) : Int) := by omega
      have hXa1 : ∀ w, (Instr.index 9 (.string Lib.smalls) (.int .u32 (x1 + 1))).run Tryz.prog w = .ok (.int .u8 ((sm (v / 100 % 100 * 2 + 1)).toNat : Int)) w := idx_smalls 9 Tryz.underlying9 .u32 _ _ (by omega) (by omega)
      have hXb1 : ∀ w, (Instr.index 9 (.string Lib.smalls) (.int .u32 x1)).run Tryz.prog w = .ok (.int .u8 ((sm (v / 100 % 100 * 2)).toNat : Int)) w := idx_smalls 9 Tryz.underlying9 .u32 _ _ (by omega) (by omega)
      have hlo1 : 0 ≤ x1 := by omega
      have hhi1 : x1 ≤ 198 := by omega
      clear hx1 hxe1
      go_region
      go_wp2
      go_name_world W2 hW2
      have hw2 : W2 = (putRow (fun (b : UInt8) => Value.int .u8 (b.toNat : Int)) w blk off ((dk1.setIfInBounds (m + 4 + 1) (sm (v / 100 % 100 * 2 + 1))).setIfInBounds (m + 4) (sm (v / 100 % 100 * 2)))).drewN (n + 1 + 1) := by rw [← hW2]; exact (by rw [AW1.out]; exact store2_world w blk off dk1 (n + 1) (m + 4 + 1) (m + 4) _ _ (by omega) (by omega))
      generalize ((dk1.setIfInBounds (m + 4 + 1) (sm (v / 100 % 100 * 2 + 1))).setIfInBounds (m + 4) (sm (v / 100 % 100 * 2))) = dk2 at hw2 HI2
      clear hW2 hc1 hf1 AW1 HI1 hXa1 hXb1 hs1
      have hs2 := HI2.out.size
      have hH2 : Holds (fun (b : UInt8) => Value.int .u8 (b.toNat : Int)) W2 blk off dk2 := by rw [hw2]; exact holds_putRow _ w blk off d dk2 AH.out hs2
      obtain ⟨G2, hG2⟩ : ∃ G : Nat → Int, ∀ t, G t = (dk2[t]!.toNat : Int) := ⟨_, fun _ => rfl⟩
      have hc2 : ∀ t, t < d.size → W2.cell? ⟨blk, off + t, none⟩ = some (.int .u8 (G2 t)) := fun t ht => by rw [hG2]; exact (hH2 t (by omega)).1
      have hf2 : ∀ t, t < d.size → W2.frozen? ⟨blk, off + t, none⟩ = false := fun t ht => (hH2 t (by omega)).2
      have AW2 := Lib.hid hw2
      clear hw2 hG2 hH2
      have HI3 := Lib.hid (FG.step2 (show FG d.size u (m + 2 + 2) (v / 100 / 100) dk2 from HI2.out))
      have hle2 := HI2.out.le
      go_name_slot 11 x2 hx2
      have hxe2 : x2 = ((v / 100 / 100 % 100 * 2 : Nat) : Int) := by omega
      have hXa2 : ∀ w, (Instr.index 9 (.string Lib.smalls) (.int .u32 (x2 + 1))).run Tryz.prog w = .ok (.int .u8 ((sm (v / 100 / 100 % 100 * 2 + 1)).toNat : Int)) w := idx_smalls 9 Tryz.underlying9 .u32 _ _ (by omega) (by omega)
      have hXb2 : ∀ w, (Instr.index 9 (.string Lib.smalls) (.int .u32 x2)).run Tryz.prog w = .ok (.int .u8 ((sm (v / 100 / 100 % 100 * 2)).toNat : Int)) w := idx_smalls 9 Tryz.underlying9 .u32 _ _ (by omega) (by omega)
      have hlo2 : 0 ≤ x2 := by omega
      have hhi2 : x2 ≤ 198 := by omega
      clear hx2 hxe2
      go_region
      go_wp2
      go_name_world W3 hW3
      have hw3 : W3 = (putRow (fun (b : UInt8) => Value.int .u8 (b.toNat : Int)) w blk off ((dk2.setIfInBounds (m + 2 + 1) (sm (v / 100 / 100 % 100 * 2 + 1))).setIfInBounds (m + 2) (sm (v / 100 / 100 % 100 * 2)))).drewN (n + 2 + 1) := by rw [← hW3]; exact (by rw [AW2.out]; exact store2_world w blk off dk2 (n + 2) (m + 2 + 1) (m + 2) _ _ (by omega) (by omega))
      generalize ((dk2.setIfInBounds (m + 2 + 1) (sm (v / 100 / 100 % 100 * 2 + 1))).setIfInBounds (m + 2) (sm (v / 100 / 100 % 100 * 2))) = dk3 at hw3 HI3
      clear hW3 hc2 hf2 AW2 HI2 hXa2 hXb2 hs2
      have hs3 := HI3.out.size
      have hH3 : Holds (fun (b : UInt8) => Value.int .u8 (b.toNat : Int)) W3 blk off dk3 := by rw [hw3]; exact holds_putRow _ w blk off d dk3 AH.out hs3
      obtain ⟨G3, hG3⟩ : ∃ G : Nat → Int, ∀ t, G t = (dk3[t]!.toNat : Int) := ⟨_, fun _ => rfl⟩
      have hc3 : ∀ t, t < d.size → W3.cell? ⟨blk, off + t, none⟩ = some (.int .u8 (G3 t)) := fun t ht => by rw [hG3]; exact (hH3 t (by omega)).1
      have hf3 : ∀ t, t < d.size → W3.frozen? ⟨blk, off + t, none⟩ = false := fun t ht => (hH3 t (by omega)).2
      have AW3 := Lib.hid hw3
      clear hw3 hG3 hH3
      have HI4 := Lib.hid (FG.step2 (show FG d.size u (m + 2) (v / 100 / 100 / 100) dk3 from HI3.out))
      have hle3 := HI3.out.le
      go_name_slot 10 x3 hx3
      have hxe3 : x3 = ((v / 100 / 100 / 100 % 100 * 2 : Nat) : Int) := by omega
      have hXa3 : ∀ w, (Instr.index 9 (.string Lib.smalls) (.int .u32 (x3 + 1))).run Tryz.prog w = .ok (.int .u8 ((sm (v / 100 / 100 / 100 % 100 * 2 + 1)).toNat : Int)) w := idx_smalls 9 Tryz.underlying9 .u32 _ _ (by omega) (by omega)
      have hXb3 : ∀ w, (Instr.index 9 (.string Lib.smalls) (.int .u32 x3)).run Tryz.prog w = .ok (.int .u8 ((sm (v / 100 / 100 / 100 % 100 * 2)).toNat : Int)) w := idx_smalls 9 Tryz.underlying9 .u32 _ _ (by omega) (by omega)
      have hlo3 : 0 ≤ x3 := by omega
      have hhi3 : x3 ≤ 198 := by omega
      clear hx3 hxe3
      go_region
      go_wp2
      go_roundw
      case rel =>
        refine ⟨m, v / 100000000, n + 3 + 1, ((dk3.setIfInBounds (m + 1) (sm (v / 100 / 100 / 100 % 100 * 2 + 1))).setIfInBounds (m) (sm (v / 100 / 100 / 100 % 100 * 2))), by first | go_num | (congr 1; omega), by first | go_num | (congr 1; omega), by rw [AW3.out]; exact store2_world w blk off dk3 (n + 3) (m + 1) (m) _ _ (by omega) (by omega), ?_⟩
        have e : v / 100 / 100 / 100 / 100 = v / 100000000 := by omega
        rw [← e]
        exact HI4.out
      case measure => simp [RowKit.intOf]; omega
    · have hc8 : nd = 0 ∨ nd = 1 ∨ nd = 2 ∨ nd = 3 ∨ nd = 4 ∨ nd = 5 ∨ nd = 6 ∨ nd = 7 := by omega
      rcases hc8 with rfl | rfl | rfl | rfl | rfl | rfl | rfl | rfl
      · have hv8 := HI0.out.lt8 (by omega)
        have hleT := HI0.out.le
        go_wp2
        go_end0
        exact ⟨rfl, n, dk0, AW0.out, HI0.out.size, fun t ht => HI0.out.row t (by omega) ht⟩
      · have hv8 := HI0.out.lt8 (by omega)
        have hleT := HI0.out.le
        go_wp2
        go_end0
        exact ⟨rfl, n, _, by rw [AW0.out]; exact store1_world0 w blk off dk0 n _ (v) (by omega) (by omega), by simp [HI0.out.size], HI0.out.last⟩
      · have hv8 := HI0.out.lt8 (by omega)
        have hleT := HI0.out.le
        go_wp2
        have HI1 := Lib.hid (FG.step2 (show FG d.size u (0 + 2) (v) dk0 from HI0.out))
        have hle0 := HI0.out.le
        go_name_slot 16 x0 hx0
        have hxe0 : x0 = ((v % 100 * 2 : Nat) : Int) := by omega
        have hXa0 : ∀ w, (Instr.index 9 (.string Lib.smalls) (.int .u32 (x0 + 1))).run Tryz.prog w = .ok (.int .u8 ((sm (v % 100 * 2 + 1)).toNat : Int)) w := idx_smalls 9 Tryz.underlying9 .u32 _ _ (by omega) (by omega)
        have hXb0 : ∀ w, (Instr.index 9 (.string Lib.smalls) (.int .u32 x0)).run Tryz.prog w = .ok (.int .u8 ((sm (v % 100 * 2)).toNat : Int)) w := idx_smalls 9 Tryz.underlying9 .u32 _ _ (by omega) (by omega)
        have hlo0 : 0 ≤ x0 := by omega
        have hhi0 : x0 ≤ 198 := by omega
        clear hx0 hxe0
        go_region
        go_wp2
        go_end0
        exact ⟨rfl, n + 0 + 1, _, by rw [AW0.out]; exact store2_world w blk off dk0 (n + 0) (0 + 1) (0) _ _ (by omega) (by omega), HI1.out.size, fun t ht => HI1.out.row t (by omega) ht⟩
      · have hv8 := HI0.out.lt8 (by omega)
        have hleT := HI0.out.le
        go_wp2
        have HI1 := Lib.hid (FG.step2 (show FG d.size u (1 + 2) (v) dk0 from HI0.out))
        have hle0 := HI0.out.le
        go_name_slot 16 x0 hx0
        have hxe0 : x0 = ((v % 100 * 2 : Nat) : Int) := by omega
        have hXa0 : ∀ w, (Instr.index 9 (.string Lib.smalls) (.int .u32 (x0 + 1))).run Tryz.prog w = .ok (.int .u8 ((sm (v % 100 * 2 + 1)).toNat : Int)) w := idx_smalls 9 Tryz.underlying9 .u32 _ _ (by omega) (by omega)
        have hXb0 : ∀ w, (Instr.index 9 (.string Lib.smalls) (.int .u32 x0)).run Tryz.prog w = .ok (.int .u8 ((sm (v % 100 * 2)).toNat : Int)) w := idx_smalls 9 Tryz.underlying9 .u32 _ _ (by omega) (by omega)
        have hlo0 : 0 ≤ x0 := by omega
        have hhi0 : x0 ≤ 198 := by omega
        clear hx0 hxe0
        go_region
        go_wp2
        go_end0
        exact ⟨rfl, n + 0 + 1, _, by rw [AW0.out]; exact store21_world w blk off dk0 (n + 0) (1 + 1) (1) _ _ _ (v / 100) (by omega) (by omega) (by omega), by simp [HI1.out.size], HI1.out.last⟩
      · have hv8 := HI0.out.lt8 (by omega)
        have hleT := HI0.out.le
        go_wp2
        have HI1 := Lib.hid (FG.step2 (show FG d.size u (2 + 2) (v) dk0 from HI0.out))
        have hle0 := HI0.out.le
        go_name_slot 15 x0 hx0
        have hxe0 : x0 = ((v % 100 * 2 : Nat) : Int) := by omega
        have hXa0 : ∀ w, (Instr.index 9 (.string Lib.smalls) (.int .u32 (x0 + 1))).run Tryz.prog w = .ok (.int .u8 ((sm (v % 100 * 2 + 1)).toNat : Int)) w := idx_smalls 9 Tryz.underlying9 .u32 _ _ (by omega) (by omega)
        have hXb0 : ∀ w, (Instr.index 9 (.string Lib.smalls) (.int .u32 x0)).run Tryz.prog w = .ok (.int .u8 ((sm (v % 100 * 2)).toNat : Int)) w := idx_smalls 9 Tryz.underlying9 .u32 _ _ (by omega) (by omega)
        have hlo0 : 0 ≤ x0 := by omega
        have hhi0 : x0 ≤ 198 := by omega
        clear hx0 hxe0
        go_region
        go_wp2
        go_name_world W1 hW1
        have hw1 : W1 = (putRow (fun (b : UInt8) => Value.int .u8 (b.toNat : Int)) w blk off ((dk0.setIfInBounds (2 + 1) (sm (v % 100 * 2 + 1))).setIfInBounds (2) (sm (v % 100 * 2)))).drewN (n + 0 + 1) := by rw [← hW1]; exact (by rw [AW0.out]; exact store2_world w blk off dk0 (n + 0) (2 + 1) (2) _ _ (by omega) (by omega))
        generalize ((dk0.setIfInBounds (2 + 1) (sm (v % 100 * 2 + 1))).setIfInBounds (2) (sm (v % 100 * 2))) = dk1 at hw1 HI1
        clear hW1 hc0 hf0 AW0 HI0 hXa0 hXb0 hs0
        have hs1 := HI1.out.size
        have hH1 : Holds (fun (b : UInt8) => Value.int .u8 (b.toNat : Int)) W1 blk off dk1 := by rw [hw1]; exact holds_putRow _ w blk off d dk1 AH.out hs1
        obtain ⟨G1, hG1⟩ : ∃ G : Nat → Int, ∀ t, G t = (dk1[t]!.toNat : Int) := ⟨_, fun _ => rfl⟩
        have hc1 : ∀ t, t < d.size → W1.cell? ⟨blk, off + t, none⟩ = some (.int .u8 (G1 t)) := fun t ht => by rw [hG1]; exact (hH1 t (by omega)).1
        have hf1 : ∀ t, t < d.size → W1.frozen? ⟨blk, off + t, none⟩ = false := fun t ht => (hH1 t (by omega)).2
        have AW1 := Lib.hid hw1
        clear hw1 hG1 hH1
        have HI2 := Lib.hid (FG.step2 (show FG d.size u (0 + 2) (v / 100) dk1 from HI1.out))
        have hle1 := HI1.out.le
        go_name_slot 14 x1 hx1
        have hxe1 : x1 = ((v / 100 % 100 * 2 : Nat) : Int) := by omega
        have hXa1 : ∀ w, (Instr.index 9 (.string Lib.smalls) (.int .u32 (x1 + 1))).run Tryz.prog w = .ok (.int .u8 ((sm (v / 100 % 100 * 2 + 1)).toNat : Int)) w := idx_smalls 9 Tryz.underlying9 .u32 _ _ (by omega) (by omega)
        have hXb1 : ∀ w, (Instr.index 9 (.string Lib.smalls) (.int .u32 x1)).run Tryz.prog w = .ok (.int .u8 ((sm (v / 100 % 100 * 2)).toNat : Int)) w := idx_smalls 9 Tryz.underlying9 .u32 _ _ (by omega) (by omega)
        have hlo1 : 0 ≤ x1 := by omega
        have hhi1 : x1 ≤ 198 := by omega
        clear hx1 hxe1
        go_region
        go_wp2
        go_end0
        exact ⟨rfl, n + 1 + 1, _, by rw [AW1.out]; exact store2_world w blk off dk1 (n + 1) (0 + 1) (0) _ _ (by omega) (by omega), HI2.out.size, fun t ht => HI2.out.row t (by omega) ht⟩
      · have hv8 := HI0.out.lt8 (by omega)
        have hleT := HI0.out.le
        go_wp2
        have HI1 := Lib.hid (FG.step2 (show FG d.size u (3 + 2) (v) dk0 from HI0.out))
        have hle0 := HI0.out.le
        go_name_slot 15 x0 hx0
        have hxe0 : x0 = ((v % 100 * 2 : Nat) : Int) := by omega
        have hXa0 : ∀ w, (Instr.index 9 (.string Lib.smalls) (.int .u32 (x0 + 1))).run Tryz.prog w = .ok (.int .u8 ((sm (v % 100 * 2 + 1)).toNat : Int)) w := idx_smalls 9 Tryz.underlying9 .u32 _ _ (by omega) (by omega)
        have hXb0 : ∀ w, (Instr.index 9 (.string Lib.smalls) (.int .u32 x0)).run Tryz.prog w = .ok (.int .u8 ((sm (v % 100 * 2)).toNat : Int)) w := idx_smalls 9 Tryz.underlying9 .u32 _ _ (by omega) (by omega)
        have hlo0 : 0 ≤ x0 := by omega
        have hhi0 : x0 ≤ 198 := by omega
        clear hx0 hxe0
        go_region
        go_wp2
        go_name_world W1 hW1
        have hw1 : W1 = (putRow (fun (b : UInt8) => Value.int .u8 (b.toNat : Int)) w blk off ((dk0.setIfInBounds (3 + 1) (sm (v % 100 * 2 + 1))).setIfInBounds (3) (sm (v % 100 * 2)))).drewN (n + 0 + 1) := by rw [← hW1]; exact (by rw [AW0.out]; exact store2_world w blk off dk0 (n + 0) (3 + 1) (3) _ _ (by omega) (by omega))
        generalize ((dk0.setIfInBounds (3 + 1) (sm (v % 100 * 2 + 1))).setIfInBounds (3) (sm (v % 100 * 2))) = dk1 at hw1 HI1
        clear hW1 hc0 hf0 AW0 HI0 hXa0 hXb0 hs0
        have hs1 := HI1.out.size
        have hH1 : Holds (fun (b : UInt8) => Value.int .u8 (b.toNat : Int)) W1 blk off dk1 := by rw [hw1]; exact holds_putRow _ w blk off d dk1 AH.out hs1
        obtain ⟨G1, hG1⟩ : ∃ G : Nat → Int, ∀ t, G t = (dk1[t]!.toNat : Int) := ⟨_, fun _ => rfl⟩
        have hc1 : ∀ t, t < d.size → W1.cell? ⟨blk, off + t, none⟩ = some (.int .u8 (G1 t)) := fun t ht => by rw [hG1]; exact (hH1 t (by omega)).1
        have hf1 : ∀ t, t < d.size → W1.frozen? ⟨blk, off + t, none⟩ = false := fun t ht => (hH1 t (by omega)).2
        have AW1 := Lib.hid hw1
        clear hw1 hG1 hH1
        have HI2 := Lib.hid (FG.step2 (show FG d.size u (1 + 2) (v / 100) dk1 from HI1.out))
        have hle1 := HI1.out.le
        go_name_slot 14 x1 hx1
        have hxe1 : x1 = ((v / 100 % 100 * 2 : Nat) : Int) := by omega
        have hXa1 : ∀ w, (Instr.index 9 (.string Lib.smalls) (.int .u32 (x1 + 1))).run Tryz.prog w = .ok (.int .u8 ((sm (v / 100 % 100 * 2 + 1)).toNat : Int)) w := idx_smalls 9 Tryz.underlying9 .u32 _ _ (by omega) (by omega)
        have hXb1 : ∀ w, (Instr.index 9 (.string Lib.smalls) (.int .u32 x1)).run Tryz.prog w = .ok (.int .u8 ((sm (v / 100 % 100 * 2)).toNat : Int)) w := idx_smalls 9 Tryz.underlying9 .u32 _ _ (by omega) (by omega)
        have hlo1 : 0 ≤ x1 := by omega
        have hhi1 : x1 ≤ 198 := by omega
        clear hx1 hxe1
        go_region
        go_wp2
        go_end0
        exact ⟨rfl, n + 1 + 1, _, by rw [AW1.out]; exact store21_world w blk off dk1 (n + 1) (1 + 1) (1) _ _ _ (v / 100 / 100) (by omega) (by omega) (by omega), by simp [HI2.out.size], HI2.out.last⟩
      · have hv8 := HI0.out.lt8 (by omega)
        have hleT := HI0.out.le
        go_wp2
        have HI1 := Lib.hid (FG.step2 (show FG d.size u (4 + 2) (v) dk0 from HI0.out))
        have hle0 := HI0.out.le
        go_name_slot 15 x0 hx0
        have hxe0 : x0 = ((v % 100 * 2 : Nat) : Int) := by omega
        have hXa0 : ∀ w, (Instr.index 9 (.string Lib.smalls) (.int .u32 (x0 + 1))).run Tryz.prog w = .ok (.int .u8 ((sm (v % 100 * 2 + 1)).toNat : Int)) w := idx_smalls 9 Tryz.underlying9 .u32 _ _ (by omega) (by omega)
        have hXb0 : ∀ w, (Instr.index 9 (.string Lib.smalls) (.int .u32 x0)).run Tryz.prog w = .ok (.int .u8 ((sm (v % 100 * 2)).toNat : Int)) w := idx_smalls 9 Tryz.underlying9 .u32 _ _ (by omega) (by omega)
        have hlo0 : 0 ≤ x0 := by omega
        have hhi0 : x0 ≤ 198 := by omega
        clear hx0 hxe0
        go_region
        go_wp2
        go_name_world W1 hW1
        have hw1 : W1 = (putRow (fun (b : UInt8) => Value.int .u8 (b.toNat : Int)) w blk off ((dk0.setIfInBounds (4 + 1) (sm (v % 100 * 2 + 1))).setIfInBounds (4) (sm (v % 100 * 2)))).drewN (n + 0 + 1) := by rw [← hW1]; exact (by rw [AW0.out]; exact store2_world w blk off dk0 (n + 0) (4 + 1) (4) _ _ (by omega) (by omega))
        generalize ((dk0.setIfInBounds (4 + 1) (sm (v % 100 * 2 + 1))).setIfInBounds (4) (sm (v % 100 * 2))) = dk1 at hw1 HI1
        clear hW1 hc0 hf0 AW0 HI0 hXa0 hXb0 hs0
        have hs1 := HI1.out.size
        have hH1 : Holds (fun (b : UInt8) => Value.int .u8 (b.toNat : Int)) W1 blk off dk1 := by rw [hw1]; exact holds_putRow _ w blk off d dk1 AH.out hs1
        obtain ⟨G1, hG1⟩ : ∃ G : Nat → Int, ∀ t, G t = (dk1[t]!.toNat : Int) := ⟨_, fun _ => rfl⟩
        have hc1 : ∀ t, t < d.size → W1.cell? ⟨blk, off + t, none⟩ = some (.int .u8 (G1 t)) := fun t ht => by rw [hG1]; exact (hH1 t (by omega)).1
        have hf1 : ∀ t, t < d.size → W1.frozen? ⟨blk, off + t, none⟩ = false := fun t ht => (hH1 t (by omega)).2
        have AW1 := Lib.hid hw1
        clear hw1 hG1 hH1
        have HI2 := Lib.hid (FG.step2 (show FG d.size u (2 + 2) (v / 100) dk1 from HI1.out))
        have hle1 := HI1.out.le
        go_name_slot 14 x1 hx1
        have hxe1 : x1 = ((v / 100 % 100 * 2 : Nat) : Int) := by omega
        have hXa1 : ∀ w, (Instr.index 9 (.string Lib.smalls) (.int .u32 (x1 + 1))).run Tryz.prog w = .ok (.int .u8 ((sm (v / 100 % 100 * 2 + 1)).toNat : Int)) w := idx_smalls 9 Tryz.underlying9 .u32 _ _ (by omega) (by omega)
        have hXb1 : ∀ w, (Instr.index 9 (.string Lib.smalls) (.int .u32 x1)).run Tryz.prog w = .ok (.int .u8 ((sm (v / 100 % 100 * 2)).toNat : Int)) w := idx_smalls 9 Tryz.underlying9 .u32 _ _ (by omega) (by omega)
        have hlo1 : 0 ≤ x1 := by omega
        have hhi1 : x1 ≤ 198 := by omega
        clear hx1 hxe1
        go_region
        go_wp2
        go_name_world W2 hW2
        have hw2 : W2 = (putRow (fun (b : UInt8) => Value.int .u8 (b.toNat : Int)) w blk off ((dk1.setIfInBounds (2 + 1) (sm (v / 100 % 100 * 2 + 1))).setIfInBounds (2) (sm (v / 100 % 100 * 2)))).drewN (n + 1 + 1) := by rw [← hW2]; exact (by rw [AW1.out]; exact store2_world w blk off dk1 (n + 1) (2 + 1) (2) _ _ (by omega) (by omega))
        generalize ((dk1.setIfInBounds (2 + 1) (sm (v / 100 % 100 * 2 + 1))).setIfInBounds (2) (sm (v / 100 % 100 * 2))) = dk2 at hw2 HI2
        clear hW2 hc1 hf1 AW1 HI1 hXa1 hXb1 hs1
        have hs2 := HI2.out.size
        have hH2 : Holds (fun (b : UInt8) => Value.int .u8 (b.toNat : Int)) W2 blk off dk2 := by rw [hw2]; exact holds_putRow _ w blk off d dk2 AH.out hs2
        obtain ⟨G2, hG2⟩ : ∃ G : Nat → Int, ∀ t, G t = (dk2[t]!.toNat : Int) := ⟨_, fun _ => rfl⟩
        have hc2 : ∀ t, t < d.size → W2.cell? ⟨blk, off + t, none⟩ = some (.int .u8 (G2 t)) := fun t ht => by rw [hG2]; exact (hH2 t (by omega)).1
        have hf2 : ∀ t, t < d.size → W2.frozen? ⟨blk, off + t, none⟩ = false := fun t ht => (hH2 t (by omega)).2
        have AW2 := Lib.hid hw2
        clear hw2 hG2 hH2
        have HI3 := Lib.hid (FG.step2 (show FG d.size u (0 + 2) (v / 100 / 100) dk2 from HI2.out))
        have hle2 := HI2.out.le
        go_name_slot 16 x2 hx2
        have hxe2 : x2 = ((v / 100 / 100 % 100 * 2 : Nat) : Int) := by omega
        have hXa2 : ∀ w, (Instr.index 9 (.string Lib.smalls) (.int .u32 (x2 + 1))).run Tryz.prog w = .ok (.int .u8 ((sm (v / 100 / 100 % 100 * 2 + 1)).toNat : Int)) w := idx_smalls 9 Tryz.underlying9 .u32 _ _ (by omega) (by omega)
        have hXb2 : ∀ w, (Instr.index 9 (.string Lib.smalls) (.int .u32 x2)).run Tryz.prog w = .ok (.int .u8 ((sm (v / 100 / 100 % 100 * 2)).toNat : Int)) w := idx_smalls 9 Tryz.underlying9 .u32 _ _ (by omega) (by omega)
        have hlo2 : 0 ≤ x2 := by omega
        have hhi2 : x2 ≤ 198 := by omega
        clear hx2 hxe2
        go_region
        go_wp2
        go_end0
        exact ⟨rfl, n + 2 + 1, _, by rw [AW2.out]; exact store2_world w blk off dk2 (n + 2) (0 + 1) (0) _ _ (by omega) (by omega), HI3.out.size, fun t ht => HI3.out.row t (by omega) ht⟩
      · have hv8 := HI0.out.lt8 (by omega)
        have hleT := HI0.out.le
        go_wp2
        have HI1 := Lib.hid (FG.step2 (show FG d.size u (5 + 2) (v) dk0 from HI0.out))
        have hle0 := HI0.out.le
        go_name_slot 15 x0 hx0
        have hxe0 : x0 = ((v % 100 * 2 : Nat) : Int) := by omega
        have hXa0 : ∀ w, (Instr.index 9 (.string Lib.smalls) (.int .u32 (x0 + 1))).run Tryz.prog w = .ok (.int .u8 ((sm (v % 100 * 2 + 1)).toNat : Int)) w := idx_smalls 9 Tryz.underlying9 .u32 _ _ (by omega) (by omega)
        have hXb0 : ∀ w, (Instr.index 9 (.string Lib.smalls) (.int .u32 x0)).run Tryz.prog w = .ok (.int .u8 ((sm (v % 100 * 2)).toNat : Int)) w := idx_smalls 9 Tryz.underlying9 .u32 _ _ (by omega) (by omega)
        have hlo0 : 0 ≤ x0 := by omega
        have hhi0 : x0 ≤ 198 := by omega
        clear hx0 hxe0
        go_region
        go_wp2
        go_name_world W1 hW1
        have hw1 : W1 = (putRow (fun (b : UInt8) => Value.int .u8 (b.toNat : Int)) w blk off ((dk0.setIfInBounds (5 + 1) (sm (v % 100 * 2 + 1))).setIfInBounds (5) (sm (v % 100 * 2)))).drewN (n + 0 + 1) := by rw [← hW1]; exact (by rw [AW0.out]; exact store2_world w blk off dk0 (n + 0) (5 + 1) (5) _ _ (by omega) (by omega))
        generalize ((dk0.setIfInBounds (5 + 1) (sm (v % 100 * 2 + 1))).setIfInBounds (5) (sm (v % 100 * 2))) = dk1 at hw1 HI1
        clear hW1 hc0 hf0 AW0 HI0 hXa0 hXb0 hs0
        have hs1 := HI1.out.size
        have hH1 : Holds (fun (b : UInt8) => Value.int .u8 (b.toNat : Int)) W1 blk off dk1 := by rw [hw1]; exact holds_putRow _ w blk off d dk1 AH.out hs1
        obtain ⟨G1, hG1⟩ : ∃ G : Nat → Int, ∀ t, G t = (dk1[t]!.toNat : Int) := ⟨_, fun _ => rfl⟩
        have hc1 : ∀ t, t < d.size → W1.cell? ⟨blk, off + t, none⟩ = some (.int .u8 (G1 t)) := fun t ht => by rw [hG1]; exact (hH1 t (by omega)).1
        have hf1 : ∀ t, t < d.size → W1.frozen? ⟨blk, off + t, none⟩ = false := fun t ht => (hH1 t (by omega)).2
        have AW1 := Lib.hid hw1
        clear hw1 hG1 hH1
        have HI2 := Lib.hid (FG.step2 (show FG d.size u (3 + 2) (v / 100) dk1 from HI1.out))
        have hle1 := HI1.out.le
        go_name_slot 14 x1 hx1
        have hxe1 : x1 = ((v / 100 % 100 * 2 : Nat) : Int) := by omega
        have hXa1 : ∀ w, (Instr.index 9 (.string Lib.smalls) (.int .u32 (x1 + 1))).run Tryz.prog w = .ok (.int .u8 ((sm (v / 100 % 100 * 2 + 1)).toNat : Int)) w := idx_smalls 9 Tryz.underlying9 .u32 _ _ (by omega) (by omega)
        have hXb1 : ∀ w, (Instr.index 9 (.string Lib.smalls) (.int .u32 x1)).run Tryz.prog w = .ok (.int .u8 ((sm (v / 100 % 100 * 2)).toNat : Int)) w := idx_smalls 9 Tryz.underlying9 .u32 _ _ (by omega) (by omega)
        have hlo1 : 0 ≤ x1 := by omega
        have hhi1 : x1 ≤ 198 := by omega
        clear hx1 hxe1
        go_region
        go_wp2
        go_name_world W2 hW2
        have hw2 : W2 = (putRow (fun (b : UInt8) => Value.int .u8 (b.toNat : Int)) w blk off ((dk1.setIfInBounds (3 + 1) (sm (v / 100 % 100 * 2 + 1))).setIfInBounds (3) (sm (v / 100 % 100 * 2)))).drewN (n + 1 + 1) := by rw [← hW2]; exact (by rw [AW1.out]; exact store2_world w blk off dk1 (n + 1) (3 + 1) (3) _ _ (by omega) (by omega))
        generalize ((dk1.setIfInBounds (3 + 1) (sm (v / 100 % 100 * 2 + 1))).setIfInBounds (3) (sm (v / 100 % 100 * 2))) = dk2 at hw2 HI2
        clear hW2 hc1 hf1 AW1 HI1 hXa1 hXb1 hs1
        have hs2 := HI2.out.size
        have hH2 : Holds (fun (b : UInt8) => Value.int .u8 (b.toNat : Int)) W2 blk off dk2 := by rw [hw2]; exact holds_putRow _ w blk off d dk2 AH.out hs2
        obtain ⟨G2, hG2⟩ : ∃ G : Nat → Int, ∀ t, G t = (dk2[t]!.toNat : Int) := ⟨_, fun _ => rfl⟩
        have hc2 : ∀ t, t < d.size → W2.cell? ⟨blk, off + t, none⟩ = some (.int .u8 (G2 t)) := fun t ht => by rw [hG2]; exact (hH2 t (by omega)).1
        have hf2 : ∀ t, t < d.size → W2.frozen? ⟨blk, off + t, none⟩ = false := fun t ht => (hH2 t (by omega)).2
        have AW2 := Lib.hid hw2
        clear hw2 hG2 hH2
        have HI3 := Lib.hid (FG.step2 (show FG d.size u (1 + 2) (v / 100 / 100) dk2 from HI2.out))
        have hle2 := HI2.out.le
        go_name_slot 16 x2 hx2
        have hxe2 : x2 = ((v / 100 / 100 % 100 * 2 : Nat) : Int) := by omega
        have hXa2 : ∀ w, (Instr.index 9 (.string Lib.smalls) (.int .u32 (x2 + 1))).run Tryz.prog w = .ok (.int .u8 ((sm (v / 100 / 100 % 100 * 2 + 1)).toNat : Int)) w := idx_smalls 9 Tryz.underlying9 .u32 _ _ (by omega) (by omega)
        have hXb2 : ∀ w, (Instr.index 9 (.string Lib.smalls) (.int .u32 x2)).run Tryz.prog w = .ok (.int .u8 ((sm (v / 100 / 100 % 100 * 2)).toNat : Int)) w := idx_smalls 9 Tryz.underlying9 .u32 _ _ (by omega) (by omega)
        have hlo2 : 0 ≤ x2 := by omega
        have hhi2 : x2 ≤ 198 := by omega
        clear hx2 hxe2
        go_region
        go_wp2
        go_end0
        exact ⟨rfl, n + 2 + 1, _, by rw [AW2.out]; exact store21_world w blk off dk2 (n + 2) (1 + 1) (1) _ _ _ (v / 100 / 100 / 100) (by omega) (by omega) (by omega), by simp [HI3.out.size], HI3.out.last⟩

theorem lt_q (u : Nat) (h1 : 1 ≤ u) (h2 : u < 18446744073709551616) : u < 10 ^ (Lib.l10 (Lib.bitLen u) + 1) ∧ Lib.l10 (Lib.bitLen u) ≤ 19 := by
  obtain ⟨hnd, h19⟩ := Lib.numDigits_eq u h1 h2
  have hn := Lib.lt_pow_nDigits u
  have hle : Lib.nDigits u ≤ Lib.l10 (Lib.bitLen u) + 1 := by split at hnd <;> omega
  generalize Lib.nDigits u = nd at hn hle
  generalize Lib.l10 (Lib.bitLen u) = q at h19 hle
  exact ⟨Nat.lt_of_lt_of_le hn (Nat.pow_le_pow_right (by omega) hle), h19⟩
set_option maxHeartbeats 2000000 in
theorem digits (u : Nat) (h1 : 1 ≤ u) (h2 : u < 18446744073709551616) (w : World) (T : Int) (hT : 0 ≤ T ∧ T ≤ 18446744073709551615) (hcell0 : w.cell? ⟨2, Lib.l10 (Lib.bitLen u), none⟩ = some (.int .u64 T)) :
    Calls Tryz.prog 164 #[.int .u64 u] w fun e w' => e = .returned (.int .i64 ((Lib.l10 (Lib.bitLen u) + (if T ≤ (u : Int) then 1 else 0) : Nat) : Int)) ∧ w' = w := by
  have h19 := (lt_q u h1 h2).2
  have hL : Lib.bitLen u ≤ 64 := Lib.bitLen_le u 64 (Nat.le_refl _) h2
  have hcell := hcell0
  clear hcell0
  have hto : ((u : Int)).toNat = u := by omega
  have hT0 := hT.1
  have hT1 := hT.2
  generalize hq : Lib.l10 (Lib.bitLen u) = q at h19 hcell
  go_enter Tryz.func164, Tryz.ntmps164
  go_wp2_with (first
    | (go_at_call 172; refine (Go.Proofs.Any.bits_Len64 { Go.Proofs.Tryz.laysM173 with } _ _ (by omega) (by omega)).mono ?_; rintro e w' ⟨rfl, rfl⟩)
    | (go_at_call 171; refine (Go.Proofs.Any.internal_strconv_log10Pow2 { Go.Proofs.Tryz.laysM173 with } _ (by first | exact hL | (rw [hto]; exact hL)) _).mono ?_; rintro e w' ⟨rfl, rfl⟩)
    | (go_at_call 173; refine (Go.Proofs.Any.internal_strconv_bool2_int { Go.Proofs.Tryz.laysM173 with } _ _).mono ?_; rintro e w' ⟨rfl, rfl⟩))
  all_goals go_ret
  all_goals exact ⟨rfl, rfl⟩


set_option maxHeartbeats 12800000 in
theorem formatInt (n : Int) (h0 : -9223372036854775808 ≤ n) (h1 : n ≤ 9223372036854775807) (w : World) (hblk : 2 < w.heap.size) (T : Int) (hT : 0 ≤ T ∧ T ≤ 18446744073709551615) (nd : Nat)
    (hnd0 : ¬ (0 ≤ n ∧ n < 100) → w.cell? ⟨2, Lib.l10 (Lib.bitLen n.natAbs), none⟩ = some (.int .u64 T) ∧ Lib.l10 (Lib.bitLen n.natAbs) + (if T ≤ (n.natAbs : Int) then 1 else 0) = nd) :
    Calls Tryz.prog 156 #[.int .i64 n, .int .i64 10] w fun e w' => e = .returned (.string ⟨(if 0 ≤ n ∧ n < 100 then Lib.decDigits n.toNat else if n < 0 then 45 :: rowL nd n.natAbs else rowL nd n.natAbs).toArray⟩) ∧ ∃ k os, w' = grow (w.drewN k) os := by
  by_cases hs : 0 ≤ n ∧ n < 100
  · rw [if_pos hs]
    clear hnd0
    obtain ⟨i, rfl⟩ : ∃ i : Nat, n = i := ⟨n.toNat, by omega⟩
    have hi : i < 100 := by omega
    have hsmall := Go.Proofs.Any.internal_strconv_FormatInt_10_small { Go.Proofs.Tryz.laysM173 with } i hi w
    refine hsmall.mono ?_
    rintro e w' ⟨rfl, rfl⟩
    exact ⟨rfl, 0, #[], by simp [World.drewN_zero]⟩
  · rw [if_neg hs]
    obtain ⟨hcell, hnd⟩ := hnd0 hs
    by_cases hneg : n < 0
    · rw [if_pos hneg]
      obtain ⟨u, rfl⟩ : ∃ u : Nat, n = -(u : Int) := ⟨n.natAbs, by omega⟩
      have hu1 : 1 ≤ u := by omega
      have hu64 : u < 18446744073709551616 := by omega
      have eu : (-(u : Int)).natAbs = u := by omega
      rw [eu] at hcell hnd ⊢
      obtain ⟨hq, hq19⟩ := lt_q u hu1 hu64
      have hlt : u < 10 ^ (nd + 1) := Nat.lt_of_lt_of_le hq (Nat.pow_le_pow_right (by omega) (by omega))
      have hnd20 : nd ≤ 20 := by split at hnd <;> omega
      clear hq hq19 eu hs
      have hwr : IntKind.u64.wrap (-IntKind.u64.wrap (-(u : Int))) = (u : Int) := by rw [IntKind.wrap_u64, IntKind.wrap_u64]; omega
      have hb3 : nd ≤ 23 := by omega
      have hal : Tryz.prog.arrayLen 185 = 24 := by simp [Program.arrayLen, Tryz.underlying185]
      have hsl1 : ∀ W, (Instr.sliceAt 185 (.pointer (some ⟨w.heap.size, 0, none⟩)) (some (.int .i64 1)) (some (.int .i64 (1 + (nd : Int)))) none).run Tryz.prog W = .ok (.slice (some ⟨w.heap.size, 1, none⟩) nd 23) W := fun W => by
        rw [run_sliceAt_array_lh W 185 ⟨w.heap.size, 0, none⟩ (by simp [Program.arrayLen, Program.elem, Tryz.underlying185]) .i64 .i64 1 (1 + (nd : Int)) (by omega) (by omega) (by rw [hal]; omega)]
        go_simp
        omega
      have hH0 := Lib.holds_zero w 185 nd (by omega)
      have hfmt := format w.heap.size 1 23 u (Array.replicate nd 0) (w.alloc (.cells Lib.zeros24 185)) hH0 (by rw [Array.size_replicate]; exact hlt) hu64 (by rw [Array.size_replicate]; omega)
      rw [Array.size_replicate] at hfmt
      have HH0 := Lib.hid hH0
      clear hH0 hal
      have hdig := digits u hu1 hu64 (w.alloc (.cells Lib.zeros24 185)) T hT (by rw [World.cell?_alloc_past _ _ _ hblk]; exact hcell)
      rw [hnd] at hdig
      clear hnd hcell hlt hT
      go_enter Tryz.func156, Tryz.ntmps156
      go_wp2_with (go_at_call 164; refine hdig.mono ?_; rintro e w' ⟨rfl, rfl⟩)
      go_at_call 165
      refine hfmt.mono ?_
      rintro e w' ⟨rfl, k, dk, rfl, hF⟩
      have hc0 : (((putRow (fun (b : UInt8) => Value.int .u8 (b.toNat : Int)) (w.alloc (.cells Lib.zeros24 185)) w.heap.size 1 dk).drewN k)).cell? ⟨w.heap.size, 0, none⟩ = some (.int .u8 0) := by
        rw [World.cell?_drewN, cell?_putRow_other _ _ _ _ _ _ (Or.inr (Or.inl (Nat.zero_lt_one))), World.cell?_alloc_new]
        exact Lib.zeros24_at 0 (by omega)
      have hf0 : (((putRow (fun (b : UInt8) => Value.int .u8 (b.toNat : Int)) (w.alloc (.cells Lib.zeros24 185)) w.heap.size 1 dk).drewN k)).frozen? ⟨w.heap.size, 0, none⟩ = false := by
        rw [World.frozen?_drewN, frozen?_putRow]
        exact World.frozen?_alloc_new _ _ _ _
      have hal : Tryz.prog.arrayLen 185 = 24 := by simp [Program.arrayLen, Tryz.underlying185]
      have hsl2 : ∀ W, (Instr.sliceAt 185 (.pointer (some ⟨w.heap.size, 0, none⟩)) none (some (.int .i64 (1 + (nd : Int)))) none).run Tryz.prog W = .ok (.slice (some ⟨w.heap.size, 0, none⟩) (1 + nd) 24) W := fun W => by
        rw [run_sliceAt_array_h W 185 ⟨w.heap.size, 0, none⟩ (by simp [Program.arrayLen, Program.elem, Tryz.underlying185]) .i64 (1 + (nd : Int)) (by omega) (by rw [hal]; omega)]
        go_simp
        omega
      clear hal
      have hlen : (rowL nd u).length = nd := by simp [rowL]
      have hrow : ∀ i (hi : i < (rowL nd u).length), ((((putRow (fun (b : UInt8) => Value.int .u8 (b.toNat : Int)) (w.alloc (.cells Lib.zeros24 185)) w.heap.size 1 dk).drewN k)).cell? ⟨w.heap.size, 1 + i, none⟩) = some (.int .u8 ((rowL nd u)[i].toNat : Int)) := fun i hi => by
        have hi' : i < nd := by rw [hlen] at hi; exact hi
        have e : (rowL nd u)[i] = dk[i]! := by rw [hF.2 i hi']; simp [rowL]
        rw [e, World.cell?_drewN]
        exact cell?_putRow (fun (b : UInt8) => Value.int .u8 (b.toNat : Int)) _ w.heap.size 1 _ dk HH0.out (by rw [hF.1, Array.size_replicate]) i (by rw [hF.1]; exact hi')
      have hcv : (convert 164 9 (.slice (some ⟨w.heap.size, 0, none⟩) (1 + nd) 24)).run Tryz.prog (((putRow (fun (b : UInt8) => Value.int .u8 (b.toNat : Int)) (w.alloc (.cells Lib.zeros24 185)) w.heap.size 1 dk).drewN k).setCell ⟨w.heap.size, 0, none⟩ (.int .u8 45)) = .ok (.string ⟨(45 :: rowL nd u).toArray⟩) (((putRow (fun (b : UInt8) => Value.int .u8 (b.toNat : Int)) (w.alloc (.cells Lib.zeros24 185)) w.heap.size 1 dk).drewN k).setCell ⟨w.heap.size, 0, none⟩ (.int .u8 45)) := by
        have h := run_convert_bytes_back (P := Tryz.prog) (((putRow (fun (b : UInt8) => Value.int .u8 (b.toNat : Int)) (w.alloc (.cells Lib.zeros24 185)) w.heap.size 1 dk).drewN k).setCell ⟨w.heap.size, 0, none⟩ (.int .u8 45)) 164 9 5 ⟨w.heap.size, 0, none⟩ 24 (45 :: rowL nd u) Tryz.underlying164 Tryz.underlying5 Tryz.underlying9 (fun j hj => by
          rw [Lib.add_plain]
          cases j with
          | zero => exact World.cell?_setCell_same _ _ _ hc0
          | succ i =>
            have hi : i < (rowL nd u).length := by simpa using hj
            rw [World.cell?_setCell_other _ _ _ _ (by simp), List.getElem_cons_succ, show 0 + (i + 1) = 1 + i by omega]
            exact hrow i hi)
        rw [List.length_cons, hlen, Nat.add_comm] at h
        exact h
      go_wp2
      go_ret
      obtain ⟨os, eo⟩ := Lib.fin_neg w (.cells Lib.zeros24 185) dk k (.int .u8 45)
      exact ⟨rfl, k, os, eo⟩
    · rw [if_neg hneg]
      obtain ⟨u, rfl⟩ : ∃ u : Nat, n = u := ⟨n.toNat, by omega⟩
      have hu1 : 1 ≤ u := by omega
      have hu64 : u < 18446744073709551616 := by omega
      have eu : ((u : Int)).natAbs = u := by omega
      rw [eu] at hcell hnd ⊢
      obtain ⟨hq, hq19⟩ := lt_q u hu1 hu64
      have hlt : u < 10 ^ (nd + 1) := Nat.lt_of_lt_of_le hq (Nat.pow_le_pow_right (by omega) (by omega))
      have hnd20 : nd ≤ 20 := by split at hnd <;> omega
      clear hq hq19 eu
      have hb3 : nd ≤ 23 := by omega
      have hal : Tryz.prog.arrayLen 185 = 24 := by simp [Program.arrayLen, Tryz.underlying185]
      have hsl1 : ∀ W, (Instr.sliceAt 185 (.pointer (some ⟨w.heap.size, 0, none⟩)) (some (.int .i64 1)) (some (.int .i64 (1 + (nd : Int)))) none).run Tryz.prog W = .ok (.slice (some ⟨w.heap.size, 1, none⟩) nd 23) W := fun W => by
        rw [run_sliceAt_array_lh W 185 ⟨w.heap.size, 0, none⟩ (by simp [Program.arrayLen, Program.elem, Tryz.underlying185]) .i64 .i64 1 (1 + (nd : Int)) (by omega) (by omega) (by rw [hal]; omega)]
        go_simp
        omega
      have hH0 := Lib.holds_zero w 185 nd (by omega)
      have hfmt := format w.heap.size 1 23 u (Array.replicate nd 0) (w.alloc (.cells Lib.zeros24 185)) hH0 (by rw [Array.size_replicate]; exact hlt) hu64 (by rw [Array.size_replicate]; omega)
      rw [Array.size_replicate] at hfmt
      have HH0 := Lib.hid hH0
      clear hH0 hal
      have hdig := digits u hu1 hu64 (w.alloc (.cells Lib.zeros24 185)) T hT (by rw [World.cell?_alloc_past _ _ _ hblk]; exact hcell)
      rw [hnd] at hdig
      clear hnd hcell hlt hT
      go_enter Tryz.func156, Tryz.ntmps156
      go_wp2_with (go_at_call 164; refine hdig.mono ?_; rintro e w' ⟨rfl, rfl⟩)
      go_at_call 165
      refine hfmt.mono ?_
      rintro e w' ⟨rfl, k, dk, rfl, hF⟩
      have hlen : (rowL nd u).length = nd := by simp [rowL]
      have hrow : ∀ i (hi : i < (rowL nd u).length), ((((putRow (fun (b : UInt8) => Value.int .u8 (b.toNat : Int)) (w.alloc (.cells Lib.zeros24 185)) w.heap.size 1 dk).drewN k)).cell? ⟨w.heap.size, 1 + i, none⟩) = some (.int .u8 ((rowL nd u)[i].toNat : Int)) := fun i hi => by
        have hi' : i < nd := by rw [hlen] at hi; exact hi
        have e : (rowL nd u)[i] = dk[i]! := by rw [hF.2 i hi']; simp [rowL]
        rw [e, World.cell?_drewN]
        exact cell?_putRow (fun (b : UInt8) => Value.int .u8 (b.toNat : Int)) _ w.heap.size 1 _ dk HH0.out (by rw [hF.1, Array.size_replicate]) i (by rw [hF.1]; exact hi')
      have hcv : (convert 164 9 (.slice (some ⟨w.heap.size, 1, none⟩) nd 23)).run Tryz.prog ((putRow (fun (b : UInt8) => Value.int .u8 (b.toNat : Int)) (w.alloc (.cells Lib.zeros24 185)) w.heap.size 1 dk).drewN k) = .ok (.string ⟨(rowL nd u).toArray⟩) ((putRow (fun (b : UInt8) => Value.int .u8 (b.toNat : Int)) (w.alloc (.cells Lib.zeros24 185)) w.heap.size 1 dk).drewN k) := by
        have h := run_convert_bytes_back (P := Tryz.prog) ((putRow (fun (b : UInt8) => Value.int .u8 (b.toNat : Int)) (w.alloc (.cells Lib.zeros24 185)) w.heap.size 1 dk).drewN k) 164 9 5 ⟨w.heap.size, 1, none⟩ 23 (rowL nd u) Tryz.underlying164 Tryz.underlying5 Tryz.underlying9 (fun j hj => by
          rw [Lib.add_plain]
          exact hrow j hj)
        rw [hlen] at h
        exact h
      go_wp2
      go_ret
      obtain ⟨os, eo⟩ := Lib.fin_pos w (.cells Lib.zeros24 185) dk k
      exact ⟨rfl, k, os, eo⟩

theorem fmt : Vx.OfFmt Tryz.prog 156 2 := fun n w T nd h0 h1 hG hT hnd =>
  (formatInt n h0 h1 w hG T hT nd hnd).mono fun e w' ⟨he, k, os, hw⟩ => ⟨he, by rw [hw]; exact below_grow _ _ (Nat.le_refl _) k os⟩

end Go.Proofs.YtaecedlhiclkdaaGreatDoor.Fmt
