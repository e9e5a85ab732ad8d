/- Floats that are lengths; where a text stands in another: plain laws. No condition. -/
import Derived.Test.YtnkmiphcgjpgkaaGreatDoorVxZl
import Derived.Lib.IndexMore
import Derived.Lib.IndexBytes
set_option linter.unusedVariables false
set_option linter.unusedSimpArgs false
set_option linter.constructorNameAsVariable false
namespace Go.Proofs.YtnkmiphcgjpgkaaGreatDoor.Vx
open Go
set_option maxRecDepth 100000

theorem near_gtr {z : Int} (h1 : 1 ≤ z) (h2 : z ≤ 9007199254740991) : FloatKind.f64.format.order (FloatKind.f64.nearest z) 0 = some .gt := by
  have hd : FloatKind.f64.format.read (FloatKind.f64.nearest z) = _ := near_decode (by omega) h2 (by omega)
  have e0 : FloatKind.f64.format.read 0 = .number false 0 (-1074) := by kernel_rfl
  have hz : decide (z < 0) = false := decide_eq_false (by omega)
  rw [hz] at hd
  unfold Ieee.Format.order
  rw [hd, e0]
  have hp : 0 < z.natAbs * 2 ^ (52 - z.natAbs.log2) := Nat.mul_pos (by omega) (Nat.two_pow_pos _)
  generalize z.natAbs * 2 ^ (52 - z.natAbs.log2) = m at *
  generalize ((z.natAbs.log2 : Int) - 52) = i at *
  show some (compare (Ieee.signed false m (i - min i (-1074)).toNat) (Ieee.signed false 0 (-1074 - min i (-1074)).toNat)) = some .gt
  have h3 : Ieee.signed false 0 (-1074 - min i (-1074)).toNat = 0 := by unfold Ieee.signed; simp
  have h4 : (0 : Int) < Ieee.signed false m (i - min i (-1074)).toNat := by
    unfold Ieee.signed
    rw [if_neg (by simp), Nat.shiftLeft_eq]
    exact Int.natCast_pos.2 (Nat.mul_pos hp (Nat.two_pow_pos _))
  rw [h3]
  generalize Ieee.signed false m (i - min i (-1074)).toNat = q at *
  congr 1
  show compareOfLessAndEq _ _ = _
  unfold compareOfLessAndEq
  rw [if_neg (by omega), if_neg (by omega)]
theorem near_not_less {z : Int} (h1 : 1 ≤ z) (h2 : z ≤ 9007199254740991) : (FloatKind.f64.format.order (FloatKind.f64.nearest z) 0 == some .lt) = false := by rw [near_gtr h1 h2]; rfl
/-- the whole part of a whole number is it -/
theorem apf_trunc {z : Int} (h1 : 1 ≤ z) (h2 : z ≤ 9007199254740991) : apf 2 (.float .f64 (FloatKind.f64.nearest z)) = some (.float .f64 (FloatKind.f64.nearest z)) := by
  have hd := near_decode (z := z) (by omega) h2 (by omega)
  have ht := near_trunc (s := decide (z < 0)) (m := z.natAbs) (by omega) (by omega)
  show (match FloatKind.f64.decode (FloatKind.f64.nearest z) with
    | .nan _ _ => none
    | d => some (Value.float .f64 (FloatKind.f64.encode (d.integral .zero)))) = _
  rw [hd]
  show some (Value.float .f64 (FloatKind.f64.encode (Ieee.Datum.integral .zero _))) = _
  rw [ht]
  rfl
theorem apf_int {z : Int} (h1 : 0 ≤ z) (h2 : z ≤ 9007199254740991) : apf 11 (.float .f64 (FloatKind.f64.nearest z)) = some (.int .i64 z) := by
  show (match FloatKind.f64.decode (FloatKind.f64.nearest z) with
    | .number s m i => some (Value.int .i64 (f2i (FloatKind.f64.nearest z)))
    | _ => none) = _
  rw [f2i_near (by omega) h2]
  by_cases h0 : z = 0
  · subst h0; kernel_rfl
  · rw [near_decode (by omega) h2 h0]
/-- is it found: it stands there -/
theorem found {s t : ByteArray} (h : 0 ≤ Lib.index s.data.toList t.data.toList) :
    Lib.index s.data.toList t.data.toList + t.size ≤ s.size ∧ s.extract (Lib.index s.data.toList t.data.toList).toNat (Lib.index s.data.toList t.data.toList + t.size).toNat = t := by
  have hs : s.data.toList.length = s.size := Array.length_toList
  have ht : t.data.toList.length = t.size := Array.length_toList
  have hr := Lib.index_room s.data.toList t.data.toList h
  rcases Lib.index_spec s.data.toList t.data.toList with ⟨h1, _⟩ | ⟨i, h1, h2, h3, _⟩
  · omega
  · rw [h1] at hr ⊢
    refine ⟨by omega, ?_⟩
    have ho := Lib.occ_of_piece s t i (by omega)
    rw [h3] at ho
    have ho := (eq_of_beq ho.symm)
    have e1 : ((i : Int)).toNat = i := by omega
    have e2 : ((i : Int) + t.size).toNat = i + t.size := by omega
    rw [e1, e2]
    apply ByteArray.ext
    apply Array.ext'
    rw [← ByteArray.toList_eq, ← ByteArray.toList_eq]; exact ho
/-- is it not found: it stands nowhere -/
theorem not_found {s t : ByteArray} (h : Lib.index s.data.toList t.data.toList = -1) (j : Nat) (hj : j + t.size ≤ s.size) : s.extract j (j + t.size) ≠ t := by
  have hs : s.data.toList.length = s.size := Array.length_toList
  rcases Lib.index_spec s.data.toList t.data.toList with ⟨_, h2⟩ | ⟨i, h1, _⟩
  · intro e
    have ho := Lib.occ_of_piece s t j hj
    rw [e] at ho
    rw [h2 j (by omega)] at ho
    simp at ho
  · omega
end Go.Proofs.YtnkmiphcgjpgkaaGreatDoor.Vx
