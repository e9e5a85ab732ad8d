/- num.Read: a text's worth is that of a plain function of its bytes. No condition. -/
import Derived.Test.YtaecedlhiclkdaaGreatDoorVxZh
import Derived.Test.YtaecedlhiclkdaaGreatDoorVxY
import Derived.Test.YtaecedlhiclkdaaGreatDoorLpShelf
import Derived.WalkKit
import Derived.Lib.Hide
import Derived.Lib.SlTrimSet
import Derived.Shelf.Strings.SlTrimAscii
namespace Go.Proofs.YtaecedlhiclkdaaGreatDoor.Read
open Go Go.RowKit Vx
set_option linter.unusedVariables false
set_option linter.unusedSimpArgs false
set_option linter.constructorNameAsVariable false
set_option maxRecDepth 100000

def RelL (l : List UInt8) (k : Nat) (z : Int) (g : Bool) : Prop := (l.take k).all digitB = true ∧ z = min (worthL (l.take k) : Int) 9007199254740991 ∧ g = decide (9007199254740991 < worthL (l.take k))
def RelN (t : ByteArray) (a g i : Value) : Prop := ∃ (k : Nat) (z : Int) (gb : Bool), k ≤ t.size ∧ i = .int .i64 k ∧ a = .int .i64 z ∧ g = .bool gb ∧ 0 ≤ z ∧ z ≤ 9007199254740991 ∧ RelL t.toList k z gb
def Out (x : Nat × Int) (w : World) (e : Ending) (w' : World) : Prop := e = .returned (.tuple #[.float .f64 x.1, .int .i64 x.2]) ∧ Below w.heap.size w w'
def readT (l : List UInt8) : Nat × Int := match l with
  | [] => (0, 0)
  | b :: t => readD (b == 45) (if b == 45 || b == 43 then t else b :: t)

theorem worth_snoc (l : List UInt8) (b : UInt8) : worthL (l ++ [b]) = worthL l * 10 + (b.toNat - 48) := by unfold worthL; rw [List.foldl_append]; rfl
theorem digit_iff (b : UInt8) : digitB b = true ↔ 48 ≤ b.toNat ∧ b.toNat ≤ 57 := by
  unfold digitB
  simp only [Bool.and_eq_true, decide_eq_true_eq, UInt8.le_iff_toNat_le]; rfl
theorem take_snoc {l : List UInt8} {k : Nat} {b : UInt8} (h : l[k]? = some b) : l.take (k + 1) = l.take k ++ [b] := by
  rw [List.take_add_one, h]; rfl
theorem rel_great {l : List UInt8} {k : Nat} {z : Int} {g : Bool} {b : UInt8} (h : RelL l k z g) (hb : l[k]? = some b) (h1 : 48 ≤ b.toNat) (h2 : b.toNat ≤ 57) (hg : 9007199254740991 < z * 10 + ((b.toNat : Int) - 48)) : RelL l (k + 1) 9007199254740991 true := by
  obtain ⟨a1, rfl, a3⟩ := h
  unfold RelL
  rw [take_snoc hb, worth_snoc, List.all_append, a1]
  have hd := (digit_iff b).2 ⟨h1, h2⟩
  have e : 9007199254740991 < worthL (l.take k) * 10 + (b.toNat - 48) := by omega
  refine ⟨by simp [hd], by omega, by simp [e]⟩
theorem rel_small {l : List UInt8} {k : Nat} {z : Int} {g : Bool} {b : UInt8} (h : RelL l k z g) (hb : l[k]? = some b) (h1 : 48 ≤ b.toNat) (h2 : b.toNat ≤ 57) (hg : z * 10 + ((b.toNat : Int) - 48) ≤ 9007199254740991) : RelL l (k + 1) (z * 10 + ((b.toNat : Int) - 48)) g := by
  obtain ⟨a1, rfl, a3⟩ := h
  unfold RelL
  rw [take_snoc hb, worth_snoc, List.all_append, a1]
  have hd := (digit_iff b).2 ⟨h1, h2⟩
  have e1 : worthL (l.take k) ≤ 9007199254740991 := by omega
  have e2 : ¬ 9007199254740991 < worthL (l.take k) * 10 + (b.toNat - 48) := by omega
  have e3 : g = false := by rw [a3]; simp; omega
  refine ⟨by simp [hd], by omega, by rw [e3]; simp; omega⟩
theorem rel_zero (l : List UInt8) : RelL l 0 0 false := ⟨rfl, rfl, rfl⟩

theorem readD_bad {m : Bool} {d : List UInt8} {k : Nat} {b : UInt8} (h : d[k]? = some b) (hb : digitB b = false) : readD m d = (0x7ff8000000000001, 0) := by
  unfold readD
  have : d.all digitB = false := by
    rw [List.all_eq_false]
    exact ⟨b, List.mem_of_getElem? h, by simp [hb]⟩
  simp [this]
theorem readD_nil (m : Bool) : readD m [] = (0x7ff8000000000001, 0) := rfl
theorem readD_great {m : Bool} {d : List UInt8} (hn : d ≠ []) (ha : d.all digitB = true) (hg : 9007199254740991 < worthL d) : readD m d = (0, 10) := by
  unfold readD
  have e : d.isEmpty = false := by cases d with | nil => exact absurd rfl hn | cons _ _ => rfl
  simp [e, ha, hg]
theorem readD_zero {d : List UInt8} (hn : d ≠ []) (ha : d.all digitB = true) (hg : worthL d = 0) : readD true d = (0, 10) := by
  unfold readD
  have e : d.isEmpty = false := by cases d with | nil => exact absurd rfl hn | cons _ _ => rfl
  simp [e, ha, hg]
theorem readD_ok {m : Bool} {d : List UInt8} (hn : d ≠ []) (ha : d.all digitB = true) (hg : worthL d ≤ 9007199254740991) (hm : m = false ∨ worthL d ≠ 0) : readD m d = (FloatKind.f64.nearest (if m then -(worthL d : Int) else worthL d), 0) := by
  unfold readD
  have e : d.isEmpty = false := by cases d with | nil => exact absurd rfl hn | cons _ _ => rfl
  have e2 : (decide (worthL d > 9007199254740991) || (m && worthL d == 0)) = false := by
    rcases hm with rfl | hm
    · simp; omega
    · simp [hm]; omega
  simp only [e, ha, e2, Bool.false_or, Bool.not_true, Bool.false_eq_true, if_false]
theorem get_byte {t : ByteArray} {k : Nat} (h : k < t.size) : t.toList[k]? = some t[k] := by
  rw [ByteArray.toList_eq, Array.getElem?_toList]
  exact Array.getElem?_eq_getElem (h := h)
theorem size_list (t : ByteArray) : t.toList.length = t.size := by rw [ByteArray.toList_eq, Array.length_toList]; rfl
theorem ext_list (t : ByteArray) : (t.extract 1 t.size).toList = t.toList.drop 1 := by
  rw [ByteArray.toList_eq, ByteArray.toList_eq]
  have : (t.extract 1 t.size).data = t.data.extract 1 t.size := ByteArray.data_extract
  rw [this, Array.toList_extract]
  have e : t.data.toList.length = t.size := Array.length_toList
  simp [List.extract_eq_take_drop, e]
  exact List.take_of_length_le (by rw [List.length_tail, e]; exact Nat.le_refl _)
theorem head_drop {t : ByteArray} (h : 0 < t.size) : t.toList = t[0] :: t.toList.drop 1 := by
  have := get_byte h
  cases hl : t.toList with
  | nil => rw [hl] at this; cases this
  | cons b l =>
    rw [hl] at this
    simp at this
    rw [this]; rfl
theorem of_int {b : UInt8} {n : Nat} (h : (b.toNat : Int) = n) (hn : n < 256) : b = UInt8.ofNat n := by
  apply UInt8.toNat_inj.1
  rw [UInt8.toNat_ofNat', Nat.mod_eq_of_lt (by omega)]; omega
theorem readT_minus {t : ByteArray} (h : 0 < t.size) (h1 : (t[0].toNat : Int) = 45) : readT t.toList = readD true (t.extract 1 t.size).toList := by
  have e := of_int (n := 45) h1 (by omega)
  rw [ext_list, head_drop h, e]; rfl
theorem readT_plus {t : ByteArray} (h : 0 < t.size) (h0 : ¬ (t[0].toNat : Int) = 45) (h1 : ((t[0].toNat : Int) == 45) = true ∨ ((t[0].toNat : Int) == 43) = true) : readT t.toList = readD false (t.extract 1 t.size).toList := by
  have h2 : (t[0].toNat : Int) = 43 := by
    rcases h1 with h1 | h1
    · exact absurd (by simpa using h1) h0
    · simpa using h1
  have e := of_int (n := 43) h2 (by omega)
  rw [ext_list, head_drop h, e]; rfl
theorem readT_none {t : ByteArray} (h : 0 < t.size) (h1 : ((t[0].toNat : Int) == 45) = false ∧ ((t[0].toNat : Int) == 43) = false) : readT t.toList = readD false t.toList := by
  have e := head_drop h
  have a : (t[0] == 45) = false := by
    rw [beq_eq_false_iff_ne]; intro hh; have := h1.1; rw [hh] at this; cases this
  have b : (t[0] == 43) = false := by
    rw [beq_eq_false_iff_ne]; intro hh; have := h1.2; rw [hh] at this; cases this
  rw [e]
  show readD (t[0] == 45) (if t[0] == 45 || t[0] == 43 then t.toList.drop 1 else t[0] :: t.toList.drop 1) = _
  rw [a, b]; rfl
theorem list_of_empty {t : ByteArray} (h : t.toList.isEmpty = true) : t.toList = [] := by simpa using h
theorem ne_of_empty {t : ByteArray} (h : t.toList.isEmpty = false) : t.toList ≠ [] := by intro e; rw [e] at h; cases h
theorem end_all {t : ByteArray} {k : Nat} (hk : k ≤ t.size) (h : ¬ k < t.size) : t.toList.take k = t.toList := List.take_of_length_le (by rw [size_list]; omega)
theorem bad_digit {b : UInt8} (h : (b.toNat : Int) < 48 ∨ 57 < (b.toNat : Int)) : digitB b = false := by
  rw [Bool.eq_false_iff]; intro hd
  have := (digit_iff b).1 hd
  omega

theorem out {X : Nat × Int} {w w' : World} {x : Nat} {n : Int} (h : X = (x, n)) (hb : Below w.heap.size w w') : Out X w (.returned (.tuple #[.float .f64 x, .int .i64 n])) w' := by subst h; exact ⟨rfl, hb⟩

set_option maxHeartbeats 6400000 in
theorem read_walk (s t : ByteArray) (hs : s.size ≤ 9223372036854775807) (ht : t.size ≤ 9223372036854775807) (w : World)
    (hT : Calls Tryz.prog 203 #[.string s, .string ⟨#[9, 10, 13, 32]⟩] w fun e w' => e = .returned (.string t) ∧ Below w.heap.size w w')
    (hN : ∀ w1, Below w.heap.size w w1 → Calls Tryz.prog 201 #[] w1 fun e w' => e = .returned (.float .f64 0x7ff8000000000001) ∧ Below w1.heap.size w1 w') (X : Nat × Int) (hX : X = readT t.toList) :
    Calls Tryz.prog 202 #[.string s] w (Out X w) := by
  have hcv : ∀ (z : Int) (w : World), (convert 2 22 (.int .i64 z)).run Tryz.prog w = .ok (.float .f64 (FloatKind.f64.nearest z)) w := fun z w => by
    simp [convert, run_underlying' Tryz.underlying2, run_underlying' Tryz.underlying22, Conv.intToFloat]
  have HX := Lib.hid hX
  clear hX
  go_enter Tryz.func202, Tryz.ntmps202
  go_wp2_with (first | (go_at_call 203; refine hT.mono ?_; rintro e w' ⟨rfl, hw⟩) | (go_at_call 201; refine (hN _ hw).mono ?_; rintro e w' ⟨rfl, hnb⟩))
  · go_ret2
    exact out (by rw [HX.out, list_of_empty (by assumption)]; rfl) hw
  · have hm : (t[0].toNat : Int) = 45 := by assumption
    go_ret2
    exact out (by rw [HX.out, readT_minus (by assumption) hm, list_of_empty (by assumption)]; rfl) (hw.trans (hnb.mono hw.size))
  · have hne : (t.extract 1 t.size).toList.isEmpty = false := by assumption
    generalize hr : t.extract 1 t.size = r at *
    have hX : X = readD true r.toList := by rw [HX.out, ← hr]; exact readT_minus (by assumption) (by assumption)
    have hrs : r.size ≤ 9223372036854775807 := by rw [← hr, ByteArray.size_extract]; omega
    have hne' := ne_of_empty hne
    rw [show t.size - 1 = r.size from by rw [← hr, ByteArray.size_extract]; omega]
    have HY := Lib.hid hX
    clear hX
    go_loop [5, 6, 30] (fun a g i => RelN r a g i) (fun _ _ i => r.size - (intOf i).toNat)
    case atStart => exact ⟨0, 0, false, Nat.zero_le _, rfl, rfl, rfl, by omega, by omega, rel_zero _⟩
    case round =>
      obtain ⟨k, z, gb, hk, rfl, rfl, rfl, hz0, hz1, hrel⟩ := hrel
      go_wp2_with (first | (go_at_call 203; refine hT.mono ?_; rintro e w' ⟨rfl, hw⟩) | (go_at_call 201; refine (hN _ hw).mono ?_; rintro e w' ⟨rfl, hnb⟩))
      · have hlt : k < r.size := by assumption
        have hbad : (r[k].toNat : Int) < 48 ∨ 57 < (r[k].toNat : Int) := by assumption
        go_ret2
        exact out (by rw [HY.out]; exact readD_bad (get_byte hlt) (bad_digit hbad)) (hw.trans (hnb.mono hw.size))
      · have hlt : k < r.size := by assumption
        have hdig : 48 ≤ (r[k].toNat : Int) ∧ (r[k].toNat : Int) ≤ 57 := by assumption
        have hgr : 9007199254740991 < z * 10 + ((r[k].toNat : Int) - 48) := by assumption
        have hnew : RelN r (.int .i64 9007199254740991) (.bool true) (.int .i64 ((k : Int) + 1)) := ⟨k + 1, _, true, by omega, by go_num, rfl, rfl, by omega, by omega, rel_great hrel (get_byte hlt) (by omega) (by omega) hgr⟩
        exact ⟨⟨_, _, _, _, _, _, hnew, rfl, rfl, rfl, rfl, rfl, rfl⟩, by simp [intOf]; omega⟩
      · have hlt : k < r.size := by assumption
        have hdig : 48 ≤ (r[k].toNat : Int) ∧ (r[k].toNat : Int) ≤ 57 := by assumption
        have hgr : z * 10 + ((r[k].toNat : Int) - 48) ≤ 9007199254740991 := by assumption
        have hnew : RelN r (.int .i64 (z * 10 + ((r[k].toNat : Int) - 48))) (.bool gb) (.int .i64 ((k : Int) + 1)) := ⟨k + 1, _, gb, by omega, by go_num, rfl, rfl, by omega, hgr, rel_small hrel (get_byte hlt) (by omega) (by omega) hgr⟩
        exact ⟨⟨_, _, _, _, _, _, hnew, rfl, rfl, rfl, rfl, rfl, rfl⟩, by simp [intOf]; omega⟩
      · have hlt : k < r.size := by assumption
        have hbad : (r[k].toNat : Int) < 48 := by assumption
        go_ret2
        exact out (by rw [HY.out]; exact readD_bad (get_byte hlt) (bad_digit (.inl hbad))) (hw.trans (hnb.mono hw.size))
      · have hgb : gb = true := by assumption
        have hge : ¬ k < r.size := by assumption
        obtain ⟨q1, q2, q3⟩ := hrel
        rw [end_all hk hge] at q1 q2 q3
        go_ret2
        exact out (by rw [HY.out]; exact readD_great hne' q1 (of_decide_eq_true (q3.symm.trans hgb))) hw
      · have hgb : ¬ gb = true := by assumption
        have hz0' : (z == 0) = true := by assumption
        have hz0' : z = 0 := by simpa using hz0'
        have hge : ¬ k < r.size := by assumption
        obtain ⟨q1, q2, q3⟩ := hrel
        rw [end_all hk hge] at q1 q2 q3
        go_ret2
        exact out (by rw [HY.out]; exact readD_zero hne' q1 (by omega)) hw
      · have hgb : ¬ gb = true := by assumption
        have hz0' : (z == 0) = false := by assumption
        have hz0' : z ≠ 0 := by simpa using hz0'
        have hge : ¬ k < r.size := by assumption
        obtain ⟨q1, q2, q3⟩ := hrel
        rw [end_all hk hge] at q1 q2 q3
        have hle : ¬ 9007199254740991 < worthL r.toList := fun h => hgb (q3.trans (decide_eq_true h))
        have hz : z = (worthL r.toList : Int) := by omega
        go_ret2
        exact out (by rw [HY.out, readD_ok hne' q1 (by omega) (.inr (by omega)), hz]; rfl) hw
  · go_ret2
    exact out (by rw [HX.out, readT_plus (by assumption) (by assumption) (by assumption), list_of_empty (by assumption)]; rfl) (hw.trans (hnb.mono hw.size))
  · have hne : (t.extract 1 t.size).toList.isEmpty = false := by assumption
    generalize hr : t.extract 1 t.size = r at *
    have hX : X = readD false r.toList := by rw [HX.out, ← hr]; exact readT_plus (by assumption) (by assumption) (by assumption)
    have hrs : r.size ≤ 9223372036854775807 := by rw [← hr, ByteArray.size_extract]; omega
    have hne' := ne_of_empty hne
    rw [show t.size - 1 = r.size from by rw [← hr, ByteArray.size_extract]; omega]
    have HY := Lib.hid hX
    clear hX
    go_loop [5, 6, 30] (fun a g i => RelN r a g i) (fun _ _ i => r.size - (intOf i).toNat)
    case atStart => exact ⟨0, 0, false, Nat.zero_le _, rfl, rfl, rfl, by omega, by omega, rel_zero _⟩
    case round =>
      obtain ⟨k, z, gb, hk, rfl, rfl, rfl, hz0, hz1, hrel⟩ := hrel
      go_wp2_with (first | (go_at_call 203; refine hT.mono ?_; rintro e w' ⟨rfl, hw⟩) | (go_at_call 201; refine (hN _ hw).mono ?_; rintro e w' ⟨rfl, hnb⟩))
      · have hlt : k < r.size := by assumption
        have hbad : (r[k].toNat : Int) < 48 ∨ 57 < (r[k].toNat : Int) := by assumption
        go_ret2
        exact out (by rw [HY.out]; exact readD_bad (get_byte hlt) (bad_digit hbad)) (hw.trans (hnb.mono hw.size))
      · have hlt : k < r.size := by assumption
        have hdig : 48 ≤ (r[k].toNat : Int) ∧ (r[k].toNat : Int) ≤ 57 := by assumption
        have hgr : 9007199254740991 < z * 10 + ((r[k].toNat : Int) - 48) := by assumption
        have hnew : RelN r (.int .i64 9007199254740991) (.bool true) (.int .i64 ((k : Int) + 1)) := ⟨k + 1, _, true, by omega, by go_num, rfl, rfl, by omega, by omega, rel_great hrel (get_byte hlt) (by omega) (by omega) hgr⟩
        exact ⟨⟨_, _, _, _, _, _, hnew, rfl, rfl, rfl, rfl, rfl, rfl⟩, by simp [intOf]; omega⟩
      · have hlt : k < r.size := by assumption
        have hdig : 48 ≤ (r[k].toNat : Int) ∧ (r[k].toNat : Int) ≤ 57 := by assumption
        have hgr : z * 10 + ((r[k].toNat : Int) - 48) ≤ 9007199254740991 := by assumption
        have hnew : RelN r (.int .i64 (z * 10 + ((r[k].toNat : Int) - 48))) (.bool gb) (.int .i64 ((k : Int) + 1)) := ⟨k + 1, _, gb, by omega, by go_num, rfl, rfl, by omega, hgr, rel_small hrel (get_byte hlt) (by omega) (by omega) hgr⟩
        exact ⟨⟨_, _, _, _, _, _, hnew, rfl, rfl, rfl, rfl, rfl, rfl⟩, by simp [intOf]; omega⟩
      · have hlt : k < r.size := by assumption
        have hbad : (r[k].toNat : Int) < 48 := by assumption
        go_ret2
        exact out (by rw [HY.out]; exact readD_bad (get_byte hlt) (bad_digit (.inl hbad))) (hw.trans (hnb.mono hw.size))
      · have hgb : gb = true := by assumption
        have hge : ¬ k < r.size := by assumption
        obtain ⟨q1, q2, q3⟩ := hrel
        rw [end_all hk hge] at q1 q2 q3
        go_ret2
        exact out (by rw [HY.out]; exact readD_great hne' q1 (of_decide_eq_true (q3.symm.trans hgb))) hw
      · have hgb : ¬ gb = true := by assumption
        have hge : ¬ k < r.size := by assumption
        obtain ⟨q1, q2, q3⟩ := hrel
        rw [end_all hk hge] at q1 q2 q3
        have hle : ¬ 9007199254740991 < worthL r.toList := fun h => hgb (q3.trans (decide_eq_true h))
        have hz : z = (worthL r.toList : Int) := by omega
        go_ret2
        exact out (by rw [HY.out, readD_ok hne' q1 (by omega) (.inl rfl), hz]; rfl) hw
  · have hne : t.toList.isEmpty = false := by assumption
    have hX : X = readD false t.toList := by rw [HX.out]; exact readT_none (by assumption) (by assumption)
    have hrs : t.size ≤ 9223372036854775807 := ht
    have hne' := ne_of_empty hne
    skip
    have HY := Lib.hid hX
    clear hX
    go_loop [5, 6, 30] (fun a g i => RelN t a g i) (fun _ _ i => t.size - (intOf i).toNat)
    case atStart => exact ⟨0, 0, false, Nat.zero_le _, rfl, rfl, rfl, by omega, by omega, rel_zero _⟩
    case round =>
      obtain ⟨k, z, gb, hk, rfl, rfl, rfl, hz0, hz1, hrel⟩ := hrel
      go_wp2_with (first | (go_at_call 203; refine hT.mono ?_; rintro e w' ⟨rfl, hw⟩) | (go_at_call 201; refine (hN _ hw).mono ?_; rintro e w' ⟨rfl, hnb⟩))
      · have hlt : k < t.size := by assumption
        have hbad : (t[k].toNat : Int) < 48 ∨ 57 < (t[k].toNat : Int) := by assumption
        go_ret2
        exact out (by rw [HY.out]; exact readD_bad (get_byte hlt) (bad_digit hbad)) (hw.trans (hnb.mono hw.size))
      · have hlt : k < t.size := by assumption
        have hdig : 48 ≤ (t[k].toNat : Int) ∧ (t[k].toNat : Int) ≤ 57 := by assumption
        have hgr : 9007199254740991 < z * 10 + ((t[k].toNat : Int) - 48) := by assumption
        have hnew : RelN t (.int .i64 9007199254740991) (.bool true) (.int .i64 ((k : Int) + 1)) := ⟨k + 1, _, true, by omega, by go_num, rfl, rfl, by omega, by omega, rel_great hrel (get_byte hlt) (by omega) (by omega) hgr⟩
        exact ⟨⟨_, _, _, _, _, _, hnew, rfl, rfl, rfl, rfl, rfl, rfl⟩, by simp [intOf]; omega⟩
      · have hlt : k < t.size := by assumption
        have hdig : 48 ≤ (t[k].toNat : Int) ∧ (t[k].toNat : Int) ≤ 57 := by assumption
        have hgr : z * 10 + ((t[k].toNat : Int) - 48) ≤ 9007199254740991 := by assumption
        have hnew : RelN t (.int .i64 (z * 10 + ((t[k].toNat : Int) - 48))) (.bool gb) (.int .i64 ((k : Int) + 1)) := ⟨k + 1, _, gb, by omega, by go_num, rfl, rfl, by omega, hgr, rel_small hrel (get_byte hlt) (by omega) (by omega) hgr⟩
        exact ⟨⟨_, _, _, _, _, _, hnew, rfl, rfl, rfl, rfl, rfl, rfl⟩, by simp [intOf]; omega⟩
      · have hlt : k < t.size := by assumption
        have hbad : (t[k].toNat : Int) < 48 := by assumption
        go_ret2
        exact out (by rw [HY.out]; exact readD_bad (get_byte hlt) (bad_digit (.inl hbad))) (hw.trans (hnb.mono hw.size))
      · have hgb : gb = true := by assumption
        have hge : ¬ k < t.size := by assumption
        obtain ⟨q1, q2, q3⟩ := hrel
        rw [end_all hk hge] at q1 q2 q3
        go_ret2
        exact out (by rw [HY.out]; exact readD_great hne' q1 (of_decide_eq_true (q3.symm.trans hgb))) hw
      · have hgb : ¬ gb = true := by assumption
        have hge : ¬ k < t.size := by assumption
        obtain ⟨q1, q2, q3⟩ := hrel
        rw [end_all hk hge] at q1 q2 q3
        have hle : ¬ 9007199254740991 < worthL t.toList := fun h => hgb (q3.trans (decide_eq_true h))
        have hz : z = (worthL t.toList : Int) := by omega
        go_ret2
        exact out (by rw [HY.out, readD_ok hne' q1 (by omega) (.inl rfl), hz]; rfl) hw
  · exfalso
    have h1 : t.toList.isEmpty = false := by assumption
    have h2 : ¬ 0 < t.size := by assumption
    have h3 := ne_of_empty h1
    exact h3 (List.eq_nil_of_length_eq_zero (by rw [size_list]; omega))

theorem bare_trim (l : List UInt8) : Lib.trimS l [9, 10, 13, 32] = bareL l := by
  unfold Lib.trimS Lib.trimLeftS Lib.trimRightS bareL
  have e : (fun b => ([9, 10, 13, 32] : List UInt8).contains b) = blankB := by
    funext b
    unfold blankB
    rw [Bool.eq_iff_iff]
    simp [or_assoc]
  rw [e]
theorem readT_bare (l : List UInt8) : readT (bareL l) = readL l := rfl
theorem nan0 : setF [] (startH [] 1) (fun h => run (fun _ => none) 40 201 [] h 1 (fun v _ _ => sameT v (.f .f64 0x7ff8000000000001))) = true := by kernel_rfl
theorem nanC (w : World) (hs : 0 < w.heap.size) : Calls Tryz.prog 201 #[] w fun e w' => e = .returned (.float .f64 0x7ff8000000000001) ∧ Below w.heap.size w w' := by
  refine (sameRun (run_ok SpecOK.none 40) rvl_nil (fun u h => by cases h) nan0 w hs).mono ?_
  rintro e w' ⟨V, E, rfl, rv, hb⟩
  rw [Rv] at rv
  exact ⟨by rw [rv], hb⟩
theorem read : OfRead Tryz.prog 202 := by
  intro s w hs hz
  have hl : (bareL s.toList).length ≤ s.size := by
    unfold bareL
    have h1 := (List.dropWhile_sublist blankB (l := (s.toList.reverse.dropWhile blankB).reverse)).length_le
    have h2 := (List.dropWhile_sublist blankB (l := s.toList.reverse)).length_le
    rw [List.length_reverse] at h1 h2
    have := size_list s
    omega
  have hsz : (⟨(bareL s.toList).toArray⟩ : ByteArray).size = (bareL s.toList).length := by simp [ByteArray.size]
  refine read_walk s ⟨(bareL s.toList).toArray⟩ (by omega) (by omega) w ?_ (fun w1 hb => nanC w1 (by have := hb.size; omega)) _ ?_
  · refine (Go.Proofs.Any.strings_Trim_laid Tryz.lays160 (by kernel_rfl) s ⟨#[9, 10, 13, 32]⟩ w (by omega) (by decide) (Go.Proofs.ascii_of_all (by decide))).mono ?_
    rintro e w' ⟨rfl, hb⟩
    refine ⟨?_, hb⟩
    congr 3
    rw [← bare_trim, ByteArray.toList_eq]
  · have : (⟨(bareL s.toList).toArray⟩ : ByteArray).toList = bareL s.toList := by rw [ByteArray.toList_eq]
    rw [this, readT_bare]
end Go.Proofs.YtaecedlhiclkdaaGreatDoor.Read
