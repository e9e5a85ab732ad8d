/- object.Names hands back its sixteen names, sorted, in new memory. No condition. -/
import Derived.Test.YtejghjbbejeipaaGreatDoorVxY
import Derived.Test.YtejghjbbejeipaaGreatDoorVxN
import Derived.Test.YtejghjbbejeipaaGreatDoorShelf
import Derived.Sort.OwnSorted
import Derived.Maps.RangeWalk
import Derived.Maps.AppendAt
import Derived.WalkKit
import Derived.Outline
import Derived.Lib.Hide
namespace Go.Proofs.YtejghjbbejeipaaGreatDoor.Names8
open Go Go.RowKit Go.Maps Go.Sort

theorem under9 : Tryz.prog.underlying 9 = some .string := by kernel_rfl
theorem under22 : Tryz.prog.underlying 22 = some (.slice 9) := by kernel_rfl
theorem info9 : (Tryz.prog.info? 9).map (fun i => (i.zero, i.size, i.bytes)) = some (some (.string ⟨#[]⟩), 1, 16) := by kernel_rfl
theorem law9 : Keyed Tryz.prog 9 := string_keyed under9
theorem under80 : Tryz.prog.underlying 80 = some (.map 9 83) := by kernel_rfl

def ks : List (Nat × Nat) := [(6, 121390429860705), (6, 111550524650083), (14, 2463397432817095070742675148137828), (6, 111576361562726), (24, 2805947119396938920427194473873559009489280880887284917607), (19, 2573421258830701972015807444801943604642997607), (21, 168691743253275916479622775680962576023838596031847), (14, 2075096198370335216509268027270503), (2, 29545), (12, 31389014717615377969513329513), (8, 7954898935897027433), (8, 7234307542008165225), (4, 1937335659), (17, 39279265759193974485341313937393999770224), (4, 1818322291), (14, 2075096198370335216509268027270515)]

theorem fns_ran : Vx.run (fun _ => none) 60 40 [] (Vx.T.full .gone 20) 1 (fun v h _ => match v with | .mp id => (match Vx.T.get .gone h id with | .map es clock => Vx.entsK es 0 ks clock | _ => false) | _ => false) = true := by kernel_rfl

theorem fns (w : World) : Calls Tryz.prog 40 #[] w fun e w' => ∃ b, e = .returned (.map (some b)) ∧ w.heap.size ≤ b ∧ w'.ownsMap Tryz.prog 9 Vx.anyR b 16 (Vx.mapD ks) ∧ Below w.heap.size w w' :=
  Vx.closedMap (Vx.run_ok Vx.SpecOK.none 60) under9 (by decide) (by decide) fns_ran w

theorem sizeD : Maps.size (Vx.mapD ks) = 16 := by decide +kernel
theorem lenK : (strKeys (Vx.mapD ks)).length = 16 := by decide +kernel
theorem sortedD : (strKeys (Vx.mapD ks)).Pairwise (fun x y => x ≤ y) := by decide +kernel

set_option maxRecDepth 100000 in
set_option maxHeartbeats 1000000 in
theorem names_of (D : DataW Unit) (sizeD : Maps.size D = 16) (lenK : (strKeys D).length = 16) (sortedD : (strKeys D).Pairwise (fun x y => x ≤ y))
    (fns : ∀ w : World, Calls Tryz.prog 40 #[] w fun e w' => ∃ b, e = .returned (.map (some b)) ∧ w.heap.size ≤ b ∧ w'.ownsMap Tryz.prog 9 Vx.anyR b 16 D ∧ Below w.heap.size w w') (w : World) :
    Calls Tryz.prog 8 #[] w fun e w' => ∃ g cap, e = .returned (.slice (some ⟨g, 0, none⟩) 16 cap) ∧
      w'.ownsRow w.heap.size 9 1 (.slice (some ⟨g, 0, none⟩) 16 cap) 16 ((strKeys D).map encStr) ∧ Below w.heap.size w w' := by
  obtain ⟨i0, hi, hz0, hz1, hz2⟩ := info_parts info9
  have hsz := Lib.hid sizeD
  go_enter Tryz.func8, Tryz.ntmps8
  go_wp2_with (first
    | (go_at_call 40; refine (fns _).mono ?_; rintro e w1 ⟨b, rfl, hbb, hown, hb1⟩)
    | (at_range; refine wpList_range_own _ rfl _ 80 rfl 9 83 law9 under80 _ b 16 _ rfl hown ?_; intro w0 hrg0 hg0 hs0))
  go_frame
  have hbl := hown.lt
  go_loopw [1] (fun v wr => ∃ (left : Lit → Bool) (cnt : Nat) (ss : List (List UInt8)), wr.ranges Tryz.prog 9 Vx.anyR b w1.heap.size 16 D left cnt ∧ ss.length + cnt ≤ 16 ∧
      wr.ownsRow w1.heap.size 9 1 v ss.length (ss.map encStr) ∧ Collected D left ss ∧ Below w.heap.size w wr)
    (fun _ wr => wr.rangeLeft b w1.heap.size)
  case atStart =>
    exact ⟨_, _, [], hrg0, by rw [hsz.out]; simp, ⟨rfl, .inl ⟨rfl, rfl⟩⟩, Collected.start _, hb1.grown hg0 hb1.size (fun j hj => by cases hj)⟩
  case round =>
    obtain ⟨left, cnt, ss, hrg, hcs, hrow, hC, hnx⟩ := hrel
    go_wp2_with (first
      | (at_next; refine wpList_next_ranges _ rfl _ rfl 9 law9 Vx.anyR encStr (fun v : Value => v) (fun key kl hk => by obtain ⟨x, hx, _⟩ := Maps.keyOf_str under9 hk; exact ⟨x, hx⟩) (fun v y hv => ⟨v, rfl⟩) b w1.heap.size 16 _ _ _ rfl hrg ?_ ?_))
    · intro hc0 hl0
      have hlen : ss.length = 16 := by
        have h := (hC.perm hown law9 under9 hl0).length_eq
        rw [h]; exact lenK
      rcases hrow.2 with ⟨hnil, he⟩ | ⟨g, cap, cur, rfl, hbase, hb, h1, h2, h3, h4⟩
      · exfalso; omega
      have hH : Holds encStr wr g 0 ss.toArray := holds_of_block hb (by simpa using h4)
      have hgl : g < wr.heap.size := (Array.getElem?_eq_some_iff.1 hb).1
      have hc := Tryz.slices_Sort_string g 0 cap ss wr hH hgl (by omega)
      have hso : ss.mergeSort (fun x y => decide (x ≤ y)) = strKeys D := Vx.sorted_keys (hC.perm hown law9 under9 hl0) sortedD
      rw [hlen] at hc
      clear hrg hC hrg0 hown hH hsz sizeD lenK sortedD fns
      go_wp2_with (first
        | (go_at_call 41; refine hc.mono ?_; rintro e w' ⟨rfl, nn, os, rfl⟩))
      go_ret
      have hrw := ownsRow_sorted (n := nn) (os := os) (ss := ss) (ts := ss.mergeSort fun x y => decide (x ≤ y)) (by simp) (Nat.le_trans hb1.size hbase) hb h1 h2 h3
      rw [hso, hlen] at hrw
      exact ⟨g, cap, rfl, hso ▸ hrw, hnx.grown (grownBy_sorted _) hnx.size (fun j hj => by cases hj; exact Nat.le_trans hb1.size hbase)⟩
    · intro x c kl y y2 w2 cnt2 hkey hlk hv hat hrg2 hlt hg2 hs2 hen
      obtain ⟨x', ex, rfl, _⟩ := Maps.keyOf_str under9 hkey
      obtain rfl : x = x' := encStr_inj ex
      have hrow2 := hrow.kept hg2 (Or.inr (row_ne_iter hrow hrg).symm)
      have hlt2 := hrg2.lt
      clear hs2
      go_wp2_with (first
        | (at_builtin; refine wpList_append_own _ rfl _ _ 22 rfl w1.heap.size 9 i0 (.string ⟨#[]⟩) 1 16 under22 hi hz0 hz1 hz2 rfl (by decide) _ _ _ rfl (hrow2.alloc _) ⟨w2.heap.size, 0, none⟩ 1 1 [encStr x] rfl rfl (cell_one_new _ _ _) (by simp [Value.oneCell', encStr]) (by unfold maxLen at *; omega) (by omega) (by simp; omega) ?_; intro v' w3 hown' hg3 hnil3; go_frame))
      have hrg3 := (hrg2.alloc _).kept hg3 (row_ne_low hrow2 hbl) (row_ne_iter hrow2 hrg2)
      go_roundw
      case rel =>
        refine ⟨_, cnt2, ss ++ [x], hrg3, by simp; omega, by simpa using hown', hC.step hlk hat, ?_⟩
        exact ((hnx.grown hg2 hnx.size (fun j hj => by cases hj; exact hb1.size)).alloc (by have := hnx.size; have := hg2.size; omega) _).grown hg3 (by have := hnx.size; have := hg2.size; simp; omega) (fun j hj => Nat.le_trans hb1.size (hrow2.lt j hj).1)
      case measure => rw [hrg3.left_eq, hrg.left_eq]; exact hlt
theorem names (w : World) : Calls Tryz.prog 8 #[] w fun e w' => ∃ g cap, e = .returned (.slice (some ⟨g, 0, none⟩) 16 cap) ∧
    w'.ownsRow w.heap.size 9 1 (.slice (some ⟨g, 0, none⟩) 16 cap) 16 ((strKeys (Vx.mapD ks)).map encStr) ∧ Below w.heap.size w w' :=
  names_of _ sizeD lenK sortedD fns w
end Go.Proofs.YtejghjbbejeipaaGreatDoor.Names8
