/- The table of contracts is right: op.Names by the shelf's contract, strings.Index by its own. No condition. -/
import Derived.Test.YtbmekbpgoakkbaaGreatDoorVxY
import Derived.Test.YtbmekbpgoakkbaaGreatDoorVxZ
import Derived.Test.YtbmekbpgoakkbaaGreatDoorKeys
import Derived.Sort.OwnSorted
import Derived.WalkKit
import Derived.Outline
import Derived.Shelf.Strings.Search3
import Derived.Test.YtbmekbpgoakkbaaGreatDoorShelf
import Derived.Test.YtbmekbpgoakkbaaGreatDoorSd
namespace Go.Proofs.YtbmekbpgoakkbaaGreatDoor.Names13
open Go Go.RowKit Go.Maps Go.Sort Go.Shelf
set_option linter.unusedSimpArgs false

theorem under9 : Tryz.prog.underlying 9 = some .string := by kernel_rfl

def ks : List (Nat × Nat) := [(1, 43), (1, 45), (1, 42), (1, 47), (1, 37), (2, 15420), (2, 15934), (3, 4079166), (1, 38), (1, 94), (1, 124), (1, 60), (1, 62), (2, 15676), (2, 15678), (2, 15677), (2, 15649), (3, 4013373), (3, 4013345), (2, 28265), (10, 483736275649270941707881), (3, 7628135), (3, 7628147), (6, 111550592214372), (4, 1937335659), (6, 114849160783212), (1, 33), (6, 112628629272948), (1, 126), (3, 6776174), (3, 7565168)]

theorem fns_ran : Vx.run (fun _ => none) 60 123 [] (Vx.T.full .gone 20) 1 (fun v h _ => match v with | .mp id => (match Vx.T.get .gone h id with | .map es clock => Vx.entsK es 0 ks clock | _ => false) | _ => false) = true := by kernel_rfl

theorem fns (w : World) : Calls Tryz.prog 123 #[] w fun e w' => ∃ b, e = .returned (.map (some b)) ∧ w.heap.size ≤ b ∧ w'.ownsMap Tryz.prog 9 Vx.anyR b 31 (Vx.mapD ks) ∧ Below w.heap.size w w' :=
  Vx.closedMap (Vx.run_ok Vx.SpecOK.none 60) under9 (by decide) (by decide) fns_ran w

theorem sizeD : Maps.size (Vx.mapD ks) = 31 := by decide +kernel
theorem lenK : (strKeys (Vx.mapD ks)).length = 31 := by decide +kernel
theorem sortedD : (strKeys (Vx.mapD ks)).Pairwise (fun x y => x ≤ y) := by decide +kernel

/-- slices.Sort's two contracts at this dump, at the fence that asks nothing. -/
theorem sortsA (m : Nat) : AnyZ.SortsIn Tryz.prog Tryz.sortedA_ren Fence.wide m :=
  ⟨fun blk off cap ss W hH hblk hsz => callsIn_wide.2 (AnyM.slices_Sort_string Tryz.sortA blk off cap ss W hH hblk hsz),
   fun p cap W => callsIn_wide.2 (AnyM.slices_Sort_string_none Tryz.sortA p cap W)⟩

set_option maxHeartbeats 1000000 in
theorem sortedKeys (b nn : Nat) (D0 : DataW Unit) (R : Value → Option (DataW Unit × List MemPlace)) (w : World) (hown : w.ownsMap Tryz.prog 9 R b nn D0) (hmax : Maps.size D0 ≤ maxLen) (hbytes : Maps.size D0 * 16 ≤ 140737488355328) :
    CallsIn Fence.wide 5 Tryz.prog 121 #[.func (.func 225) #[] #[.pointer (some ⟨w.heap.size, 0, none⟩)]] (w.alloc (.cells #[.map (some b)] 262)) fun e w' => ∃ (v : Value) (ss : List (List UInt8)), e = .returned v ∧ ss.Perm (strKeys D0) ∧
      w'.ownsRow (w.alloc (.cells #[.map (some b)] 262)).heap.size 9 1 v ss.length ((ss.mergeSort (fun x y => decide (x ≤ y))).map encStr) ∧ (v = .slice none 0 0 ↔ ss = []) ∧ Below (w.alloc (.cells #[.map (some b)] 262)).heap.size (w.alloc (.cells #[.map (some b)] 262)) w' := by
  have hbl := hown.lt
  have hseq : SeqGives Fence.wide 2 Tryz.prog 225 #[.pointer (some ⟨w.heap.size, 0, none⟩)] encStr (fun ss => ss.Perm (strKeys D0)) (Maps.size D0) (w.alloc (.cells #[.map (some b)] 262)) :=
    AnyZ.keys_gives (ρ := Tryz.keysA_ren) { Tryz.keysA with } Fence.wide _ trivial rfl (by omega) w.heap.size b nn D0 _ (by simp) (by simp) (by
      obtain ⟨es, clock, hb, Ft, hs, hD⟩ := hown
      exact ⟨es, clock, (Below.heap_alloc _ _ b hbl).trans hb, Ft, hs, hD⟩)
  exact AnyZ.sorted_in Tryz.sortedA Fence.wide 5 trivial trivial trivial trivial rfl (by omega) (sortsA _) (enters_of Tryz.func224 (by kernel_rfl) rfl) 225 #[.pointer (some ⟨w.heap.size, 0, none⟩)] trivial (enters_of Tryz.func225 (by kernel_rfl) rfl) _ _ hmax hbytes _ hseq

theorem keysC (mb : Option Nat) (W : World) : CallsIn Fence.wide 5 Tryz.prog 122 #[.map mb] W fun e w' => e = .returned (.func (.func 225) #[] #[.pointer (some ⟨W.heap.size, 0, none⟩)]) ∧ w' = W.alloc (.cells #[.map mb] 262) :=
  AnyZ.keys_in Tryz.keysA Fence.wide 5 trivial rfl mb W

set_option maxRecDepth 100000 in
set_option maxHeartbeats 1000000 in
theorem names_of (D : DataW Unit) (sizeD : Maps.size D = 31) (lenK : (strKeys D).length = 31) (sortedD : (strKeys D).Pairwise (fun x y => x ≤ y))
    (fns : ∀ w : World, Calls Tryz.prog 123 #[] w fun e w' => ∃ b, e = .returned (.map (some b)) ∧ w.heap.size ≤ b ∧ w'.ownsMap Tryz.prog 9 Vx.anyR b 31 D ∧ Below w.heap.size w w') (w : World) :
    Calls Tryz.prog 63 #[] w fun e w' => ∃ g cap, e = .returned (.slice (some ⟨g, 0, none⟩) 31 cap) ∧
      w'.ownsRow w.heap.size 9 1 (.slice (some ⟨g, 0, none⟩) 31 cap) 31 ((strKeys D).map encStr) ∧ Below w.heap.size w w' := by
  refine (callsIn_wide (n := 6)).1 ?_
  have cF : ∀ W, CallsIn Fence.wide 5 Tryz.prog 123 #[] W fun e w' => ∃ b, e = .returned (.map (some b)) ∧ W.heap.size ≤ b ∧ w'.ownsMap Tryz.prog 9 Vx.anyR b 31 D ∧ Below W.heap.size W w' := fun W => callsIn_wide.2 (fns W)
  have hfF : Fence.wide.fn 123 := trivial
  have hfK : Fence.wide.fn 122 := trivial
  have hfS : Fence.wide.fn 121 := trivial
  refine callsIn_of_wp Tryz.func63 rfl trivial ?_ rfl
  simp only [Tryz.ntmps63, List.size_toArray, List.length_cons, List.length_nil, Nat.reduceAdd, Nat.reduceSub, Array.replicate_succ, Array.replicate_zero, List.push_toArray, List.append_toArray, List.nil_append, List.cons_append]
  gi_wp2_with (first
    | (gi_at_call 123; refine (cF _).mono ?_; rintro e w1 ⟨b, rfl, hbb, hown, hb1⟩)
    | (gi_at_call 122; refine (keysC _ _).mono ?_; rintro e w' ⟨rfl, rfl⟩)
    | (gi_at_call 121; refine (sortedKeys _ _ _ _ _ hown (by rw [sizeD]; decide) (by rw [sizeD]; decide)).mono ?_; rintro e w' ⟨v, ss, rfl, hS, hrow, hnil, hb⟩))
  go_ret
  have hl : ss.length = 31 := by rw [hS.length_eq]; exact lenK
  have hso : ss.mergeSort (fun x y => decide (x ≤ y)) = strKeys D := Vx.sorted_keys hS sortedD
  rw [hso, hl] at hrow
  have hb2 : Below w.heap.size w w' := (hb1.alloc hb1.size _).trans (hb.mono (by have := hb1.size; simp; omega))
  rcases hrow.2 with ⟨_, h0⟩ | ⟨g, cap, cur, rfl, hbase, rest⟩
  · cases h0
  · exact ⟨g, cap, rfl, ⟨hrow.1, .inr ⟨g, cap, cur, rfl, by have := hb1.size; simp at hbase; omega, rest⟩⟩, hb2⟩

theorem names (w : World) : Calls Tryz.prog 63 #[] w fun e w' => ∃ g cap, e = .returned (.slice (some ⟨g, 0, none⟩) 31 cap) ∧
    w'.ownsRow w.heap.size 9 1 (.slice (some ⟨g, 0, none⟩) 31 cap) 31 ((strKeys (Vx.mapD ks)).map encStr) ∧ Below w.heap.size w w' :=
  names_of _ sizeD lenK sortedD fns w
end Go.Proofs.YtbmekbpgoakkbaaGreatDoor.Names13
namespace Go.Proofs.YtbmekbpgoakkbaaGreatDoor.Lib0
open Go Go.Shelf
noncomputable def sp : Vx.Specs := fun g => match g with
  | 103 => some (Vx.indexC 1 (fun r => .i .i64 r))
  | _ => none
theorem sp_ok : Vx.SpecOK Tryz.prog sp := by
  intro g C hC
  unfold sp at hC
  split at hC <;> cases hC
  exact Vx.CtOK.of fun args ARGS E h nxt w k he ra hr => Vx.indexC_ok (RES := fun r => .int .i64 r) (fun E r => by rw [Vx.Rv]) (fun s sub m w hs hm => Any.strings_Index Tryz.lays143 s sub m w hs hm) args ARGS E h nxt w k he ra hr
end Go.Proofs.YtbmekbpgoakkbaaGreatDoor.Lib0
set_option linter.all false
namespace Go.Proofs.YtbmekbpgoakkbaaGreatDoor.So
open Go Go.Sort Go.Maps Go.Proofs Go.RowKit
theorem selC_ok [Vx.JC] {P : Program} {g : FuncId} {a0 : List Vx.AV} {C D : Vx.Ct} (hC : Vx.CtOK P g C) (hD : Vx.CtOK P g D) : Vx.CtOK P g (Sd.selC a0 C D) := by
  intro args ARGS E h nxt w k he ra hr hj
  have he : Vx.bc (Vx.sameL args a0) (C args h nxt k) (D args h nxt k) = true := he
  cases e : Vx.sameL args a0 with
  | true => rw [e] at he; exact hC args ARGS E h nxt w k he ra hr hj
  | false => rw [e] at he; exact hD args ARGS E h nxt w k he ra hr hj
theorem lits_eq : Sd.lits = ((strKeys (Vx.mapD Names13.ks)).map encStr).map Vx.abs1 := by kernel_rfl
theorem sp_ok : Vx.SpecOK Tryz.prog Sd.sp := by
  intro g C hC
  unfold Sd.sp at hC
  split at hC
  · cases hC; exact Rm.c0
  · cases hC
    rw [lits_eq]
    exact Vx.CtOK.of fun args ARGS E h nxt w k he ra hr => Vx.rowC_ok (by decide +kernel) Names13.names args ARGS E h nxt w k he ra hr
  · cases hC; exact Lib0.sp_ok 103 _ rfl
  · cases hC
end Go.Proofs.YtbmekbpgoakkbaaGreatDoor.So
