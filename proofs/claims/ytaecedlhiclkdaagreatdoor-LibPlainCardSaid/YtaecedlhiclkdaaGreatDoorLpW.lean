/- LibPlain: str.Part, str.Find, key.Index, key.Sym, slices.Contains: as contracts. No condition. -/
import Derived.Test.YtaecedlhiclkdaaGreatDoorLpC
import Derived.Test.YtaecedlhiclkdaaGreatDoorLpF
import Derived.Test.YtaecedlhiclkdaaGreatDoorLpShelf
import Derived.WalkKit
import Derived.WalkLawsBesides
import Derived.Handy
import Derived.Lib.Hide
import Derived.Shelf.Strings.Search3
import Derived.Shelf.Slices.Turned
namespace Go.Proofs.YtaecedlhiclkdaaGreatDoor.Lp
open Go Go.RowKit Vx Con
set_option linter.unusedVariables false
set_option linter.constructorNameAsVariable false
set_option maxRecDepth 100000

theorem trunc0 : setF [(.fn 7 (.sy 1), true), (.cmp .eql (.sy 1) (.sy 1), true)] (startH [] 1) (fun h => c0 68 [.x .f (.sy 1)] h 2 (fun v _ _ => sameT v (.x .f (.fn 2 (.sy 1))))) = true := by kernel_rfl
theorem truncC (z : Int) (h1 : -9007199254740991 ≤ z) (h2 : z ≤ 9007199254740991) (w : World) (hs : 0 < w.heap.size) : Calls Tryz.prog 68 #[.float .f64 (FloatKind.f64.nearest z)] w fun e w' => e = .returned (.float .f64 (FloatKind.f64.nearest z)) ∧ Below w.heap.size w w' := by
  have hm := Vx.near_may h1 h2
  have hn := near_self h1 h2
  have hl := near_lt z
  obtain ⟨s, m, i, hd, he⟩ := trunc_near h1 h2
  generalize FloatKind.f64.nearest z = x at *
  have d1 : den (symEV [] 1 [.float .f64 x]) (.sy 1) = some (.float .f64 x) := den_sym 0 rfl (sok_f _)
  have d2 : den (symEV [] 1 [.float .f64 x]) (.fn 2 (.sy 1)) = some (.float .f64 x) := by
    refine den_fn d1 ?_
    show (match FloatKind.f64.decode x with | .nan _ _ => none | d => some (Value.float .f64 (FloatKind.f64.encode (d.integral .zero)))) = _
    rw [hd] at he ⊢
    exact congrArg (fun y => some (Value.float .f64 y)) he
  refine (closedXL c0_ok (gl := []) (n0 := 1) (Vs := [.float .f64 x]) (fin := fun v _ => sameT v (.x .f (.fn 2 (.sy 1)))) rfl rfl rfl rfl (holds_cons ((den_fn (c := 7) d1 rfl).trans (by rw [hm])) (holds_cons ((den_feq d1 d1).trans (by rw [hn])) holds_nil)) (rvl_cons (rv_sym (s := .f) 0 rfl (sok_f _) ⟨_, rfl, hl⟩) rvl_nil) (fun _ _ => rfl) trunc0 w hs (fun p hp => by cases hp)).mono ?_
  rintro e w' ⟨⟨V, v, h', E', rfl, rv, _, hE, hk⟩, hb⟩
  obtain rfl := sameT_ok hk
  rw [Rv] at rv
  rw [den_mono hE _ _ d2] at rv
  exact ⟨by rw [Option.some.inj rv.1], hb⟩
theorem run_addF {x y r : Nat} (t : TypeId) (h : FloatKind.f64.format.add x y = some r) (w : World) : (binOp .add t (.float .f64 x) (.float .f64 y)).run Tryz.prog w = .ok (.float .f64 r) w := run_float_arith w .add t .f64 x y r h
theorem near_toInt {z : Int} (h1 : -9007199254740991 ≤ z) (h2 : z ≤ 9007199254740991) : (FloatKind.f64.decode (FloatKind.f64.nearest z)).toInt .zero = some z := by
  have h := f2i_near h1 h2
  obtain ⟨s, m, i, hd, _⟩ := trunc_near h1 h2
  unfold f2i at h
  rw [hd] at h ⊢
  unfold Ieee.Datum.toInt Ieee.Datum.integral at h ⊢
  dsimp only [Option.getD_some] at h ⊢
  rw [h]

theorem max_lt {X Y : Nat} (h : FloatKind.f64.format.order X Y = some .lt) (w : World) : (Builtin.max_ #[22, 22] 22 #[.float .f64 X, .float .f64 Y]).run Tryz.prog w = .ok (.float .f64 Y) w := by
  simp [Builtin.max_, Builtin.max2, h]
theorem max_gt {X Y : Nat} (h : FloatKind.f64.format.order X Y = some .gt) (w : World) : (Builtin.max_ #[22, 22] 22 #[.float .f64 X, .float .f64 Y]).run Tryz.prog w = .ok (.float .f64 X) w := by
  simp [Builtin.max_, Builtin.max2, h]
theorem max_eq {X : Nat} (h : FloatKind.f64.format.order X X = some .eq) (w : World) : (Builtin.max_ #[22, 22] 22 #[.float .f64 X, .float .f64 X]).run Tryz.prog w = .ok (.float .f64 X) w := by
  simp [Builtin.max_, Builtin.max2, h]
theorem min_lt {X Y : Nat} (h : FloatKind.f64.format.order X Y = some .lt) (w : World) : (Builtin.min_ #[22, 22] 22 #[.float .f64 X, .float .f64 Y]).run Tryz.prog w = .ok (.float .f64 X) w := by
  simp [Builtin.min_, Builtin.min2, h]
theorem min_gt {X Y : Nat} (h : FloatKind.f64.format.order X Y = some .gt) (w : World) : (Builtin.min_ #[22, 22] 22 #[.float .f64 X, .float .f64 Y]).run Tryz.prog w = .ok (.float .f64 Y) w := by
  simp [Builtin.min_, Builtin.min2, h]
theorem min_eq {X : Nat} (h : FloatKind.f64.format.order X X = some .eq) (w : World) : (Builtin.min_ #[22, 22] 22 #[.float .f64 X, .float .f64 X]).run Tryz.prog w = .ok (.float .f64 X) w := by
  simp [Builtin.min_, Builtin.min2, h]
/-- the greatest of nought and a whole number, the least of two -/
theorem max_near {z : Int} (h1 : -9007199254740991 ≤ z) (h2 : z ≤ 9007199254740991) (w : World) : (Builtin.max_ #[22, 22] 22 #[.float .f64 0, .float .f64 (FloatKind.f64.nearest z)]).run Tryz.prog w = .ok (.float .f64 (FloatKind.f64.nearest (max 0 z))) w := by
  have n0 : FloatKind.f64.nearest 0 = 0 := by kernel_rfl
  have o := order_near (a := 0) (b := z) (by decide) (by decide) h1 h2
  rw [n0] at o
  rcases Int.lt_trichotomy 0 z with h | h | h
  · rw [cmp_lt h] at o
    rw [show max 0 z = z by omega]
    exact max_lt o w
  · subst h
    rw [show max (0 : Int) 0 = 0 from rfl, n0]
    rw [n0, (icmp_eq _ _).2 rfl] at o
    exact max_eq o w
  · rw [cmp_gt h] at o
    rw [show max 0 z = 0 by omega, n0]
    exact max_gt o w
theorem min_near {a z : Int} (a1 : -9007199254740991 ≤ a) (a2 : a ≤ 9007199254740991) (h1 : -9007199254740991 ≤ z) (h2 : z ≤ 9007199254740991) (w : World) : (Builtin.min_ #[22, 22] 22 #[.float .f64 (FloatKind.f64.nearest a), .float .f64 (FloatKind.f64.nearest z)]).run Tryz.prog w = .ok (.float .f64 (FloatKind.f64.nearest (min a z))) w := by
  have o := order_near a1 a2 h1 h2
  rcases Int.lt_trichotomy a z with h | h | h
  · rw [cmp_lt h] at o
    rw [show min a z = a by omega]
    exact min_lt o w
  · subst h
    rw [show min a a = a by omega]
    rw [(icmp_eq _ _).2 rfl] at o
    exact min_eq o w
  · rw [cmp_gt h] at o
    rw [show min a z = z by omega]
    exact min_gt o w
set_option maxHeartbeats 1600000 in
theorem placeC (s : ByteArray) (x : Nat) (w : World) (hs : s.size ≤ 4096) (hx : x < 18446744073709551616) (hm : mayF x = true) (hw0 : 0 < w.heap.size) : Calls Tryz.prog 139 #[.string s, .float .f64 x] w fun e w' => (∃ z : Int, (0 ≤ z ∧ z ≤ s.size) ∧ e = .returned (.int .i64 z)) ∧ Below w.heap.size w w' := by
  have hb0 : Below w.heap.size w w := Below.refl _ _
  have hcv : ∀ (z : Int) (w : World), (convert 3 22 (.int .i64 z)).run Tryz.prog w = .ok (.float .f64 (FloatKind.f64.nearest z)) w := fun z w => by
    simp [convert, run_underlying' Tryz.underlying3, run_underlying' Tryz.underlying22, Conv.intToFloat]
  have hback : ∀ (z : Int), -9007199254740991 ≤ z → z ≤ 9007199254740991 → ∀ w : World, (convert 22 3 (.float .f64 (FloatKind.f64.nearest z))).run Tryz.prog w = .ok (.int .i64 z) w := fun z h1 h2 w => by
    have hr : IntKind.i64.min ≤ z ∧ z ≤ IntKind.i64.max := ⟨by have : IntKind.i64.min = -9223372036854775808 := rfl; omega, by have : IntKind.i64.max = 9223372036854775807 := rfl; omega⟩
    simp [convert, run_underlying' Tryz.underlying3, run_underlying' Tryz.underlying22, Conv.floatToInt, near_toInt h1 h2, hr]
    intro h; omega
  cases hself : feq x x with
  | false =>
    have ho : (FloatKind.f64.format.order x x == some .eq) = false := hself
    have ho : (FloatKind.f64.format.order x x != some .eq) = true := by rw [bne, ho]; rfl
    go_enter Tryz.func139, Tryz.ntmps139
    go_wp2
    go_returns
    exact ⟨⟨0, ⟨by omega, by omega⟩, rfl⟩, hb0⟩
  | true =>
    obtain ⟨z, ⟨z1, z2⟩, rfl⟩ := may_near hx hm hself
    have ho : FloatKind.f64.format.order (FloatKind.f64.nearest z) (FloatKind.f64.nearest z) = some .eq := by simpa [feq] using hself
    have n0 : FloatKind.f64.nearest 0 = 0 := by kernel_rfl
    have o0 := order_near z1 z2 (b := 0) (by decide) (by decide)
    rw [n0] at o0
    have cT := truncC z z1 z2
    rcases Int.lt_or_le z 0 with hz | hz
    · rw [cmp_lt hz] at o0
      have hadd := fun w => run_addF 22 (add_near (a := (s.size : Int)) (b := z) (by omega) (by omega) z1 z2 (by omega) (by omega)) w
      have hmx := max_near (z := (s.size : Int) + z) (by omega) (by omega)
      have hbk := hback (max 0 ((s.size : Int) + z)) (by omega) (by omega)
      have hr : 0 ≤ max 0 ((s.size : Int) + z) ∧ max 0 ((s.size : Int) + z) ≤ s.size := by omega
      clear hback hm hself hx
      generalize FloatKind.f64.nearest (max 0 ((s.size : Int) + z)) = M at *
      generalize max 0 ((s.size : Int) + z) = r at *
      generalize FloatKind.f64.nearest z = X at *
      generalize FloatKind.f64.nearest ((s.size : Int) + z) = Y at *
      go_enter Tryz.func139, Tryz.ntmps139
      go_wp2_with (go_at_call 68; refine (cT _ hw0).mono ?_; rintro e w1 ⟨rfl, hb⟩)
      go_returns
      exact ⟨⟨_, hr, rfl⟩, hb⟩
    · have hmn := min_near (a := (s.size : Int)) (z := z) (by omega) (by omega) z1 z2
      have hbk := hback (min (s.size : Int) z) (by omega) (by omega)
      have hr : 0 ≤ min (s.size : Int) z ∧ min (s.size : Int) z ≤ s.size := by omega
      clear hback hm hself hx
      generalize FloatKind.f64.nearest (min (s.size : Int) z) = M at *
      generalize min (s.size : Int) z = r at *
      rcases Int.lt_or_eq_of_le hz with h | h
      · rw [cmp_gt h] at o0
        clear h hz
        generalize FloatKind.f64.nearest z = X at *
        go_enter Tryz.func139, Tryz.ntmps139
        go_wp2_with (go_at_call 68; refine (cT _ hw0).mono ?_; rintro e w1 ⟨rfl, hb⟩)
        go_returns
        exact ⟨⟨_, hr, rfl⟩, hb⟩
      · rw [(icmp_eq _ _).2 h.symm] at o0
        clear h hz
        generalize FloatKind.f64.nearest z = X at *
        go_enter Tryz.func139, Tryz.ntmps139
        go_wp2_with (go_at_call 68; refine (cT _ hw0).mono ?_; rintro e w1 ⟨rfl, hb⟩)
        go_returns
        exact ⟨⟨_, hr, rfl⟩, hb⟩
theorem placeB (s : ByteArray) (w : World) (hs : s.size ≤ 4096) (hw0 : 0 < w.heap.size) (x : Nat) (w1 : World) (hx : x < 18446744073709551616) (hm : mayF x = true) (hb : Below w.heap.size w w1) : Calls Tryz.prog 139 #[.string s, .float .f64 x] w1 fun e w' => (∃ z : Int, (0 ≤ z ∧ z ≤ s.size) ∧ e = .returned (.int .i64 z)) ∧ Below w.heap.size w w' :=
  (placeC s x w1 hs hx hm (by have := hb.size; omega)).mono fun e w' ⟨h, hb'⟩ => ⟨h, hb.trans (hb'.mono hb.size)⟩
theorem partV (s : ByteArray) (x y : Nat) (w : World) (hs : s.size ≤ 4096) (hx : x < 18446744073709551616) (hy : y < 18446744073709551616) (mx : mayF x = true) (my : mayF y = true) (hw0 : 0 < w.heap.size) : Calls Tryz.prog 104 #[.string s, .float .f64 x, .float .f64 y] w fun e w' => (∃ t : ByteArray, t.size ≤ 4096 ∧ e = .returned (.string t)) ∧ Below w.heap.size w w' := by
  have cX := fun w1 h => placeB s w hs hw0 x w1 hx mx h
  have cY := fun w1 h => placeB s w hs hw0 y w1 hy my h
  have hb0 : Below w.heap.size w w := Below.refl _ _
  by_cases hxy : x = y
  · subst hxy
    go_enter Tryz.func104, Tryz.ntmps104
    go_wp2_with (first
      | (go_at_call 139; refine (cX _ hb0).mono ?_; rintro e w1 ⟨⟨a, ⟨a1, a2⟩, rfl⟩, hb⟩; clear hb0)
      | (go_at_call 139; refine (cX _ hb).mono ?_; rintro e w2 ⟨⟨b, ⟨b1, b2⟩, rfl⟩, hb2⟩)
      | (rw [run_slice_string _ 9 s .i64 .i64 a b Tryz.underlying9 (by omega) (by omega) (by omega)]))
    all_goals go_returns
    all_goals exact ⟨⟨_, (by first | (simp only [ByteArray.size_extract]; omega) | decide), rfl⟩, hb2⟩
  · skip
    go_enter Tryz.func104, Tryz.ntmps104
    go_wp2_with (first
      | (go_at_call 139; refine (cX _ hb0).mono ?_; rintro e w1 ⟨⟨a, ⟨a1, a2⟩, rfl⟩, hb⟩; clear hb0)
      | (go_at_call 139; refine (cY _ hb).mono ?_; rintro e w2 ⟨⟨b, ⟨b1, b2⟩, rfl⟩, hb2⟩)
      | (rw [run_slice_string _ 9 s .i64 .i64 a b Tryz.underlying9 (by omega) (by omega) (by omega)]))
    all_goals go_returns
    all_goals exact ⟨⟨_, (by first | (simp only [ByteArray.size_extract]; omega) | decide), rfl⟩, hb2⟩
/-! ### str.Find -/
theorem idx : OfIdx P 138 1 := fun s t m w hs hm => Go.Proofs.Any.strings_Index { Go.Proofs.Tryz.laysM143 with } s t m w hs hm
theorem findV (s t : ByteArray) (m : Int) (w : World) (hs : s.size ≤ 4096) (hm : w.cell? ⟨1, 0, none⟩ = some (.int .i64 m)) : Calls Tryz.prog 102 #[.string s, .string t, .int .i64 0] w fun e w' => (∃ z : Int, (-1 ≤ z ∧ z ≤ 4096) ∧ e = .returned (.int .i64 z)) ∧ Below w.heap.size w w' := by
  have hb0 : Below w.heap.size w w := Below.refl _ _
  have hmn : ∀ w, (Builtin.min_ #[3, 3] 3 #[.int .i64 0, .int .i64 (s.size : Int)]).run Tryz.prog w = .ok (.int .i64 0) w := fun w => by
    have : ¬ ((s.size : Int) < 0) := by omega
    simp [Builtin.min_, Builtin.min2, this]
  have hmx : ∀ w, (Builtin.max_ #[3, 3] 3 #[.int .i64 0, .int .i64 0]).run Tryz.prog w = .ok (.int .i64 0) w := fun w => by
    simp [Builtin.max_, Builtin.max2]
  have cI := idx s t m w (by omega) hm
  have i1 := Lib.index_ge s.data.toList t.data.toList
  have i2 := index_leL s.data.toList t.data.toList
  have i3 : s.data.toList.length = s.size := Array.length_toList
  go_enter Tryz.func102, Tryz.ntmps102
  go_wp2_with (go_at_call 138; refine cI.mono ?_; rintro e w1 ⟨rfl, rfl⟩; generalize Lib.index s.data.toList t.data.toList = z at *)
  all_goals go_returns
  all_goals first
    | exact ⟨⟨z, ⟨by omega, by omega⟩, rfl⟩, hb0⟩
    | exact ⟨⟨-1, ⟨by omega, by omega⟩, rfl⟩, hb0⟩
/-! ### key.Index -/
def pw (k : Nat) : Int := match k with
  | 0 => 0
  | 1 => 9
  | 2 => 99
  | 3 => 999
  | _ => 9999
theorem pw_step {k : Nat} {z d : Int} (hk : k < 4) (hz : z ≤ pw k) (hd : d ≤ 9) : z * 10 + d ≤ pw (k + 1) := by
  match k, hk, hz with
  | 0, _, hz => have : z ≤ 0 := hz; show _ ≤ (9 : Int); omega
  | 1, _, hz => have : z ≤ 9 := hz; show _ ≤ (99 : Int); omega
  | 2, _, hz => have : z ≤ 99 := hz; show _ ≤ (999 : Int); omega
  | 3, _, hz => have : z ≤ 999 := hz; show _ ≤ (9999 : Int); omega
theorem pw_le (k : Nat) : pw k ≤ 9999 := by
  unfold pw
  split <;> decide
def RelI (s : ByteArray) (a i : Value) : Prop := ∃ (k : Nat) (z : Int), k ≤ s.size ∧ i = .int .i64 k ∧ a = .int .i64 z ∧ 0 ≤ z ∧ z ≤ pw k
def IxOut (w : World) (e : Ending) (w' : World) : Prop := (∃ z : Int, ∃ b : Bool, e = .returned (.tuple #[.int .i64 z, .bool b]) ∧ (-9223372036854775808 ≤ z ∧ z ≤ 9223372036854775807)) ∧ Below w.heap.size w w'
theorem ix_out {w : World} {z : Int} {b : Bool} {o : Obj} (h1 : -9223372036854775808 ≤ z) (h2 : z ≤ 9223372036854775807) : IxOut w (.returned (.tuple #[.int .i64 z, .bool b])) (w.alloc o) := ⟨⟨z, b, rfl, h1, h2⟩, (Below.refl w.heap.size w).alloc (Nat.le_refl _) _⟩
set_option maxHeartbeats 1600000 in
theorem indexV (s : ByteArray) (r : Int) (w : World) (hs : (s.size : Int) ≤ 9223372036854775807) : Calls Tryz.prog 113 #[.agg #[.string s, .int .i64 r]] w (IxOut w) := by
  go_enter Tryz.func113, Tryz.ntmps113
  go_wp2
  all_goals first
    | (go_ret2; exact ix_out (by decide) (by decide))
    | skip
  · skip
    have h4 : (s.size : Int) ≤ 4 := by assumption
    go_loop [4, 35] (fun a i => RelI s a i) (fun _ i => s.size - (intOf i).toNat)
    case atStart => exact ⟨0, 0, Nat.zero_le _, rfl, rfl, by omega, by decide⟩
    case round =>
      obtain ⟨k, z, hk, rfl, rfl, hz0, hz1⟩ := hrel
      have hz2 := pw_le k
      go_wp2
      all_goals first
        | (go_ret2; exact ix_out (by omega) (by omega))
        | (have hlt : k < s.size := by assumption
           have hdig : 48 ≤ (s[k].toNat : Int) ∧ (s[k].toNat : Int) ≤ 57 := by assumption
           have hnew : RelI s (.int .i64 (z * 10 + ((s[k].toNat : Int) - 48))) (.int .i64 ((k : Int) + 1)) := ⟨k + 1, _, by omega, by go_num, rfl, by omega, pw_step (by omega) hz1 (by omega)⟩
           first
             | exact ⟨⟨_, _, _, _, _, hnew, rfl, rfl, rfl, rfl, rfl⟩, by simp [intOf]; omega⟩
             | exact ⟨hnew, by simp [intOf]; omega⟩
             | exact ⟨⟨_, _, _, _, hnew, rfl, rfl, rfl, rfl⟩, by simp [intOf]; omega⟩
             | exact ⟨⟨_, _, _, _, _, _, hnew, rfl, rfl, rfl, rfl, rfl, rfl⟩, by simp [intOf]; omega⟩)
  · skip
    have h4 : (s.size : Int) ≤ 4 := by assumption
    go_loop [4, 35] (fun a i => RelI s a i) (fun _ i => s.size - (intOf i).toNat)
    case atStart => exact ⟨0, 0, Nat.zero_le _, rfl, rfl, by omega, by decide⟩
    case round =>
      obtain ⟨k, z, hk, rfl, rfl, hz0, hz1⟩ := hrel
      have hz2 := pw_le k
      go_wp2
      all_goals first
        | (go_ret2; exact ix_out (by omega) (by omega))
        | (have hlt : k < s.size := by assumption
           have hdig : 48 ≤ (s[k].toNat : Int) ∧ (s[k].toNat : Int) ≤ 57 := by assumption
           have hnew : RelI s (.int .i64 (z * 10 + ((s[k].toNat : Int) - 48))) (.int .i64 ((k : Int) + 1)) := ⟨k + 1, _, by omega, by go_num, rfl, by omega, pw_step (by omega) hz1 (by omega)⟩
           first
             | exact ⟨⟨_, _, _, _, _, hnew, rfl, rfl, rfl, rfl, rfl⟩, by simp [intOf]; omega⟩
             | exact ⟨hnew, by simp [intOf]; omega⟩
             | exact ⟨⟨_, _, _, _, hnew, rfl, rfl, rfl, rfl⟩, by simp [intOf]; omega⟩
             | exact ⟨⟨_, _, _, _, _, _, hnew, rfl, rfl, rfl, rfl, rfl, rfl⟩, by simp [intOf]; omega⟩)
/-! ### key.Sym -/
theorem symV (n : Int) (w : World) : Calls Tryz.prog 140 #[.int .i64 n] w fun e w' => (∃ z : Int, e = .returned (.agg #[.string ByteArray.empty, .int .i64 z]) ∧ (-9223372036854775808 ≤ z ∧ z ≤ 9223372036854775807)) ∧ Below w.heap.size w w' := by
  go_enter Tryz.func140, Tryz.ntmps140
  go_wp2
  all_goals go_returns
  all_goals refine ⟨⟨_, rfl, ?_⟩, (Below.refl w.heap.size w).alloc (Nat.le_refl _) _⟩
  all_goals first | decide | (unfold wrap64; omega)
end Go.Proofs.YtaecedlhiclkdaaGreatDoor.Lp
