/- LibPlain: what is walked, as contracts; the functions of each name. No condition. -/
import Derived.Test.YtaecedlhiclkdaaGreatDoorLpC
import Derived.Test.YtaecedlhiclkdaaGreatDoorLpW
namespace Go.Proofs.YtaecedlhiclkdaaGreatDoor.Lp
open Go Vx Con RowKit
set_option linter.unusedVariables false
set_option linter.constructorNameAsVariable false
set_option maxRecDepth 100000

/-! ### slices.Contains: some boolean -/
noncomputable def isS (a : AV) : Bool := match a with
  | .s _ _ => true
  | _ => false
def strOf (a : AV) : ByteArray := match a with
  | .s l x => str l x
  | _ => ByteArray.empty
theorem isS_ok {E : Env} {a : AV} {V : Value} (h : isS a = true) (r : Rv E a V) : V = .string (strOf a) := by
  unfold isS at h
  split at h <;> try (cases h; done)
  rw [Rv] at r; exact r
noncomputable def preK (args : List AV) (h : Heap) : Bool := match args with
  | [.sl id 0 n _, v] => (match T.get .gone h id with
    | .cells m _ c => bc (bc (Nat.ble n m) (Nat.ble n 1000) false) (bc ((List.range n).all fun j => isS (c.get j)) (asS v fun _ => true) false) false
    | _ => false)
  | _ => false
noncomputable def altB (_ : Nat) : List Alt := [(0, [], .b true), (0, [], .b false)]
theorem bool_alt (b : Bool) (n : Nat) : ∃ p ∈ altB n, ∃ Vs, Vs.length = p.1 ∧ Tells n Vs p.2.1 p.2.2 (.bool b) := by
  cases b
  · exact ⟨_, List.mem_cons_of_mem _ List.mem_cons_self, [], rfl, (fun U hU => by cases hU), fun E _ => ⟨by rw [Rv], holds_nil⟩⟩
  · exact ⟨_, List.mem_cons_self, [], rfl, (fun U hU => by cases hU), fun E _ => ⟨by rw [Rv], holds_nil⟩⟩
theorem contK_ok : CtOK P 24 (gapC preK altB) := by
  refine gapC_ok fun args ARGS E h nx w hp ra hr => ?_
  unfold preK at hp
  split at hp <;> try (cases hp; done)
  rename_i id n cp v
  split at hp <;> try (cases hp; done)
  rename_i m es c hg
  obtain ⟨h1, hp⟩ := bc_and hp
  obtain ⟨h1, h2⟩ := bc_and h1
  obtain ⟨h3, hv⟩ := bc_and hp
  have h1 := Nat.le_of_ble_eq_true h1
  have h2 := Nat.le_of_ble_eq_true h2
  obtain ⟨X, Y, hA, rx, ry⟩ := ra.two
  have hA : ARGS = #[X, Y] := by apply Array.ext'; simpa using hA
  subst hA
  rw [Rv] at rx
  obtain ⟨L, eL, rfl⟩ := rx
  obtain ⟨e, s, rfl, hs, ds, _⟩ := asS_ok hv ry
  have ho := hr.obj id
  rw [hg] at ho
  obtain ⟨L', arr, el, eL', hb, hsz, _, hc⟩ := ho
  rw [eL] at eL'; cases eL'
  have cell : ∀ j, j < ((List.range n).map fun j => strOf (c.get j)).length → w.cell? ⟨L.blk, L.base + 0 + j, none⟩ = some (.string (((List.range n).map fun j => strOf (c.get j)).getD j ByteArray.empty)) := fun j hj => by
    rw [List.length_map, List.length_range] at hj
    have hlt : L.base + j < arr.size := by omega
    have hV := isS_ok (List.all_eq_true.1 h3 j (List.mem_range.2 hj)) (hc j (by omega))
    have e1 : ((List.range n).map fun j => strOf (c.get j)).getD j ByteArray.empty = strOf (c.get j) := by
      simp [List.getD, List.getElem?_map, List.getElem?_range hj]
    rw [e1, ← hV, Nat.add_zero]
    simp only [World.cell?, hb]
    simp [hlt]
  refine ⟨by have := (Array.getElem?_eq_some_iff.1 hb).1; omega, (Go.Proofs.Any.slices_Contains_string { Go.Proofs.Tryz.lays110 with } L.blk (L.base + 0) n cp ((List.range n).map fun j => strOf (c.get j)) s w (by rw [List.length_map, List.length_range]; exact Nat.le_refl _) (by omega) cell).mono ?_⟩
  rintro e w' ⟨rfl, rfl⟩
  exact ⟨⟨_, rfl, bool_alt _⟩, Below.refl _ _⟩
/-! ### str.Part, str.Find, key.Index, key.Sym -/
noncomputable def preP (args : List AV) (h : Heap) : Bool := match args with
  | [s, x, y] => bc (hasTab 2 h) (asS s fun c => asF x fun a => asF y fun b => bc (short (factsOf h) c) (bc (mNum (factsOf h) a) (mNum (factsOf h) b) false) false) false
  | _ => false
theorem partC_ok : CtOK P 104 (gapC preP altT) := by
  refine gapC_ok fun args ARGS E h n w hp ra hr => ?_
  unfold preP at hp
  split at hp <;> try (cases hp; done)
  rename_i s x y
  obtain ⟨h1, hv⟩ := bc_and hp
  obtain ⟨ht, hs⟩ := tableIn_of h1 hr
  simp only [RvL] at ra
  obtain ⟨S, _, e1, rs, X, _, rfl, rx, Y, _, rfl, ry, rfl⟩ := ra
  obtain ⟨c, s', rfl, hs', dc, hv⟩ := asS_ok hv rs
  obtain ⟨a, x', rfl, hx, da, hv⟩ := asF_ok hv rx
  obtain ⟨b, y', rfl, hy, db, hv⟩ := asF_ok hv ry
  obtain ⟨k1, hv⟩ := bc_and hv
  obtain ⟨k2, k3⟩ := bc_and hv
  have l := short_ok (factsOf_ok hr) dc k1
  have m1 := mNum_ok (factsOf_ok hr) da k2
  have m2 := mNum_ok (factsOf_ok hr) db k3
  have hA : ARGS = #[.string s', .float .f64 x', .float .f64 y'] := by apply Array.ext'; rw [e1]
  rw [hA]
  refine ⟨hs, (partV s' x' y' w (by omega) hx hy m1 m2 hs).mono ?_⟩
  rintro e w' ⟨⟨t, ht, rfl⟩, hb⟩
  exact ⟨⟨_, rfl, text_alt (by omega)⟩, hb⟩
noncomputable def preF (args : List AV) (h : Heap) : Bool := match args with
  | [s, x, .i .i64 0] => bc (hasTab 2 h) (someInt h 1 (asS s fun c => asS x fun _ => short (factsOf h) c)) false
  | _ => false
noncomputable def altZ (n : Nat) : List Alt := [(1, [(.cmp .leq (.sy n) (.li .i64 4096), true), (.cmp .leq (.sy n) (.li .i64 (-2)), false)], .x (.i .i64) (.sy n))]
theorem findC_ok : CtOK P 102 (gapC preF altZ) := by
  refine gapC_ok fun args ARGS E h n w hp ra hr => ?_
  unfold preF at hp
  split at hp <;> try (cases hp; done)
  rename_i s x
  obtain ⟨h1, hv⟩ := bc_and hp
  obtain ⟨ht, hs⟩ := tableIn_of h1 hr
  obtain ⟨hv, m, hm⟩ := someInt_ok hv hr
  simp only [RvL] at ra
  obtain ⟨S, _, e1, rs, X, _, rfl, rx, Y, _, rfl, ry, rfl⟩ := ra
  obtain ⟨c, s', rfl, hs', dc, hv⟩ := asS_ok hv rs
  obtain ⟨a, x', rfl, hx, da, k1⟩ := asS_ok hv rx
  rw [Rv] at ry
  have l := short_ok (factsOf_ok hr) dc k1
  have hA : ARGS = #[.string s', .string x', .int .i64 0] := by apply Array.ext'; rw [e1, ry]
  rw [hA]
  refine ⟨hs, (findV s' x' m w (by omega) hm).mono ?_⟩
  rintro e w' ⟨⟨z, ⟨z1, z2⟩, rfl⟩, hb⟩
  refine ⟨⟨_, rfl, fun n => ⟨_, List.mem_cons_self, [.int .i64 z], rfl, (fun U hU => ?_), fun E' hd => ?_⟩⟩, hb⟩
  · rcases List.mem_singleton.1 hU with rfl
    exact sok_i _ _
  · have d : den E' (.sy n) = some (.int .i64 z) := hd 0 _ rfl
    exact ⟨by rw [Rv]; exact ⟨d, z, rfl, by show (-9223372036854775808 : Int) ≤ z; omega, by show z ≤ (9223372036854775807 : Int); omega⟩, holds_cons ((fact_le d).trans (by rw [decide_eq_true z2])) (holds_cons ((fact_le d).trans (by rw [decide_eq_false (by omega)])) holds_nil)⟩
noncomputable def preI (args : List AV) (h : Heap) : Bool := match args with
  | [.ag [s, r]] => bc (hasTab 2 h) (asS s fun _ => asI .i64 r fun _ => true) false
  | _ => false
noncomputable def altI (n : Nat) : List Alt := [(1, [], .tu [.x (.i .i64) (.sy n), .b true]), (1, [], .tu [.x (.i .i64) (.sy n), .b false])]
theorem indexC_ok : CtOK P 113 (gapC preI altI) := by
  refine gapC_ok fun args ARGS E h n w hp ra hr => ?_
  unfold preI at hp
  split at hp <;> try (cases hp; done)
  rename_i s r
  obtain ⟨h1, hv⟩ := bc_and hp
  obtain ⟨ht, hs⟩ := tableIn_of h1 hr
  obtain ⟨V, hA, rx⟩ := ra.one
  rw [Rv] at rx
  obtain ⟨vs, rfl, rx⟩ := rx
  simp only [RvL] at rx
  obtain ⟨S, _, rfl, rs, R, _, rfl, rr, rfl⟩ := rx
  obtain ⟨c, s', rfl, hs', dc, hv⟩ := asS_ok hv rs
  obtain ⟨d, m, rfl, m1, m2, dd, _⟩ := asI_ok hv rr
  have hA : ARGS = #[.agg #[.string s', .int .i64 m]] := by apply Array.ext'; rw [hA]
  rw [hA]
  refine ⟨hs, (indexV s' m w hs').mono ?_⟩
  rintro e w' ⟨⟨z, b, rfl, z1, z2⟩, hb⟩
  refine ⟨⟨_, rfl, fun n => ?_⟩, hb⟩
  have go : ∀ E' : Env, (∀ j U, [Value.int .i64 z][j]? = some U → den E' (.sy (n + j)) = some U) → Rv E' (.tu [.x (.i .i64) (.sy n), .b b]) (.tuple #[.int .i64 z, .bool b]) := fun E' hd => by
    have d : den E' (.sy n) = some (.int .i64 z) := hd 0 _ rfl
    rw [Rv]
    exact ⟨_, rfl, rvl_cons (by rw [Rv]; exact ⟨d, z, rfl, z1, z2⟩) (rvl_cons (by rw [Rv]) rvl_nil)⟩
  have ok : ∀ U ∈ [Value.int .i64 z], symOK U := fun U hU => by
    rcases List.mem_singleton.1 hU with rfl
    exact sok_i _ _
  cases b
  · exact ⟨_, List.mem_cons_of_mem _ List.mem_cons_self, [.int .i64 z], rfl, ok, fun E' hd => ⟨go E' hd, holds_nil⟩⟩
  · exact ⟨_, List.mem_cons_self, [.int .i64 z], rfl, ok, fun E' hd => ⟨go E' hd, holds_nil⟩⟩
noncomputable def preS (args : List AV) (h : Heap) : Bool := match args with
  | [r] => bc (hasTab 2 h) (asI .i64 r fun _ => true) false
  | _ => false
noncomputable def altS (n : Nat) : List Alt := [(1, [], .ag [.s 0 0, .x (.i .i64) (.sy n)])]
theorem symK_ok : CtOK P 140 (gapC preS altS) := by
  refine gapC_ok fun args ARGS E h n w hp ra hr => ?_
  unfold preS at hp
  split at hp <;> try (cases hp; done)
  rename_i r
  obtain ⟨h1, hv⟩ := bc_and hp
  obtain ⟨ht, hs⟩ := tableIn_of h1 hr
  obtain ⟨V, hA, rr⟩ := ra.one
  obtain ⟨d, m, rfl, m1, m2, dd, _⟩ := asI_ok hv rr
  have hA : ARGS = #[.int .i64 m] := by apply Array.ext'; rw [hA]
  rw [hA]
  refine ⟨hs, (symV m w).mono ?_⟩
  rintro e w' ⟨⟨z, rfl, z1, z2⟩, hb⟩
  refine ⟨⟨_, rfl, fun n => ⟨_, List.mem_cons_self, [.int .i64 z], rfl, (fun U hU => ?_), fun E' hd => ?_⟩⟩, hb⟩
  · rcases List.mem_singleton.1 hU with rfl
    exact sok_i _ _
  · have d : den E' (.sy n) = some (.int .i64 z) := hd 0 _ rfl
    exact ⟨by rw [Rv]; exact ⟨_, rfl, rvl_cons (by rw [Rv]; rfl) (rvl_cons (by rw [Rv]; exact ⟨d, z, rfl, z1, z2⟩) rvl_nil)⟩, holds_nil⟩
noncomputable def SD : Specs := fun g => match g with
  | 97 => some ledC
  | 99 => some textVC
  | 102 => some (gapC preF altZ)
  | 104 => some (gapC preP altT)
  | 113 => some (gapC preI altI)
  | 140 => some (gapC preS altS)
  | 24 => some (gapC preK altB)
  | g => S3 g
theorem SD_ok : SpecOK P SD := by
  intro g C hC
  unfold SD at hC
  split at hC
  · cases hC; exact ledC_ok
  · cases hC; exact textVC_ok
  · cases hC; exact findC_ok
  · cases hC; exact partC_ok
  · cases hC; exact indexC_ok
  · cases hC; exact symK_ok
  · cases hC; exact contK_ok
  · exact S3_ok _ C hC
noncomputable def cD : CallF := run SD 40
theorem cD_ok : CallOK P cD := run_ok SD_ok 40
/-! ### The symbols: 7 .. 26: a table's words; 27, 28: how many arguments there are, their capacity; 29 .. 32: this; 33: the name; 36 ..: the arguments' cells, four each -/
noncomputable def GB7 : List (Nat × List AV) := [(2, tabAVs 20 7), (1, [.ii .i64])]
noncomputable def LA (m : Nat) : AV := .sx 6 m (.sy 27) (.sy 28)
noncomputable def LN (n C : Nat) : AV := .sl 6 0 n C
noncomputable def aN (j : Nat) : Nat := Nat.add 36 (Nat.mul 4 j)
noncomputable def argCells (n : Nat) : List AV := Nat.rec (motive := fun _ => List AV) [] (fun j ih => ih ++ vS (aN j)) n
noncomputable def hA (n : Nat) (fs : Facts) : Heap := T.set (.facts fs) (T.set (.glob 1000000 (Nat.mul 4 n) (wrLs (argCells n) big 0)) (startH GB7 7) 6) fplace
noncomputable def hB (fs : Facts) : Heap := T.set (.facts fs) (startH GB7 7) fplace
noncomputable def lenF (k : Nat) (b : Bool) : SE × Bool := (.cmp .leq (.sy 27) (.li .i64 (Int.ofNat k)), b)
/-- of a value that is no object -/
noncomputable def plainF (n : Nat) : Facts := [(mA n, true), (.cmp .leq (.sy n) (.li .u8 5), true), (.cmp .leq (.len (.sy (Nat.add n 2))) (.li .i64 4096), true)]
noncomputable def nmD (i : Nat) : AV := match i with
  | 0 => .s 13 9616766067279225029427490615873
  | 1 => .s 20 596309856174260634316825556499271401688676856385
  | 2 => .s 7 31069335677005634
  | 3 => .s 26 166207685304630610174564835826932801060412937484197273394966338
  | 4 => .s 25 642211169184493263152962095210280038101036097405936552865602
  | 5 => .s 24 2536128010629739535134351132613110367743117332234781225541
  | 6 => .s 6 125779768603982
  | 7 => .s 25 649248770721213320994393889948956254142238037052060775314766
  | 8 => .s 24 2508637379626926809191258184415156398832172259907115775310
  | 9 => .s 31 214592181531126938265813067436895272602359618957174226357437134853129265743
  | 10 => .s 25 649248770721213320994393889948956254142238037054251258765903
  | 11 => .s 24 2508637379626926809191258184415156398832172262097599226447
  | 12 => .s 6 113723913172051
  | 13 => .s 24 2508644464941481440469878704902993814576718591222950818899
  | 14 => .s 22 37933876859468703893492994087692075084804967040709715
  | 15 => .s 25 649248770721213320994393889948956254142238037040004919882835
  | 16 => .s 24 2508637379626926809191258184415156398832172247851260343379
  | 17 => .s 25 649248770721213320994393889948956254142238037045506655222099
  | 18 => .s 24 2508637379626926809191258184415156398832172253352995682643
  | _ => .x .s (.sy 33)
noncomputable def nameF : Facts := [(.cmp .eql (.sy 33) (.ls 5 500068610672), false), (.cmp .eql (.sy 33) (.ls 6 119225648511315), false), (.cmp .eql (.sy 33) (.ls 5 491496043077), false), (.cmp .eql (.sy 33) (.ls 9 2110959431130824079700), false), (.cmp .eql (.sy 33) (.ls 10 540405614369490812690770), false), (.cmp .eql (.sy 33) (.ls 14 2321024440291750412453479946020178), false), (.cmp .eql (.sy 33) (.ls 23 10384894829997252900022282660548305127664314741467018566), false), (.cmp .eql (.sy 33) (.ls 24 2977297780435141287948266461803621789076004716711771010374), false), (.cmp .eql (.sy 33) (.ls 13 9616766067279225029427490615873), false), (.cmp .eql (.sy 33) (.ls 20 596309856174260634316825556499271401688676856385), false), (.cmp .eql (.sy 33) (.ls 7 31069335677005634), false), (.cmp .eql (.sy 33) (.ls 26 166207685304630610174564835826932801060412937484197273394966338), false), (.cmp .eql (.sy 33) (.ls 25 642211169184493263152962095210280038101036097405936552865602), false), (.cmp .eql (.sy 33) (.ls 24 2536128010629739535134351132613110367743117332234781225541), false), (.cmp .eql (.sy 33) (.ls 6 125779768603982), false), (.cmp .eql (.sy 33) (.ls 25 649248770721213320994393889948956254142238037052060775314766), false), (.cmp .eql (.sy 33) (.ls 24 2508637379626926809191258184415156398832172259907115775310), false), (.cmp .eql (.sy 33) (.ls 31 214592181531126938265813067436895272602359618957174226357437134853129265743), false), (.cmp .eql (.sy 33) (.ls 25 649248770721213320994393889948956254142238037054251258765903), false), (.cmp .eql (.sy 33) (.ls 24 2508637379626926809191258184415156398832172262097599226447), false), (.cmp .eql (.sy 33) (.ls 6 113723913172051), false), (.cmp .eql (.sy 33) (.ls 24 2508644464941481440469878704902993814576718591222950818899), false), (.cmp .eql (.sy 33) (.ls 22 37933876859468703893492994087692075084804967040709715), false), (.cmp .eql (.sy 33) (.ls 25 649248770721213320994393889948956254142238037040004919882835), false), (.cmp .eql (.sy 33) (.ls 24 2508637379626926809191258184415156398832172247851260343379), false), (.cmp .eql (.sy 33) (.ls 25 649248770721213320994393889948956254142238037045506655222099), false), (.cmp .eql (.sy 33) (.ls 24 2508637379626926809191258184415156398832172253352995682643), false)]
noncomputable def fN (i : Nat) : Facts := Bool.rec (motive := fun _ => Facts) [] nameF (Nat.ble 19 i)
/-- how many arguments: nil, or so many -/
noncomputable def slD (c : Nat) : AV := match c with
  | 0 => .sn
  | Nat.succ n => .so 6 0 n 0
noncomputable def hD (c i : Nat) : Heap := match c with
  | 0 => hB (fN i ++ plainF 29)
  | 1 => hB (fN i ++ plainF 29)
  | 2 => hA 1 (fN i ++ plainF 29 ++ plainF 36)
  | _ => hA 2 (fN i ++ plainF 29 ++ plainF 36 ++ plainF 40)
noncomputable def doK (c i : Nat) (a : AV) : Bool := cD 30 [.ag [.p 5 0, a, .x .f (.sy 30), .x .s (.sy 31), .x (.i .i64) (.sy 32), slD c], nmD i] (hD c i) 292 fun v h _ => finO [0] v h
/-- Object.prototype.toString asks each kind by itself -/
noncomputable def doR (c i : Nat) : Bool := match i with
  | 10 => (List.range 6).all fun k => doK c 10 (.i .u8 (Int.ofNat k))
  | i => doK c i (.x (.i .u8) (.sy 29))
end Go.Proofs.YtaecedlhiclkdaaGreatDoor.Lp
