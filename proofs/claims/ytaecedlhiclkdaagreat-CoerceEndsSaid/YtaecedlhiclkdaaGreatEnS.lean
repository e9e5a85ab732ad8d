/- CoerceEnds: the states of the loop's heads. No condition. -/
import Derived.Test.YtaecedlhiclkdaaGreatEnB
namespace Go.Proofs.YtaecedlhiclkdaaGreat.En
open Go Vx Con
set_option linter.unusedVariables false
set_option linter.constructorNameAsVariable false
set_option maxRecDepth 100000

/-! ### The law's own code -/
noncomputable def cF : Code := match Tryz.f3.body with
  | some c => c
  | none => .skip
noncomputable def cl : Code := (loopsOf cF).headD .skip
noncomputable def cE : CallF := run SQ 40
theorem cE_ok : CallOK P cE := run_ok SQ_ok 40
noncomputable def DR : DrawF := evDraw PP XT cE
theorem DR_ok : DrawOK P DR := evDraw_ok mixed XT_ok _ cE_ok
theorem hb : Tryz.f3.body = some cF := by kernel_rfl
theorem hc : loopsOf cF = [cl] := by kernel_rfl
theorem hn : loopsOf cl = [] := by kernel_rfl
/-! ### The symbols: the table's cells 7 .. 26; v 27 .. 30; w 31 .. 34; of answer j: what is given (kind, value) 35 + 9 j .., what is taken 40 + 9 j ..; the list's length, its capacity; the hint -/
noncomputable def GL : List (Nat × List AV) := [(4, tabAVs 20 7)]
noncomputable def mA (n : Nat) : SE := .fn 10 (packV (.sy n) (.sy (Nat.add n 1)) (.sy (Nat.add n 2)) (.sy (Nat.add n 3)))
noncomputable def eN (j : Nat) : Nat := Nat.add 40 (Nat.mul 9 j)
noncomputable def rN (j : Nat) : Nat := Nat.add 35 (Nat.mul 9 j)
noncomputable def LV (m : Nat) : AV := .sx 6 m (.sy 125) (.sy 126)
/-- a state: how many answers there are (the last is o), is it thrown, what was wanted, what is known of the answers before the last, the states that may follow -/
structure St where
  k : Nat
  thr : Bool
  kd : Int
  md : Int
  nd : List (Nat × Int × Bool)
  nx : List Nat
noncomputable def ndF (l : List (Nat × Int × Bool)) : Facts := l.map fun p => (.cmp .leq (.sy p.1) (.li .u8 p.2.1), p.2.2)
/-- what is known of a value: an object, or none -/
noncomputable def vF (n : Nat) (o : Bool) : Facts := [(mA n, true), (.cmp .leq (.sy n) (.li .u8 5), !o), (.cmp .leq (.sy n) (.li .u8 8), true)]
/-- what is known of the answers -/
noncomputable def ansF (n : Nat) : Facts := Nat.rec (motive := fun _ => Facts) [] (fun j ih => (mA (eN j), true) :: (.cmp .leq (.sy (eN j)) (.li .u8 8), true) :: ih) n
noncomputable def outC (kd : Int) (v : List AV) : List AV := .i .u8 kd :: v ++ restZ ++ [.i .u8 0, .s 0 0]
noncomputable def ansR (n : Nat) : List AV := Nat.rec (motive := fun _ => List AV) [] (fun j ih => ih ++ outC 1 (vS (eN j))) n
noncomputable def NK (k : Nat) : Nat := Nat.add 400 (Nat.mul 400 k)
noncomputable def oC (s : St) : List AV := match s.k with
  | 0 => outC 0 [.i .u8 0, .f .f64 0, .s 0 0, .i .i64 0]
  | k + 1 => outC (if s.thr then 2 else 1) (vS (eN k))
noncomputable def ansV (k : Nat) : AV := match k with
  | 0 => .sn
  | 1 => .sn
  | k + 2 => .so (Nat.add (NK (k + 1)) 14) 0 (k + 1) 0
noncomputable def ansRow (k : Nat) : Vx.Rows := match k with
  | 0 => []
  | 1 => []
  | k + 2 => [(Nat.add (NK (k + 1)) 14, ⟨Nat.mul 26 (k + 1), ⟨26, some 35, true⟩, 26, ansR (k + 1)⟩)]
/-- a head: self is the step that is gone through -/
noncomputable def canS (self : AV) (L : AV) (s : St) : Vx.Can := ⟨[(4, L), (7, .p 128 0), (8, .p 129 0), (10, .b false), (11, .b true), (12, .p 133 0), (13, .i .i64 0), (14, .p 134 0), (15, .i .i64 (Int.ofNat s.k)), (16, .i .i64 (Int.ofNat s.k))],
  [(128, ⟨4, ⟨0, some 24, true⟩, 4, vS 27⟩), (129, ⟨4, ⟨0, some 24, true⟩, 4, vS 31⟩), (133, ⟨1, ⟨0, some 76, true⟩, 1, [.p 132 0]⟩),
   (132, ⟨6, ⟨0, some 93, true⟩, 6, [.fn (.method "bailiff/coerce.do") [self] [], ansV s.k, .i .u8 s.kd, .i .u8 s.md, .b (Nat.ble 1 s.k), .b false]⟩),
   (134, ⟨26, ⟨0, some 35, true⟩, 26, oC s⟩)] ++ ansRow s.k, NK s.k⟩
/-- cells told otherwise, where answer k is read -/
noncomputable def gwS (k : Nat) : GWk :=
  let r := rN k
  let e := eN k
  let eq1 : SE := .cmp .eql (.sy r) (.li .u8 1)
  let eq2 : SE := .cmp .eql (.sy r) (.li .u8 2)
  let my : SE := mA (Nat.add r 1)
  let lk : SE := .cmp .leq (.sy 125) (.li .i64 (Int.ofNat k))
  let pr (g : Facts) (v : List AV) : GWk := List.zipWith (fun a b => (g, a, b)) v (vS e)
  let zv : List AV := [.i .u8 0, .f .f64 0, .s 0 0, .i .i64 0]
  [([], LV (k + 1), LV 0), ([(eq1, true)], .x (.i .u8) (.sy r), .i .u8 1), ([(eq2, true)], .x (.i .u8) (.sy r), .i .u8 2)]
    ++ pr [(eq1, true), (my, true)] (vS (Nat.add r 1)) ++ pr [(eq2, true), (my, true)] (vS (Nat.add r 1))
    ++ pr [(lk, true)] zv ++ pr [(eq1, false), (eq2, false)] zv ++ pr [(my, false)] zv
/-- the heaps: the list's element k is there; nothing of the list is told -/
noncomputable def hNo (fs : Facts) : Heap := T.set (.facts fs) (startH GL 7) fplace
noncomputable def elC (k : Nat) : T AV := wrLs (.x (.i .u8) (.sy (rN k)) :: vS (Nat.add (rN k) 1)) big (Nat.mul 26 k)
noncomputable def hEl (k : Nat) (fs : Facts) : Heap := T.set (.facts fs) (T.set (.glob 1000000 (Nat.mul 26 (Nat.succ k)) (elC k)) (startH GL 7) 6) fplace
noncomputable def lenF (k : Nat) (b : Bool) : SE × Bool := (.cmp .leq (.sy 125) (.li .i64 (Int.ofNat k)), b)
/-- a configuration -/
structure Cfg where
  self : AV
  fs : Facts
  ex : List (Nat × Int × Bool)
  sts : List St
  kind : AV
  hint : AV
noncomputable def st0 : St := ⟨0, false, 0, 0, [], []⟩
noncomputable def nthS (l : List St) (i : Nat) : St := List.rec (motive := fun _ => Nat → St) (fun _ => st0) (fun a _ ih i => Nat.rec (motive := fun _ => St) a (fun i _ => ih i) i) l i
/-- what is asked at a head; what is known in its round -/
noncomputable def needS (c : Cfg) (s : St) : Facts := ndF (s.nd ++ Bool.rec [] c.ex (Nat.ble 1 s.k))
noncomputable def facS (c : Cfg) (s : St) : Facts := needS c s ++ c.fs ++ ansF s.k
noncomputable def goR (h : Heap) (cn : Vx.Can) (J : S) : Bool := roundB P cE XT DR Tryz.f3.ntmps cl h cn J (retT P Tryz.f3)
/-- where a round comes to -/
noncomputable def toS (c : Cfg) (s : St) : S := atAnyG 7 128 (gwS s.k) (fun i => canS c.self (LV 0) (nthS c.sts i)) (fun i => needS c (nthS c.sts i)) s.nx
noncomputable def rdT (c : Cfg) (i : Nat) : Bool := let s := nthS c.sts i; goR (hNo (facS c s)) (canS c.self (LV 0) s) noK
noncomputable def rdP (c : Cfg) (i : Nat) : Bool := let s := nthS c.sts i; goR (hEl s.k (lenF s.k false :: facS c s)) (canS c.self (LV (Nat.succ s.k)) s) (toS c s)
noncomputable def rdL (c : Cfg) (i : Nat) : Bool := let s := nthS c.sts i; goR (hNo (lenF s.k true :: facS c s)) (canS c.self (LV 0) s) (toS c s)
noncomputable def argsC (c : Cfg) (L : AV) : List AV := [c.kind, c.hint, .ag (vS 27), .ag (vS 31), L]
noncomputable def fstC (c : Cfg) : Bool := evCodeJ P cE XT DR Tryz.f3.ntmps (atAny 7 128 [] (fun i => canS c.self (LV 0) (nthS c.sts i)) (fun i => needS c (nthS c.sts i)) [0]) cF (retT P Tryz.f3) (fun _ => noK) (retT P Tryz.f3) (wrLs (argsC c (LV 0)) big 0) (hNo c.fs) 128
/-- the beginning does not come to the loop: the kind is none; the hint is none; a value may not be -/
noncomputable def badC (fs : Facts) : Bool := setF fs (startH [] 1) fun h => cE 3 [.x (.i .u8) (.sy 1), .x (.i .u8) (.sy 2), .ag (vS 3), .ag (vS 7), .any] h 11 fun v h _ => finT v h
noncomputable def kF (k : Int) : SE × Bool := (.cmp .eql (.sy 1) (.li .u8 k), false)
noncomputable def badK (k : Int) (fs : Facts) : Bool := setF fs (startH [] 1) fun h => cE 3 [.i .u8 k, .x (.i .u8) (.sy 2), .ag (vS 3), .ag (vS 7), .any] h 11 fun v h _ => finT v h
/-- what holds of a configuration's states -/
noncomputable def isE (l : List Nat) : Bool := match l with
  | [] => true
  | _ => false
def symB (n : Nat) : Bool := n == 27 || n == 31 || (40 ≤ n && n < 130 && (n - 40) % 9 == 0)
noncomputable def chkB (c : Cfg) : Bool := Nat.blt 0 c.sts.length && (c.ex.all (fun p => symB p.1) && (c.sts.all fun s => s.nd.all (fun p => symB p.1) && Nat.ble s.k 10 && (isE s.nx || Nat.blt s.k 10)) && ((List.range c.sts.length).all fun i => (nthS c.sts i).nx.all fun j => Nat.blt i j && Nat.blt j c.sts.length))
/-- no list is given -/
noncomputable def nilC (c : Cfg) : Bool := setF c.fs (startH GL 7) fun h => cE 3 (argsC c .sn) h 128 fun v h _ => finT v h
noncomputable def cPa0 : Cfg := ⟨.ifc 63 (.ag (vS 27 ++ [.i .u8 0])), vF 27 true, [],
  [⟨0, false, 0, 0, [], [1, 2]⟩,
   ⟨1, false, 1, 8, [], [3, 4, 5, 6]⟩,
   ⟨1, true, 1, 8, [], []⟩,
   ⟨2, false, 1, 8, [(40, 1, true)], [7, 8, 9, 10]⟩,
   ⟨2, true, 1, 8, [(40, 1, true)], []⟩,
   ⟨2, false, 2, 0, [(40, 6, false)], []⟩,
   ⟨2, true, 2, 0, [(40, 6, false)], []⟩,
   ⟨3, false, 2, 0, [(40, 1, true), (49, 6, false)], [11, 12]⟩,
   ⟨3, true, 2, 0, [(40, 1, true), (49, 6, false)], []⟩,
   ⟨3, false, 1, 8, [(40, 1, true), (49, 6, true)], [13, 14]⟩,
   ⟨3, true, 1, 8, [(40, 1, true), (49, 6, true)], []⟩,
   ⟨4, false, 1, 8, [(40, 1, true), (49, 6, false), (58, 5, false)], [15, 16]⟩,
   ⟨4, true, 1, 8, [(40, 1, true), (49, 6, false), (58, 5, false)], []⟩,
   ⟨4, false, 2, 0, [(40, 1, true), (49, 6, true), (58, 6, false)], []⟩,
   ⟨4, true, 2, 0, [(40, 1, true), (49, 6, true), (58, 6, false)], []⟩,
   ⟨5, false, 2, 0, [(40, 1, true), (49, 6, false), (58, 5, false), (67, 6, false)], []⟩,
   ⟨5, true, 2, 0, [(40, 1, true), (49, 6, false), (58, 5, false), (67, 6, false)], []⟩],
  .i .u8 1, .i .u8 0⟩
noncomputable def cPa1 : Cfg := ⟨.ifc 63 (.ag (vS 27 ++ [.i .u8 1])), vF 27 true, [],
  [⟨0, false, 0, 0, [], [1, 2]⟩,
   ⟨1, false, 1, 8, [], [3, 4, 5, 6]⟩,
   ⟨1, true, 1, 8, [], []⟩,
   ⟨2, false, 1, 8, [(40, 1, true)], [7, 8, 9, 10]⟩,
   ⟨2, true, 1, 8, [(40, 1, true)], []⟩,
   ⟨2, false, 2, 0, [(40, 6, false)], []⟩,
   ⟨2, true, 2, 0, [(40, 6, false)], []⟩,
   ⟨3, false, 2, 0, [(40, 1, true), (49, 6, false)], [11, 12]⟩,
   ⟨3, true, 2, 0, [(40, 1, true), (49, 6, false)], []⟩,
   ⟨3, false, 1, 8, [(40, 1, true), (49, 6, true)], [13, 14]⟩,
   ⟨3, true, 1, 8, [(40, 1, true), (49, 6, true)], []⟩,
   ⟨4, false, 1, 8, [(40, 1, true), (49, 6, false), (58, 5, false)], [15, 16]⟩,
   ⟨4, true, 1, 8, [(40, 1, true), (49, 6, false), (58, 5, false)], []⟩,
   ⟨4, false, 2, 0, [(40, 1, true), (49, 6, true), (58, 6, false)], []⟩,
   ⟨4, true, 2, 0, [(40, 1, true), (49, 6, true), (58, 6, false)], []⟩,
   ⟨5, false, 2, 0, [(40, 1, true), (49, 6, false), (58, 5, false), (67, 6, false)], []⟩,
   ⟨5, true, 2, 0, [(40, 1, true), (49, 6, false), (58, 5, false), (67, 6, false)], []⟩],
  .i .u8 1, .i .u8 1⟩
noncomputable def cPa2 : Cfg := ⟨.ifc 63 (.ag (vS 27 ++ [.i .u8 2])), vF 27 true, [],
  [⟨0, false, 0, 0, [], [1, 2]⟩,
   ⟨1, false, 1, 8, [], [3, 4, 5, 6]⟩,
   ⟨1, true, 1, 8, [], []⟩,
   ⟨2, false, 1, 8, [(40, 1, true)], [7, 8, 9, 10]⟩,
   ⟨2, true, 1, 8, [(40, 1, true)], []⟩,
   ⟨2, false, 2, 0, [(40, 6, false)], []⟩,
   ⟨2, true, 2, 0, [(40, 6, false)], []⟩,
   ⟨3, false, 2, 0, [(40, 1, true), (49, 6, false)], [11, 12]⟩,
   ⟨3, true, 2, 0, [(40, 1, true), (49, 6, false)], []⟩,
   ⟨3, false, 1, 8, [(40, 1, true), (49, 6, true)], [13, 14]⟩,
   ⟨3, true, 1, 8, [(40, 1, true), (49, 6, true)], []⟩,
   ⟨4, false, 1, 8, [(40, 1, true), (49, 6, false), (58, 5, false)], [15, 16]⟩,
   ⟨4, true, 1, 8, [(40, 1, true), (49, 6, false), (58, 5, false)], []⟩,
   ⟨4, false, 2, 0, [(40, 1, true), (49, 6, true), (58, 6, false)], []⟩,
   ⟨4, true, 2, 0, [(40, 1, true), (49, 6, true), (58, 6, false)], []⟩,
   ⟨5, false, 2, 0, [(40, 1, true), (49, 6, false), (58, 5, false), (67, 6, false)], []⟩,
   ⟨5, true, 2, 0, [(40, 1, true), (49, 6, false), (58, 5, false), (67, 6, false)], []⟩],
  .i .u8 1, .i .u8 2⟩
noncomputable def cNa : Cfg := ⟨.ifc 65 (.ag (vS 27)), vF 27 true, [],
  [⟨0, false, 0, 0, [], [1, 2]⟩,
   ⟨1, false, 1, 8, [], [3, 4, 5, 6]⟩,
   ⟨1, true, 1, 8, [], []⟩,
   ⟨2, false, 1, 8, [(40, 1, true)], [7, 8, 9, 10]⟩,
   ⟨2, true, 1, 8, [(40, 1, true)], []⟩,
   ⟨2, false, 2, 0, [(40, 6, false)], []⟩,
   ⟨2, true, 2, 0, [(40, 6, false)], []⟩,
   ⟨3, false, 2, 0, [(40, 1, true), (49, 6, false)], [11, 12]⟩,
   ⟨3, true, 2, 0, [(40, 1, true), (49, 6, false)], []⟩,
   ⟨3, false, 1, 8, [(40, 1, true), (49, 6, true)], [13, 14]⟩,
   ⟨3, true, 1, 8, [(40, 1, true), (49, 6, true)], []⟩,
   ⟨4, false, 1, 8, [(40, 1, true), (49, 6, false), (58, 5, false)], [15, 16]⟩,
   ⟨4, true, 1, 8, [(40, 1, true), (49, 6, false), (58, 5, false)], []⟩,
   ⟨4, false, 2, 0, [(40, 1, true), (49, 6, true), (58, 6, false)], []⟩,
   ⟨4, true, 2, 0, [(40, 1, true), (49, 6, true), (58, 6, false)], []⟩,
   ⟨5, false, 2, 0, [(40, 1, true), (49, 6, false), (58, 5, false), (67, 6, false)], []⟩,
   ⟨5, true, 2, 0, [(40, 1, true), (49, 6, false), (58, 5, false), (67, 6, false)], []⟩],
  .i .u8 2, .x (.i .u8) (.sy 127)⟩
noncomputable def cTa : Cfg := ⟨.ifc 66 (.ag (vS 27)), vF 27 true, [],
  [⟨0, false, 0, 0, [], [1, 2]⟩,
   ⟨1, false, 1, 8, [], [3, 4, 5, 6]⟩,
   ⟨1, true, 1, 8, [], []⟩,
   ⟨2, false, 1, 8, [(40, 1, true)], [7, 8, 9, 10]⟩,
   ⟨2, true, 1, 8, [(40, 1, true)], []⟩,
   ⟨2, false, 2, 0, [(40, 6, false)], []⟩,
   ⟨2, true, 2, 0, [(40, 6, false)], []⟩,
   ⟨3, false, 2, 0, [(40, 1, true), (49, 6, false)], [11, 12]⟩,
   ⟨3, true, 2, 0, [(40, 1, true), (49, 6, false)], []⟩,
   ⟨3, false, 1, 8, [(40, 1, true), (49, 6, true)], [13, 14]⟩,
   ⟨3, true, 1, 8, [(40, 1, true), (49, 6, true)], []⟩,
   ⟨4, false, 1, 8, [(40, 1, true), (49, 6, false), (58, 5, false)], [15, 16]⟩,
   ⟨4, true, 1, 8, [(40, 1, true), (49, 6, false), (58, 5, false)], []⟩,
   ⟨4, false, 2, 0, [(40, 1, true), (49, 6, true), (58, 6, false)], []⟩,
   ⟨4, true, 2, 0, [(40, 1, true), (49, 6, true), (58, 6, false)], []⟩,
   ⟨5, false, 2, 0, [(40, 1, true), (49, 6, false), (58, 5, false), (67, 6, false)], []⟩,
   ⟨5, true, 2, 0, [(40, 1, true), (49, 6, false), (58, 5, false), (67, 6, false)], []⟩],
  .i .u8 3, .x (.i .u8) (.sy 127)⟩
noncomputable def cKa : Cfg := ⟨.ifc 67 (.ag (vS 27)), vF 27 true, [],
  [⟨0, false, 0, 0, [], [1, 2]⟩,
   ⟨1, false, 1, 8, [], [3, 4, 5, 6]⟩,
   ⟨1, true, 1, 8, [], []⟩,
   ⟨2, false, 1, 8, [(40, 1, true)], [7, 8, 9, 10]⟩,
   ⟨2, true, 1, 8, [(40, 1, true)], []⟩,
   ⟨2, false, 2, 0, [(40, 6, false)], []⟩,
   ⟨2, true, 2, 0, [(40, 6, false)], []⟩,
   ⟨3, false, 2, 0, [(40, 1, true), (49, 6, false)], [11, 12]⟩,
   ⟨3, true, 2, 0, [(40, 1, true), (49, 6, false)], []⟩,
   ⟨3, false, 1, 8, [(40, 1, true), (49, 6, true)], [13, 14]⟩,
   ⟨3, true, 1, 8, [(40, 1, true), (49, 6, true)], []⟩,
   ⟨4, false, 1, 8, [(40, 1, true), (49, 6, false), (58, 5, false)], [15, 16]⟩,
   ⟨4, true, 1, 8, [(40, 1, true), (49, 6, false), (58, 5, false)], []⟩,
   ⟨4, false, 2, 0, [(40, 1, true), (49, 6, true), (58, 6, false)], []⟩,
   ⟨4, true, 2, 0, [(40, 1, true), (49, 6, true), (58, 6, false)], []⟩,
   ⟨5, false, 2, 0, [(40, 1, true), (49, 6, false), (58, 5, false), (67, 6, false)], []⟩,
   ⟨5, true, 2, 0, [(40, 1, true), (49, 6, false), (58, 5, false), (67, 6, false)], []⟩],
  .i .u8 4, .x (.i .u8) (.sy 127)⟩
noncomputable def cLab : Cfg := ⟨.ifc 69 (.ag (vS 27 ++ vS 31)), vF 27 true ++ vF 31 false, [(31, 1, false)],
  [⟨0, false, 0, 0, [], [1, 2]⟩,
   ⟨1, false, 1, 8, [], [3, 4, 5, 6]⟩,
   ⟨1, true, 1, 8, [], []⟩,
   ⟨2, false, 1, 8, [(40, 1, true)], [7, 8, 9, 10]⟩,
   ⟨2, true, 1, 8, [(40, 1, true)], []⟩,
   ⟨2, false, 2, 0, [(40, 6, false)], []⟩,
   ⟨2, true, 2, 0, [(40, 6, false)], []⟩,
   ⟨3, false, 2, 0, [(40, 1, true), (49, 6, false)], [11, 12]⟩,
   ⟨3, true, 2, 0, [(40, 1, true), (49, 6, false)], []⟩,
   ⟨3, false, 1, 8, [(40, 1, true), (49, 6, true)], [13, 14]⟩,
   ⟨3, true, 1, 8, [(40, 1, true), (49, 6, true)], []⟩,
   ⟨4, false, 1, 8, [(40, 1, true), (49, 6, false), (58, 5, false)], [15, 16]⟩,
   ⟨4, true, 1, 8, [(40, 1, true), (49, 6, false), (58, 5, false)], []⟩,
   ⟨4, false, 2, 0, [(40, 1, true), (49, 6, true), (58, 6, false)], []⟩,
   ⟨4, true, 2, 0, [(40, 1, true), (49, 6, true), (58, 6, false)], []⟩,
   ⟨5, false, 2, 0, [(40, 1, true), (49, 6, false), (58, 5, false), (67, 6, false)], []⟩,
   ⟨5, true, 2, 0, [(40, 1, true), (49, 6, false), (58, 5, false), (67, 6, false)], []⟩],
  .i .u8 5, .x (.i .u8) (.sy 127)⟩
noncomputable def cLba : Cfg := ⟨.ifc 69 (.ag (vS 27 ++ vS 31)), vF 27 false ++ vF 31 true, [(27, 1, false)],
  [⟨0, false, 0, 0, [], [1, 2]⟩,
   ⟨1, false, 1, 8, [], [3, 4, 5, 6]⟩,
   ⟨1, true, 1, 8, [], []⟩,
   ⟨2, false, 1, 8, [(40, 1, true)], [7, 8, 9, 10]⟩,
   ⟨2, true, 1, 8, [(40, 1, true)], []⟩,
   ⟨2, false, 2, 0, [(40, 6, false)], []⟩,
   ⟨2, true, 2, 0, [(40, 6, false)], []⟩,
   ⟨3, false, 2, 0, [(40, 1, true), (49, 6, false)], [11, 12]⟩,
   ⟨3, true, 2, 0, [(40, 1, true), (49, 6, false)], []⟩,
   ⟨3, false, 1, 8, [(40, 1, true), (49, 6, true)], [13, 14]⟩,
   ⟨3, true, 1, 8, [(40, 1, true), (49, 6, true)], []⟩,
   ⟨4, false, 1, 8, [(40, 1, true), (49, 6, false), (58, 5, false)], [15, 16]⟩,
   ⟨4, true, 1, 8, [(40, 1, true), (49, 6, false), (58, 5, false)], []⟩,
   ⟨4, false, 2, 0, [(40, 1, true), (49, 6, true), (58, 6, false)], []⟩,
   ⟨4, true, 2, 0, [(40, 1, true), (49, 6, true), (58, 6, false)], []⟩,
   ⟨5, false, 2, 0, [(40, 1, true), (49, 6, false), (58, 5, false), (67, 6, false)], []⟩,
   ⟨5, true, 2, 0, [(40, 1, true), (49, 6, false), (58, 5, false), (67, 6, false)], []⟩],
  .i .u8 5, .x (.i .u8) (.sy 127)⟩
noncomputable def cSaa : Cfg := ⟨.ifc 70 (.ag (vS 27 ++ vS 31)), vF 27 true ++ vF 31 true, [],
  [⟨0, false, 0, 0, [], [1, 2]⟩,
   ⟨1, false, 1, 8, [], [3, 4, 5, 6]⟩,
   ⟨1, true, 1, 8, [], []⟩,
   ⟨2, false, 1, 8, [(40, 1, true)], [7, 8, 9, 10]⟩,
   ⟨2, true, 1, 8, [(40, 1, true)], []⟩,
   ⟨2, false, 2, 0, [(40, 6, false)], [11, 12]⟩,
   ⟨2, true, 2, 0, [(40, 6, false)], []⟩,
   ⟨3, false, 2, 0, [(40, 1, true), (49, 6, false)], [13, 14, 21, 22]⟩,
   ⟨3, true, 2, 0, [(40, 1, true), (49, 6, false)], []⟩,
   ⟨3, false, 1, 8, [(40, 1, true), (49, 6, true)], [15, 16]⟩,
   ⟨3, true, 1, 8, [(40, 1, true), (49, 6, true)], []⟩,
   ⟨3, false, 1, 8, [(40, 6, false), (49, 5, true)], [17, 18, 19, 20]⟩,
   ⟨3, true, 1, 8, [(40, 6, false), (49, 5, true)], []⟩,
   ⟨4, false, 1, 8, [(40, 1, true), (49, 6, false), (58, 5, false)], [23, 24]⟩,
   ⟨4, true, 1, 8, [(40, 1, true), (49, 6, false), (58, 5, false)], []⟩,
   ⟨4, false, 2, 0, [(40, 1, true), (49, 6, true), (58, 6, false)], [33, 34]⟩,
   ⟨4, true, 2, 0, [(40, 1, true), (49, 6, true), (58, 6, false)], []⟩,
   ⟨4, false, 1, 8, [(40, 6, false), (49, 5, true), (58, 1, true)], [25, 26, 27, 28]⟩,
   ⟨4, true, 1, 8, [(40, 6, false), (49, 5, true), (58, 1, true)], []⟩,
   ⟨4, false, 2, 0, [(40, 6, false), (49, 5, true), (58, 6, false)], []⟩,
   ⟨4, true, 2, 0, [(40, 6, false), (49, 5, true), (58, 6, false)], []⟩,
   ⟨4, false, 1, 8, [(40, 1, true), (49, 6, false), (58, 5, true)], [29, 30, 31, 32]⟩,
   ⟨4, true, 1, 8, [(40, 1, true), (49, 6, false), (58, 5, true)], []⟩,
   ⟨5, false, 2, 0, [(40, 1, true), (49, 6, false), (58, 5, false), (67, 6, false)], [47, 48]⟩,
   ⟨5, true, 2, 0, [(40, 1, true), (49, 6, false), (58, 5, false), (67, 6, false)], []⟩,
   ⟨5, false, 2, 0, [(40, 6, false), (49, 5, true), (58, 1, true), (67, 6, false)], [35, 36]⟩,
   ⟨5, true, 2, 0, [(40, 6, false), (49, 5, true), (58, 1, true), (67, 6, false)], []⟩,
   ⟨5, false, 1, 8, [(40, 6, false), (49, 5, true), (58, 1, true), (67, 6, true)], [37, 38]⟩,
   ⟨5, true, 1, 8, [(40, 6, false), (49, 5, true), (58, 1, true), (67, 6, true)], []⟩,
   ⟨5, false, 1, 8, [(40, 1, true), (49, 6, false), (58, 5, true), (67, 1, true)], [39, 40, 41, 42]⟩,
   ⟨5, true, 1, 8, [(40, 1, true), (49, 6, false), (58, 5, true), (67, 1, true)], []⟩,
   ⟨5, false, 2, 0, [(40, 1, true), (49, 6, false), (58, 5, true), (67, 6, false)], []⟩,
   ⟨5, true, 2, 0, [(40, 1, true), (49, 6, false), (58, 5, true), (67, 6, false)], []⟩,
   ⟨5, false, 1, 8, [(40, 1, true), (49, 6, true), (58, 6, false), (67, 5, true)], [43, 44, 45, 46]⟩,
   ⟨5, true, 1, 8, [(40, 1, true), (49, 6, true), (58, 6, false), (67, 5, true)], []⟩,
   ⟨6, false, 1, 8, [(40, 6, false), (49, 5, true), (58, 1, true), (67, 6, false), (76, 5, false)], [49, 50]⟩,
   ⟨6, true, 1, 8, [(40, 6, false), (49, 5, true), (58, 1, true), (67, 6, false), (76, 5, false)], []⟩,
   ⟨6, false, 2, 0, [(40, 6, false), (49, 5, true), (58, 1, true), (67, 6, true), (76, 6, false)], []⟩,
   ⟨6, true, 2, 0, [(40, 6, false), (49, 5, true), (58, 1, true), (67, 6, true), (76, 6, false)], []⟩,
   ⟨6, false, 2, 0, [(40, 1, true), (49, 6, false), (58, 5, true), (67, 1, true), (76, 6, false)], [51, 52]⟩,
   ⟨6, true, 2, 0, [(40, 1, true), (49, 6, false), (58, 5, true), (67, 1, true), (76, 6, false)], []⟩,
   ⟨6, false, 1, 8, [(40, 1, true), (49, 6, false), (58, 5, true), (67, 1, true), (76, 6, true)], [53, 54]⟩,
   ⟨6, true, 1, 8, [(40, 1, true), (49, 6, false), (58, 5, true), (67, 1, true), (76, 6, true)], []⟩,
   ⟨6, false, 1, 8, [(40, 1, true), (49, 6, true), (58, 6, false), (67, 5, true), (76, 1, true)], [55, 56, 57, 58]⟩,
   ⟨6, true, 1, 8, [(40, 1, true), (49, 6, true), (58, 6, false), (67, 5, true), (76, 1, true)], []⟩,
   ⟨6, false, 2, 0, [(40, 1, true), (49, 6, true), (58, 6, false), (67, 5, true), (76, 6, false)], []⟩,
   ⟨6, true, 2, 0, [(40, 1, true), (49, 6, true), (58, 6, false), (67, 5, true), (76, 6, false)], []⟩,
   ⟨6, false, 1, 8, [(40, 1, true), (49, 6, false), (58, 5, false), (67, 6, false), (76, 5, true)], [59, 60, 61, 62]⟩,
   ⟨6, true, 1, 8, [(40, 1, true), (49, 6, false), (58, 5, false), (67, 6, false), (76, 5, true)], []⟩,
   ⟨7, false, 2, 0, [(40, 6, false), (49, 5, true), (58, 1, true), (67, 6, false), (76, 5, false), (85, 6, false)], []⟩,
   ⟨7, true, 2, 0, [(40, 6, false), (49, 5, true), (58, 1, true), (67, 6, false), (76, 5, false), (85, 6, false)], []⟩,
   ⟨7, false, 1, 8, [(40, 1, true), (49, 6, false), (58, 5, true), (67, 1, true), (76, 6, false), (85, 5, false)], [63, 64]⟩,
   ⟨7, true, 1, 8, [(40, 1, true), (49, 6, false), (58, 5, true), (67, 1, true), (76, 6, false), (85, 5, false)], []⟩,
   ⟨7, false, 2, 0, [(40, 1, true), (49, 6, false), (58, 5, true), (67, 1, true), (76, 6, true), (85, 6, false)], []⟩,
   ⟨7, true, 2, 0, [(40, 1, true), (49, 6, false), (58, 5, true), (67, 1, true), (76, 6, true), (85, 6, false)], []⟩,
   ⟨7, false, 2, 0, [(40, 1, true), (49, 6, true), (58, 6, false), (67, 5, true), (76, 1, true), (85, 6, false)], [65, 66]⟩,
   ⟨7, true, 2, 0, [(40, 1, true), (49, 6, true), (58, 6, false), (67, 5, true), (76, 1, true), (85, 6, false)], []⟩,
   ⟨7, false, 1, 8, [(40, 1, true), (49, 6, true), (58, 6, false), (67, 5, true), (76, 1, true), (85, 6, true)], [67, 68]⟩,
   ⟨7, true, 1, 8, [(40, 1, true), (49, 6, true), (58, 6, false), (67, 5, true), (76, 1, true), (85, 6, true)], []⟩,
   ⟨7, false, 1, 8, [(40, 1, true), (49, 6, false), (58, 5, false), (67, 6, false), (76, 5, true), (85, 1, true)], [69, 70, 71, 72]⟩,
   ⟨7, true, 1, 8, [(40, 1, true), (49, 6, false), (58, 5, false), (67, 6, false), (76, 5, true), (85, 1, true)], []⟩,
   ⟨7, false, 2, 0, [(40, 1, true), (49, 6, false), (58, 5, false), (67, 6, false), (76, 5, true), (85, 6, false)], []⟩,
   ⟨7, true, 2, 0, [(40, 1, true), (49, 6, false), (58, 5, false), (67, 6, false), (76, 5, true), (85, 6, false)], []⟩,
   ⟨8, false, 2, 0, [(40, 1, true), (49, 6, false), (58, 5, true), (67, 1, true), (76, 6, false), (85, 5, false), (94, 6, false)], []⟩,
   ⟨8, true, 2, 0, [(40, 1, true), (49, 6, false), (58, 5, true), (67, 1, true), (76, 6, false), (85, 5, false), (94, 6, false)], []⟩,
   ⟨8, false, 1, 8, [(40, 1, true), (49, 6, true), (58, 6, false), (67, 5, true), (76, 1, true), (85, 6, false), (94, 5, false)], [73, 74]⟩,
   ⟨8, true, 1, 8, [(40, 1, true), (49, 6, true), (58, 6, false), (67, 5, true), (76, 1, true), (85, 6, false), (94, 5, false)], []⟩,
   ⟨8, false, 2, 0, [(40, 1, true), (49, 6, true), (58, 6, false), (67, 5, true), (76, 1, true), (85, 6, true), (94, 6, false)], []⟩,
   ⟨8, true, 2, 0, [(40, 1, true), (49, 6, true), (58, 6, false), (67, 5, true), (76, 1, true), (85, 6, true), (94, 6, false)], []⟩,
   ⟨8, false, 2, 0, [(40, 1, true), (49, 6, false), (58, 5, false), (67, 6, false), (76, 5, true), (85, 1, true), (94, 6, false)], [75, 76]⟩,
   ⟨8, true, 2, 0, [(40, 1, true), (49, 6, false), (58, 5, false), (67, 6, false), (76, 5, true), (85, 1, true), (94, 6, false)], []⟩,
   ⟨8, false, 1, 8, [(40, 1, true), (49, 6, false), (58, 5, false), (67, 6, false), (76, 5, true), (85, 1, true), (94, 6, true)], [77, 78]⟩,
   ⟨8, true, 1, 8, [(40, 1, true), (49, 6, false), (58, 5, false), (67, 6, false), (76, 5, true), (85, 1, true), (94, 6, true)], []⟩,
   ⟨9, false, 2, 0, [(40, 1, true), (49, 6, true), (58, 6, false), (67, 5, true), (76, 1, true), (85, 6, false), (94, 5, false), (103, 6, false)], []⟩,
   ⟨9, true, 2, 0, [(40, 1, true), (49, 6, true), (58, 6, false), (67, 5, true), (76, 1, true), (85, 6, false), (94, 5, false), (103, 6, false)], []⟩,
   ⟨9, false, 1, 8, [(40, 1, true), (49, 6, false), (58, 5, false), (67, 6, false), (76, 5, true), (85, 1, true), (94, 6, false), (103, 5, false)], [79, 80]⟩,
   ⟨9, true, 1, 8, [(40, 1, true), (49, 6, false), (58, 5, false), (67, 6, false), (76, 5, true), (85, 1, true), (94, 6, false), (103, 5, false)], []⟩,
   ⟨9, false, 2, 0, [(40, 1, true), (49, 6, false), (58, 5, false), (67, 6, false), (76, 5, true), (85, 1, true), (94, 6, true), (103, 6, false)], []⟩,
   ⟨9, true, 2, 0, [(40, 1, true), (49, 6, false), (58, 5, false), (67, 6, false), (76, 5, true), (85, 1, true), (94, 6, true), (103, 6, false)], []⟩,
   ⟨10, false, 2, 0, [(40, 1, true), (49, 6, false), (58, 5, false), (67, 6, false), (76, 5, true), (85, 1, true), (94, 6, false), (103, 5, false), (112, 6, false)], []⟩,
   ⟨10, true, 2, 0, [(40, 1, true), (49, 6, false), (58, 5, false), (67, 6, false), (76, 5, true), (85, 1, true), (94, 6, false), (103, 5, false), (112, 6, false)], []⟩],
  .i .u8 6, .x (.i .u8) (.sy 127)⟩
noncomputable def cSab : Cfg := ⟨.ifc 70 (.ag (vS 27 ++ vS 31)), vF 27 true ++ vF 31 false, [],
  [⟨0, false, 0, 0, [], [1, 2]⟩,
   ⟨1, false, 1, 8, [], [3, 4, 5, 6]⟩,
   ⟨1, true, 1, 8, [], []⟩,
   ⟨2, false, 1, 8, [(40, 1, true)], [7, 8, 9, 10]⟩,
   ⟨2, true, 1, 8, [(40, 1, true)], []⟩,
   ⟨2, false, 2, 0, [(40, 6, false)], []⟩,
   ⟨2, true, 2, 0, [(40, 6, false)], []⟩,
   ⟨3, false, 2, 0, [(40, 1, true), (49, 6, false)], [11, 12]⟩,
   ⟨3, true, 2, 0, [(40, 1, true), (49, 6, false)], []⟩,
   ⟨3, false, 1, 8, [(40, 1, true), (49, 6, true)], [13, 14]⟩,
   ⟨3, true, 1, 8, [(40, 1, true), (49, 6, true)], []⟩,
   ⟨4, false, 1, 8, [(40, 1, true), (49, 6, false), (58, 5, false)], [15, 16]⟩,
   ⟨4, true, 1, 8, [(40, 1, true), (49, 6, false), (58, 5, false)], []⟩,
   ⟨4, false, 2, 0, [(40, 1, true), (49, 6, true), (58, 6, false)], []⟩,
   ⟨4, true, 2, 0, [(40, 1, true), (49, 6, true), (58, 6, false)], []⟩,
   ⟨5, false, 2, 0, [(40, 1, true), (49, 6, false), (58, 5, false), (67, 6, false)], []⟩,
   ⟨5, true, 2, 0, [(40, 1, true), (49, 6, false), (58, 5, false), (67, 6, false)], []⟩],
  .i .u8 6, .x (.i .u8) (.sy 127)⟩
noncomputable def cSba : Cfg := ⟨.ifc 70 (.ag (vS 27 ++ vS 31)), vF 27 false ++ vF 31 true, [],
  [⟨0, false, 0, 0, [], [1, 2]⟩,
   ⟨1, false, 1, 8, [], [3, 4, 5, 6]⟩,
   ⟨1, true, 1, 8, [], []⟩,
   ⟨2, false, 1, 8, [(40, 1, true)], [7, 8, 9, 10]⟩,
   ⟨2, true, 1, 8, [(40, 1, true)], []⟩,
   ⟨2, false, 2, 0, [(40, 6, false)], []⟩,
   ⟨2, true, 2, 0, [(40, 6, false)], []⟩,
   ⟨3, false, 2, 0, [(40, 1, true), (49, 6, false)], [11, 12]⟩,
   ⟨3, true, 2, 0, [(40, 1, true), (49, 6, false)], []⟩,
   ⟨3, false, 1, 8, [(40, 1, true), (49, 6, true)], [13, 14]⟩,
   ⟨3, true, 1, 8, [(40, 1, true), (49, 6, true)], []⟩,
   ⟨4, false, 1, 8, [(40, 1, true), (49, 6, false), (58, 5, false)], [15, 16]⟩,
   ⟨4, true, 1, 8, [(40, 1, true), (49, 6, false), (58, 5, false)], []⟩,
   ⟨4, false, 2, 0, [(40, 1, true), (49, 6, true), (58, 6, false)], []⟩,
   ⟨4, true, 2, 0, [(40, 1, true), (49, 6, true), (58, 6, false)], []⟩,
   ⟨5, false, 2, 0, [(40, 1, true), (49, 6, false), (58, 5, false), (67, 6, false)], []⟩,
   ⟨5, true, 2, 0, [(40, 1, true), (49, 6, false), (58, 5, false), (67, 6, false)], []⟩],
  .i .u8 6, .x (.i .u8) (.sy 127)⟩
noncomputable def cAaa : Cfg := ⟨.ifc 71 (.ag (vS 27 ++ vS 31)), vF 27 true ++ vF 31 true, [],
  [⟨0, false, 0, 0, [], [1, 2]⟩,
   ⟨1, false, 1, 8, [], [3, 4, 5, 6]⟩,
   ⟨1, true, 1, 8, [], []⟩,
   ⟨2, false, 1, 8, [(40, 1, true)], [7, 8, 9, 10]⟩,
   ⟨2, true, 1, 8, [(40, 1, true)], []⟩,
   ⟨2, false, 2, 0, [(40, 6, false)], [11, 12]⟩,
   ⟨2, true, 2, 0, [(40, 6, false)], []⟩,
   ⟨3, false, 2, 0, [(40, 1, true), (49, 6, false)], [13, 14, 21, 22]⟩,
   ⟨3, true, 2, 0, [(40, 1, true), (49, 6, false)], []⟩,
   ⟨3, false, 1, 8, [(40, 1, true), (49, 6, true)], [15, 16]⟩,
   ⟨3, true, 1, 8, [(40, 1, true), (49, 6, true)], []⟩,
   ⟨3, false, 1, 8, [(40, 6, false), (49, 5, true)], [17, 18, 19, 20]⟩,
   ⟨3, true, 1, 8, [(40, 6, false), (49, 5, true)], []⟩,
   ⟨4, false, 1, 8, [(40, 1, true), (49, 6, false), (58, 5, false)], [23, 24]⟩,
   ⟨4, true, 1, 8, [(40, 1, true), (49, 6, false), (58, 5, false)], []⟩,
   ⟨4, false, 2, 0, [(40, 1, true), (49, 6, true), (58, 6, false)], [33, 34]⟩,
   ⟨4, true, 2, 0, [(40, 1, true), (49, 6, true), (58, 6, false)], []⟩,
   ⟨4, false, 1, 8, [(40, 6, false), (49, 5, true), (58, 1, true)], [25, 26, 27, 28]⟩,
   ⟨4, true, 1, 8, [(40, 6, false), (49, 5, true), (58, 1, true)], []⟩,
   ⟨4, false, 2, 0, [(40, 6, false), (49, 5, true), (58, 6, false)], []⟩,
   ⟨4, true, 2, 0, [(40, 6, false), (49, 5, true), (58, 6, false)], []⟩,
   ⟨4, false, 1, 8, [(40, 1, true), (49, 6, false), (58, 5, true)], [29, 30, 31, 32]⟩,
   ⟨4, true, 1, 8, [(40, 1, true), (49, 6, false), (58, 5, true)], []⟩,
   ⟨5, false, 2, 0, [(40, 1, true), (49, 6, false), (58, 5, false), (67, 6, false)], [47, 48]⟩,
   ⟨5, true, 2, 0, [(40, 1, true), (49, 6, false), (58, 5, false), (67, 6, false)], []⟩,
   ⟨5, false, 2, 0, [(40, 6, false), (49, 5, true), (58, 1, true), (67, 6, false)], [35, 36]⟩,
   ⟨5, true, 2, 0, [(40, 6, false), (49, 5, true), (58, 1, true), (67, 6, false)], []⟩,
   ⟨5, false, 1, 8, [(40, 6, false), (49, 5, true), (58, 1, true), (67, 6, true)], [37, 38]⟩,
   ⟨5, true, 1, 8, [(40, 6, false), (49, 5, true), (58, 1, true), (67, 6, true)], []⟩,
   ⟨5, false, 1, 8, [(40, 1, true), (49, 6, false), (58, 5, true), (67, 1, true)], [39, 40, 41, 42]⟩,
   ⟨5, true, 1, 8, [(40, 1, true), (49, 6, false), (58, 5, true), (67, 1, true)], []⟩,
   ⟨5, false, 2, 0, [(40, 1, true), (49, 6, false), (58, 5, true), (67, 6, false)], []⟩,
   ⟨5, true, 2, 0, [(40, 1, true), (49, 6, false), (58, 5, true), (67, 6, false)], []⟩,
   ⟨5, false, 1, 8, [(40, 1, true), (49, 6, true), (58, 6, false), (67, 5, true)], [43, 44, 45, 46]⟩,
   ⟨5, true, 1, 8, [(40, 1, true), (49, 6, true), (58, 6, false), (67, 5, true)], []⟩,
   ⟨6, false, 1, 8, [(40, 6, false), (49, 5, true), (58, 1, true), (67, 6, false), (76, 5, false)], [49, 50]⟩,
   ⟨6, true, 1, 8, [(40, 6, false), (49, 5, true), (58, 1, true), (67, 6, false), (76, 5, false)], []⟩,
   ⟨6, false, 2, 0, [(40, 6, false), (49, 5, true), (58, 1, true), (67, 6, true), (76, 6, false)], []⟩,
   ⟨6, true, 2, 0, [(40, 6, false), (49, 5, true), (58, 1, true), (67, 6, true), (76, 6, false)], []⟩,
   ⟨6, false, 2, 0, [(40, 1, true), (49, 6, false), (58, 5, true), (67, 1, true), (76, 6, false)], [51, 52]⟩,
   ⟨6, true, 2, 0, [(40, 1, true), (49, 6, false), (58, 5, true), (67, 1, true), (76, 6, false)], []⟩,
   ⟨6, false, 1, 8, [(40, 1, true), (49, 6, false), (58, 5, true), (67, 1, true), (76, 6, true)], [53, 54]⟩,
   ⟨6, true, 1, 8, [(40, 1, true), (49, 6, false), (58, 5, true), (67, 1, true), (76, 6, true)], []⟩,
   ⟨6, false, 1, 8, [(40, 1, true), (49, 6, true), (58, 6, false), (67, 5, true), (76, 1, true)], [55, 56, 57, 58]⟩,
   ⟨6, true, 1, 8, [(40, 1, true), (49, 6, true), (58, 6, false), (67, 5, true), (76, 1, true)], []⟩,
   ⟨6, false, 2, 0, [(40, 1, true), (49, 6, true), (58, 6, false), (67, 5, true), (76, 6, false)], []⟩,
   ⟨6, true, 2, 0, [(40, 1, true), (49, 6, true), (58, 6, false), (67, 5, true), (76, 6, false)], []⟩,
   ⟨6, false, 1, 8, [(40, 1, true), (49, 6, false), (58, 5, false), (67, 6, false), (76, 5, true)], [59, 60, 61, 62]⟩,
   ⟨6, true, 1, 8, [(40, 1, true), (49, 6, false), (58, 5, false), (67, 6, false), (76, 5, true)], []⟩,
   ⟨7, false, 2, 0, [(40, 6, false), (49, 5, true), (58, 1, true), (67, 6, false), (76, 5, false), (85, 6, false)], []⟩,
   ⟨7, true, 2, 0, [(40, 6, false), (49, 5, true), (58, 1, true), (67, 6, false), (76, 5, false), (85, 6, false)], []⟩,
   ⟨7, false, 1, 8, [(40, 1, true), (49, 6, false), (58, 5, true), (67, 1, true), (76, 6, false), (85, 5, false)], [63, 64]⟩,
   ⟨7, true, 1, 8, [(40, 1, true), (49, 6, false), (58, 5, true), (67, 1, true), (76, 6, false), (85, 5, false)], []⟩,
   ⟨7, false, 2, 0, [(40, 1, true), (49, 6, false), (58, 5, true), (67, 1, true), (76, 6, true), (85, 6, false)], []⟩,
   ⟨7, true, 2, 0, [(40, 1, true), (49, 6, false), (58, 5, true), (67, 1, true), (76, 6, true), (85, 6, false)], []⟩,
   ⟨7, false, 2, 0, [(40, 1, true), (49, 6, true), (58, 6, false), (67, 5, true), (76, 1, true), (85, 6, false)], [65, 66]⟩,
   ⟨7, true, 2, 0, [(40, 1, true), (49, 6, true), (58, 6, false), (67, 5, true), (76, 1, true), (85, 6, false)], []⟩,
   ⟨7, false, 1, 8, [(40, 1, true), (49, 6, true), (58, 6, false), (67, 5, true), (76, 1, true), (85, 6, true)], [67, 68]⟩,
   ⟨7, true, 1, 8, [(40, 1, true), (49, 6, true), (58, 6, false), (67, 5, true), (76, 1, true), (85, 6, true)], []⟩,
   ⟨7, false, 1, 8, [(40, 1, true), (49, 6, false), (58, 5, false), (67, 6, false), (76, 5, true), (85, 1, true)], [69, 70, 71, 72]⟩,
   ⟨7, true, 1, 8, [(40, 1, true), (49, 6, false), (58, 5, false), (67, 6, false), (76, 5, true), (85, 1, true)], []⟩,
   ⟨7, false, 2, 0, [(40, 1, true), (49, 6, false), (58, 5, false), (67, 6, false), (76, 5, true), (85, 6, false)], []⟩,
   ⟨7, true, 2, 0, [(40, 1, true), (49, 6, false), (58, 5, false), (67, 6, false), (76, 5, true), (85, 6, false)], []⟩,
   ⟨8, false, 2, 0, [(40, 1, true), (49, 6, false), (58, 5, true), (67, 1, true), (76, 6, false), (85, 5, false), (94, 6, false)], []⟩,
   ⟨8, true, 2, 0, [(40, 1, true), (49, 6, false), (58, 5, true), (67, 1, true), (76, 6, false), (85, 5, false), (94, 6, false)], []⟩,
   ⟨8, false, 1, 8, [(40, 1, true), (49, 6, true), (58, 6, false), (67, 5, true), (76, 1, true), (85, 6, false), (94, 5, false)], [73, 74]⟩,
   ⟨8, true, 1, 8, [(40, 1, true), (49, 6, true), (58, 6, false), (67, 5, true), (76, 1, true), (85, 6, false), (94, 5, false)], []⟩,
   ⟨8, false, 2, 0, [(40, 1, true), (49, 6, true), (58, 6, false), (67, 5, true), (76, 1, true), (85, 6, true), (94, 6, false)], []⟩,
   ⟨8, true, 2, 0, [(40, 1, true), (49, 6, true), (58, 6, false), (67, 5, true), (76, 1, true), (85, 6, true), (94, 6, false)], []⟩,
   ⟨8, false, 2, 0, [(40, 1, true), (49, 6, false), (58, 5, false), (67, 6, false), (76, 5, true), (85, 1, true), (94, 6, false)], [75, 76]⟩,
   ⟨8, true, 2, 0, [(40, 1, true), (49, 6, false), (58, 5, false), (67, 6, false), (76, 5, true), (85, 1, true), (94, 6, false)], []⟩,
   ⟨8, false, 1, 8, [(40, 1, true), (49, 6, false), (58, 5, false), (67, 6, false), (76, 5, true), (85, 1, true), (94, 6, true)], [77, 78]⟩,
   ⟨8, true, 1, 8, [(40, 1, true), (49, 6, false), (58, 5, false), (67, 6, false), (76, 5, true), (85, 1, true), (94, 6, true)], []⟩,
   ⟨9, false, 2, 0, [(40, 1, true), (49, 6, true), (58, 6, false), (67, 5, true), (76, 1, true), (85, 6, false), (94, 5, false), (103, 6, false)], []⟩,
   ⟨9, true, 2, 0, [(40, 1, true), (49, 6, true), (58, 6, false), (67, 5, true), (76, 1, true), (85, 6, false), (94, 5, false), (103, 6, false)], []⟩,
   ⟨9, false, 1, 8, [(40, 1, true), (49, 6, false), (58, 5, false), (67, 6, false), (76, 5, true), (85, 1, true), (94, 6, false), (103, 5, false)], [79, 80]⟩,
   ⟨9, true, 1, 8, [(40, 1, true), (49, 6, false), (58, 5, false), (67, 6, false), (76, 5, true), (85, 1, true), (94, 6, false), (103, 5, false)], []⟩,
   ⟨9, false, 2, 0, [(40, 1, true), (49, 6, false), (58, 5, false), (67, 6, false), (76, 5, true), (85, 1, true), (94, 6, true), (103, 6, false)], []⟩,
   ⟨9, true, 2, 0, [(40, 1, true), (49, 6, false), (58, 5, false), (67, 6, false), (76, 5, true), (85, 1, true), (94, 6, true), (103, 6, false)], []⟩,
   ⟨10, false, 2, 0, [(40, 1, true), (49, 6, false), (58, 5, false), (67, 6, false), (76, 5, true), (85, 1, true), (94, 6, false), (103, 5, false), (112, 6, false)], []⟩,
   ⟨10, true, 2, 0, [(40, 1, true), (49, 6, false), (58, 5, false), (67, 6, false), (76, 5, true), (85, 1, true), (94, 6, false), (103, 5, false), (112, 6, false)], []⟩],
  .i .u8 7, .x (.i .u8) (.sy 127)⟩
noncomputable def cAab : Cfg := ⟨.ifc 71 (.ag (vS 27 ++ vS 31)), vF 27 true ++ vF 31 false, [],
  [⟨0, false, 0, 0, [], [1, 2]⟩,
   ⟨1, false, 1, 8, [], [3, 4, 5, 6]⟩,
   ⟨1, true, 1, 8, [], []⟩,
   ⟨2, false, 1, 8, [(40, 1, true)], [7, 8, 9, 10]⟩,
   ⟨2, true, 1, 8, [(40, 1, true)], []⟩,
   ⟨2, false, 2, 0, [(40, 6, false)], []⟩,
   ⟨2, true, 2, 0, [(40, 6, false)], []⟩,
   ⟨3, false, 2, 0, [(40, 1, true), (49, 6, false)], [11, 12]⟩,
   ⟨3, true, 2, 0, [(40, 1, true), (49, 6, false)], []⟩,
   ⟨3, false, 1, 8, [(40, 1, true), (49, 6, true)], [13, 14]⟩,
   ⟨3, true, 1, 8, [(40, 1, true), (49, 6, true)], []⟩,
   ⟨4, false, 1, 8, [(40, 1, true), (49, 6, false), (58, 5, false)], [15, 16]⟩,
   ⟨4, true, 1, 8, [(40, 1, true), (49, 6, false), (58, 5, false)], []⟩,
   ⟨4, false, 2, 0, [(40, 1, true), (49, 6, true), (58, 6, false)], []⟩,
   ⟨4, true, 2, 0, [(40, 1, true), (49, 6, true), (58, 6, false)], []⟩,
   ⟨5, false, 2, 0, [(40, 1, true), (49, 6, false), (58, 5, false), (67, 6, false)], []⟩,
   ⟨5, true, 2, 0, [(40, 1, true), (49, 6, false), (58, 5, false), (67, 6, false)], []⟩],
  .i .u8 7, .x (.i .u8) (.sy 127)⟩
noncomputable def cAba : Cfg := ⟨.ifc 71 (.ag (vS 27 ++ vS 31)), vF 27 false ++ vF 31 true, [],
  [⟨0, false, 0, 0, [], [1, 2]⟩,
   ⟨1, false, 1, 8, [], [3, 4, 5, 6]⟩,
   ⟨1, true, 1, 8, [], []⟩,
   ⟨2, false, 1, 8, [(40, 1, true)], [7, 8, 9, 10]⟩,
   ⟨2, true, 1, 8, [(40, 1, true)], []⟩,
   ⟨2, false, 2, 0, [(40, 6, false)], []⟩,
   ⟨2, true, 2, 0, [(40, 6, false)], []⟩,
   ⟨3, false, 2, 0, [(40, 1, true), (49, 6, false)], [11, 12]⟩,
   ⟨3, true, 2, 0, [(40, 1, true), (49, 6, false)], []⟩,
   ⟨3, false, 1, 8, [(40, 1, true), (49, 6, true)], [13, 14]⟩,
   ⟨3, true, 1, 8, [(40, 1, true), (49, 6, true)], []⟩,
   ⟨4, false, 1, 8, [(40, 1, true), (49, 6, false), (58, 5, false)], [15, 16]⟩,
   ⟨4, true, 1, 8, [(40, 1, true), (49, 6, false), (58, 5, false)], []⟩,
   ⟨4, false, 2, 0, [(40, 1, true), (49, 6, true), (58, 6, false)], []⟩,
   ⟨4, true, 2, 0, [(40, 1, true), (49, 6, true), (58, 6, false)], []⟩,
   ⟨5, false, 2, 0, [(40, 1, true), (49, 6, false), (58, 5, false), (67, 6, false)], []⟩,
   ⟨5, true, 2, 0, [(40, 1, true), (49, 6, false), (58, 5, false), (67, 6, false)], []⟩],
  .i .u8 7, .x (.i .u8) (.sy 127)⟩
noncomputable def cPb0 : Cfg := ⟨.ifc 63 (.ag (vS 27 ++ [.i .u8 0])), vF 27 false, [],
  [⟨0, false, 0, 0, [], []⟩],
  .i .u8 1, .i .u8 0⟩
noncomputable def cPb1 : Cfg := ⟨.ifc 63 (.ag (vS 27 ++ [.i .u8 1])), vF 27 false, [],
  [⟨0, false, 0, 0, [], []⟩],
  .i .u8 1, .i .u8 1⟩
noncomputable def cPb2 : Cfg := ⟨.ifc 63 (.ag (vS 27 ++ [.i .u8 2])), vF 27 false, [],
  [⟨0, false, 0, 0, [], []⟩],
  .i .u8 1, .i .u8 2⟩
noncomputable def cNb : Cfg := ⟨.ifc 65 (.ag (vS 27)), vF 27 false, [],
  [⟨0, false, 0, 0, [], []⟩],
  .i .u8 2, .x (.i .u8) (.sy 127)⟩
noncomputable def cTb : Cfg := ⟨.ifc 66 (.ag (vS 27)), vF 27 false, [],
  [⟨0, false, 0, 0, [], []⟩],
  .i .u8 3, .x (.i .u8) (.sy 127)⟩
noncomputable def cKb : Cfg := ⟨.ifc 67 (.ag (vS 27)), vF 27 false, [],
  [⟨0, false, 0, 0, [], []⟩],
  .i .u8 4, .x (.i .u8) (.sy 127)⟩
noncomputable def cLbb : Cfg := ⟨.ifc 69 (.ag (vS 27 ++ vS 31)), vF 27 false ++ vF 31 false, [],
  [⟨0, false, 0, 0, [], []⟩],
  .i .u8 5, .x (.i .u8) (.sy 127)⟩
noncomputable def cLaa : Cfg := ⟨.ifc 69 (.ag (vS 27 ++ vS 31)), vF 27 true ++ vF 31 true, [],
  [⟨0, false, 0, 0, [], []⟩],
  .i .u8 5, .x (.i .u8) (.sy 127)⟩
noncomputable def cSbb : Cfg := ⟨.ifc 70 (.ag (vS 27 ++ vS 31)), vF 27 false ++ vF 31 false, [],
  [⟨0, false, 0, 0, [], []⟩],
  .i .u8 6, .x (.i .u8) (.sy 127)⟩
noncomputable def cAbb : Cfg := ⟨.ifc 71 (.ag (vS 27 ++ vS 31)), vF 27 false ++ vF 31 false, [],
  [⟨0, false, 0, 0, [], []⟩],
  .i .u8 7, .x (.i .u8) (.sy 127)⟩
end Go.Proofs.YtaecedlhiclkdaaGreat.En
