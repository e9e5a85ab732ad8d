/- The functions without a body that the runs of this seat reach; the evaluator with the program in place. No condition. -/
import Derived.Test.YtbmekbpgoakkbaaGreatDoorVxX
import Derived.Test.YtbmekbpgoakkbaaGreatDoorKw
import Derived.Test.YtbmekbpgoakkbaaGreatDoorProg
namespace Go.Proofs.YtbmekbpgoakkbaaGreatDoor.Vx
open Go

noncomputable def PP : Program := Tryz.prog
noncomputable def XT : Exts := fun g => match g with
  | 419 => some (extF PP 2 (Go.Extern.MathFloor.toIntegral "math.archTrunc" .zero))
  | 421 => some (extF PP 0 (Go.Extern.MathFloatBits.float64bits))
  | 101 => some (extF PP 1 (Go.Extern.MathFloatBits.float64frombits))
  | 449 => some (ext2 PP (Go.Extern.BytealgIndexByte.indexByte))
  | 277 => some (ext2 PP (Go.Extern.BytealgCount.count))
  | 278 => some (extId)
  | 655 => some (extMakeNoZero PP #[113])
  | 664 => some (swapC PP 86 PP.globals.size)
  | _ => none

theorem XT_ok : ExtOK Tryz.prog XT := by
  intro g C hC
  unfold XT at hC
  split at hC <;> cases hC
  · exact (extF_ok (extTrunc_ok _)).ok Tryz.func419 rfl (by kernel_rfl) (by kernel_rfl) (by kernel_rfl)
  · exact (extF_ok (extBits_ok _)).ok Tryz.func421 rfl (by kernel_rfl) (by kernel_rfl) (by kernel_rfl)
  · exact (extF_ok (extFrom_ok _)).ok Tryz.func101 rfl (by kernel_rfl) (by kernel_rfl) (by kernel_rfl)
  · exact (ext2_ok _ _).ok Tryz.func449 rfl (by kernel_rfl) (by kernel_rfl) (by kernel_rfl)
  · exact (ext2_ok _ _).ok Tryz.func277 rfl (by kernel_rfl) (by kernel_rfl) (by kernel_rfl)
  · exact (extId_ok _).ok Tryz.func278 rfl (by kernel_rfl) (by kernel_rfl) (by kernel_rfl)
  · exact (extMakeNoZero_ok Tryz.prog #[3] #[113]).ok Tryz.func655 rfl (by kernel_rfl) (by kernel_rfl) (by kernel_rfl)
  · exact (swapC_ok Tryz.prog 86 false).ok Tryz.func664 rfl (by kernel_rfl) (by kernel_rfl) (by kernel_rfl)

theorem mixed : Tryz.prog.follows .mixedOrders = true := by kernel_rfl
end Go.Proofs.YtbmekbpgoakkbaaGreatDoor.Vx
set_option linter.unusedVariables false
set_option linter.constructorNameAsVariable false
namespace Go.Proofs.YtbmekbpgoakkbaaGreatDoor.Vx.Sp
open Go

noncomputable def shape (t : TypeId) : Option (Bool × Nat) := match PP.underlying t with
  | some d => (match PP.info? t with
    | some i => some (isAggD d, i.size)
    | none => none)
  | none => none

noncomputable def fCells (t : TypeId) (n : Nat) (c : Cs) (off : Nat) (k : AV → Bool) : Bool :=
  Option.rec (motive := fun _ => Nat → Cs → Nat → (AV → Bool) → Bool) (fun _ _ _ _ => false)
    (fun p => Prod.rec (motive := fun _ => Nat → Cs → Nat → (AV → Bool) → Bool) (fun g sz n c off k => bc g (bc (Nat.ble (Nat.add off sz) n) (rdC c sz off fun l => k (.ag l)) false) (bc (Nat.ble (Nat.succ off) n) (fForce (c.get off) k) false)) p) (shape t) n c off k

noncomputable def infoSize (t : TypeId) : Option Nat := match PP.info? t with
  | some i => some i.size
  | none => none

noncomputable def fLoad (t : TypeId) (x : AV) (h : Heap) (k : AV → Bool) : Bool :=
  AV.rec (motive_1 := fun _ => TypeId → Heap → (AV → Bool) → Bool) (motive_2 := fun _ => Bool)
    (fun t h k => false)
    (fun t h k => false)
    (fun q0 t h k => false)
    (fun q0 q1 t h k => false)
    (fun q0 q1 t h k => false)
    (fun t h k => false)
    (fun q0 q1 t h k => false)
    (fun t h k => false)
    (fun id off t h k => AO.rec (motive := fun _ => TypeId → Nat → (AV → Bool) → Bool) (fun _ _ _ => false) (fun n _ c t off k => fCells t n c off k) (fun _ _ _ _ _ => false) (fun _ _ _ _ _ _ => false) (fun _ n c t off k => evCellsG PP t n c off k) (fun _ _ _ _ => false) (fun _ _ _ _ => false) (fun _ _ _ _ _ => false) (fun _ _ _ _ _ _ _ _ => false) (fun _ _ _ _ _ _ _ => false) (fGetH h id) t off k)
    (fun g off t h k => evLoad PP t (.pg g off) h k)
    (fun t h k => false)
    (fun q0 q1 q2 q3 t h k => false)
    (fun q0 q1 q2 q3 t h k => false)
    (fun q0 q1 q2 _ _ t h k => false)
    (fun t h k => false)
    (fun q0 q1 _ t h k => false)
    (fun t h k => false)
    (fun q0 _ t h k => false)
    (fun q0 _ t h k => false)
    (fun q0 t h k => false)
    (fun t h k => false)
    (fun q0 t h k => false)
    (fun q0 _ t h k => false)
    (fun q0 q1 t h k => false)
    (fun t h k => false)
    (fun q0 q1 q2 q3 t h k => false)
    (fun q0 q1 t h k => false)
    (fun q0 q1 t h k => false)
    true (fun _ _ _ _ => true) x t h k

noncomputable def fStore (t : TypeId) (x v : AV) (h : Heap) (k : Heap → Bool) : Bool :=
  AV.rec (motive_1 := fun _ => TypeId → AV → Heap → (Heap → Bool) → Bool) (motive_2 := fun _ => Bool)
    (fun t v h k => false)
    (fun t v h k => false)
    (fun q0 t v h k => false)
    (fun q0 q1 t v h k => false)
    (fun q0 q1 t v h k => false)
    (fun t v h k => false)
    (fun q0 q1 t v h k => false)
    (fun t v h k => false)
    (fun id off t v h k => Option.rec (motive := fun _ => Nat → Nat → AV → Heap → (Heap → Bool) → Bool) (fun _ _ _ _ _ => false) (fun sz id off v h k => AO.rec (motive := fun _ => Nat → Nat → Nat → AV → Heap → (Heap → Bool) → Bool) (fun _ _ _ _ _ _ => false) (fun n esz c id off sz v h k => fStoreC id off sz v h k n esz c) (fun _ _ _ _ _ _ _ _ => false) (fun _ _ _ _ _ _ _ _ _ => false) (fun _ _ _ _ _ _ _ _ _ => false) (fun _ _ _ _ _ _ _ => false) (fun _ _ _ _ _ _ _ => false) (fun _ _ _ _ _ _ _ _ => false) (fun _ _ _ _ _ _ _ _ _ _ _ => false) (fun _ _ _ _ _ _ _ _ _ _ => false) (fGetH h id) id off sz v h k) (infoSize t) id off v h k)
    (fun q0 q1 t v h k => false)
    (fun t v h k => false)
    (fun q0 q1 q2 q3 t v h k => false)
    (fun q0 q1 q2 q3 t v h k => false)
    (fun q0 q1 q2 _ _ t v h k => false)
    (fun t v h k => false)
    (fun q0 q1 _ t v h k => false)
    (fun t v h k => false)
    (fun q0 _ t v h k => false)
    (fun q0 _ t v h k => false)
    (fun q0 t v h k => false)
    (fun t v h k => false)
    (fun q0 t v h k => false)
    (fun q0 _ t v h k => false)
    (fun q0 q1 t v h k => false)
    (fun t v h k => false)
    (fun q0 q1 q2 q3 t v h k => false)
    (fun q0 q1 t v h k => false)
    (fun q0 q1 t v h k => false)
    true (fun _ _ _ _ => true) x t v h k

noncomputable def fieldOff (s : TypeId) (f : Nat) : Option Nat := match PP.underlying s with
  | some (.struct fs) => (match fs[f]? with
    | some fld => (match PP.info? fld.type with
      | some i => bif Nat.ble 1 i.size then some fld.offset else none
      | none => none)
    | none => none)
  | _ => none

noncomputable def fFieldAddr (s : TypeId) (x : AV) (f : Nat) (k : AV → Bool) : Bool :=
  AV.rec (motive_1 := fun _ => TypeId → Nat → (AV → Bool) → Bool) (motive_2 := fun _ => Bool)
    (fun s f k => false)
    (fun s f k => false)
    (fun q0 s f k => false)
    (fun q0 q1 s f k => false)
    (fun q0 q1 s f k => false)
    (fun s f k => false)
    (fun q0 q1 s f k => false)
    (fun s f k => false)
    (fun id off s f k => Option.rec (motive := fun _ => Nat → Nat → (AV → Bool) → Bool) (fun _ _ _ => false) (fun o id off k => forceN (Nat.add off o) fun o => k (.p id o)) (fieldOff s f) id off k)
    (fun id off s f k => Option.rec (motive := fun _ => Nat → Nat → (AV → Bool) → Bool) (fun _ _ _ => false) (fun o id off k => forceN (Nat.add off o) fun o => k (.pg id o)) (fieldOff s f) id off k)
    (fun s f k => false)
    (fun q0 q1 q2 q3 s f k => false)
    (fun q0 q1 q2 q3 s f k => false)
    (fun q0 q1 q2 _ _ s f k => false)
    (fun s f k => false)
    (fun q0 q1 _ s f k => false)
    (fun s f k => false)
    (fun q0 _ s f k => false)
    (fun q0 _ s f k => false)
    (fun q0 s f k => false)
    (fun s f k => false)
    (fun q0 s f k => false)
    (fun q0 _ s f k => false)
    (fun q0 q1 s f k => false)
    (fun s f k => false)
    (fun q0 q1 q2 q3 s f k => false)
    (fun q0 q1 s f k => false)
    (fun q0 q1 s f k => false)
    true (fun _ _ _ _ => true) x s f k

noncomputable def idxInfo (t : TypeId) : Option (Nat × Nat) := match PP.underlying t with
  | some (.slice el) => (match PP.info? el with
    | some i => some (0, i.size)
    | none => none)
  | some (.array len el) => (match PP.info? el with
    | some i => some (Nat.succ len, i.size)
    | none => none)
  | _ => none

noncomputable def fIndexAddr (t : TypeId) (x ix : AV) (k : AV → Bool) : Bool :=
  AV.rec (motive_1 := fun _ => TypeId → AV → (AV → Bool) → Bool) (motive_2 := fun _ => Bool)
    (fun t x k => false)
    (fun t x k => false)
    (fun q0 t x k => false)
    (fun kk n t x k => natOf n fun m => Option.rec (motive := fun _ => AV → Nat → (AV → Bool) → Bool) (fun _ _ _ => false) (fun p => Prod.rec (motive := fun _ => AV → Nat → (AV → Bool) → Bool) (fun a sz x m k => fIdxP x a sz m k) p) (idxInfo t) x m k)
    (fun q0 q1 t x k => false)
    (fun t x k => false)
    (fun q0 q1 t x k => false)
    (fun t x k => false)
    (fun q0 q1 t x k => false)
    (fun q0 q1 t x k => false)
    (fun t x k => false)
    (fun q0 q1 q2 q3 t x k => false)
    (fun q0 q1 q2 q3 t x k => false)
    (fun q0 q1 q2 _ _ t x k => false)
    (fun t x k => false)
    (fun q0 q1 _ t x k => false)
    (fun t x k => false)
    (fun q0 _ t x k => false)
    (fun q0 _ t x k => false)
    (fun q0 t x k => false)
    (fun t x k => false)
    (fun q0 t x k => false)
    (fun q0 _ t x k => false)
    (fun q0 q1 t x k => false)
    (fun t x k => false)
    (fun q0 q1 q2 q3 t x k => false)
    (fun q0 q1 t x k => false)
    (fun q0 q1 t x k => false)
    true (fun _ _ _ _ => true) ix t x k

noncomputable def fBinI (op : BinOp) (t : TypeId) (ka : IntKind) (a : Int) (xo yo : Operand) (y : AV) (h : Heap) (k : AV → Bool) : Bool :=
  AV.rec (motive_1 := fun _ => BinOp → TypeId → IntKind → Int → Operand → Operand → Heap → (AV → Bool) → Bool) (motive_2 := fun _ => Bool)
          (fun op t ka a xo yo h k => pure2 PP (binOp op t) (.i ka a) .no k)
          (fun op t ka a xo yo h k => pure2 PP (binOp op t) (.i ka a) .un k)
          (fun q0 op t ka a xo yo h k => pure2 PP (binOp op t) (.i ka a) (.b q0) k)
          (fun kb b op t ka a xo yo h k => bc (Nat.beq (ikc ka) (ikc kb)) (fInt op ka a b k (pure2 PP (binOp op t) (.i ka a) (.i kb b) k)) (pure2 PP (binOp op t) (.i ka a) (.i kb b) k))
          (fun q0 q1 op t ka a xo yo h k => pure2 PP (binOp op t) (.i ka a) (.f q0 q1) k)
          (fun op t ka a xo yo h k => pure2 PP (binOp op t) (.i ka a) .nan k)
          (fun q0 q1 op t ka a xo yo h k => pure2 PP (binOp op t) (.i ka a) (.s q0 q1) k)
          (fun op t ka a xo yo h k => pure2 PP (binOp op t) (.i ka a) .pn k)
          (fun q0 q1 op t ka a xo yo h k => pure2 PP (binOp op t) (.i ka a) (.p q0 q1) k)
          (fun q0 q1 op t ka a xo yo h k => pure2 PP (binOp op t) (.i ka a) (.pg q0 q1) k)
          (fun op t ka a xo yo h k => pure2 PP (binOp op t) (.i ka a) .sn k)
          (fun q0 q1 q2 q3 op t ka a xo yo h k => pure2 PP (binOp op t) (.i ka a) (.sl q0 q1 q2 q3) k)
          (fun q0 q1 q2 q3 op t ka a xo yo h k => pure2 PP (binOp op t) (.i ka a) (.so q0 q1 q2 q3) k)
          (fun q0 q1 q2 _ _ op t ka a xo yo h k => pure2 PP (binOp op t) (.i ka a) (.fn q0 q1 q2) k)
          (fun op t ka a xo yo h k => pure2 PP (binOp op t) (.i ka a) .fnil k)
          (fun q0 q1 _ op t ka a xo yo h k => pure2 PP (binOp op t) (.i ka a) (.ifc q0 q1) k)
          (fun op t ka a xo yo h k => pure2 PP (binOp op t) (.i ka a) .inil k)
          (fun q0 _ op t ka a xo yo h k => pure2 PP (binOp op t) (.i ka a) (.ag q0) k)
          (fun q0 _ op t ka a xo yo h k => pure2 PP (binOp op t) (.i ka a) (.tu q0) k)
          (fun q0 op t ka a xo yo h k => pure2 PP (binOp op t) (.i ka a) (.mp q0) k)
          (fun op t ka a xo yo h k => pure2 PP (binOp op t) (.i ka a) .mpn k)
          (fun q0 op t ka a xo yo h k => pure2 PP (binOp op t) (.i ka a) (.ii q0) k)
          (fun q0 _ op t ka a xo yo h k => pure2 PP (binOp op t) (.i ka a) (.pk q0) k)
          (fun s e op t ka a xo yo h k => evBin PP op t xo yo (.i ka a) (.x s e) h k)
          (fun op t ka a xo yo h k => pure2 PP (binOp op t) (.i ka a) .any k)
          (fun q0 q1 q2 q3 op t ka a xo yo h k => pure2 PP (binOp op t) (.i ka a) (.sx q0 q1 q2 q3) k)
          (fun q0 q1 op t ka a xo yo h k => pure2 PP (binOp op t) (.i ka a) (.sz q0 q1) k)
          (fun q0 q1 op t ka a xo yo h k => pure2 PP (binOp op t) (.i ka a) (.sr q0 q1) k)
          true (fun _ _ _ _ => true) y op t ka a xo yo h k

noncomputable def fBin (op : BinOp) (t : TypeId) (xo yo : Operand) (x y : AV) (h : Heap) (k : AV → Bool) : Bool :=
  AV.rec (motive_1 := fun _ => BinOp → TypeId → Operand → Operand → AV → Heap → (AV → Bool) → Bool) (motive_2 := fun _ => Bool)
    (fun op t xo yo y h k => evBin PP op t xo yo .no y h k)
    (fun op t xo yo y h k => evBin PP op t xo yo .un y h k)
    (fun q0 op t xo yo y h k => evBin PP op t xo yo (.b q0) y h k)
    (fun ka a op t xo yo y h k => fBinI op t ka a xo yo y h k)
    (fun q0 q1 op t xo yo y h k => evBin PP op t xo yo (.f q0 q1) y h k)
    (fun op t xo yo y h k => evBin PP op t xo yo .nan y h k)
    (fun q0 q1 op t xo yo y h k => evBin PP op t xo yo (.s q0 q1) y h k)
    (fun op t xo yo y h k => evBin PP op t xo yo .pn y h k)
    (fun q0 q1 op t xo yo y h k => evBin PP op t xo yo (.p q0 q1) y h k)
    (fun q0 q1 op t xo yo y h k => evBin PP op t xo yo (.pg q0 q1) y h k)
    (fun op t xo yo y h k => evBin PP op t xo yo .sn y h k)
    (fun q0 q1 q2 q3 op t xo yo y h k => evBin PP op t xo yo (.sl q0 q1 q2 q3) y h k)
    (fun q0 q1 q2 q3 op t xo yo y h k => evBin PP op t xo yo (.so q0 q1 q2 q3) y h k)
    (fun q0 q1 q2 _ _ op t xo yo y h k => evBin PP op t xo yo (.fn q0 q1 q2) y h k)
    (fun op t xo yo y h k => evBin PP op t xo yo .fnil y h k)
    (fun q0 q1 _ op t xo yo y h k => evBin PP op t xo yo (.ifc q0 q1) y h k)
    (fun op t xo yo y h k => evBin PP op t xo yo .inil y h k)
    (fun q0 _ op t xo yo y h k => evBin PP op t xo yo (.ag q0) y h k)
    (fun q0 _ op t xo yo y h k => evBin PP op t xo yo (.tu q0) y h k)
    (fun q0 op t xo yo y h k => evBin PP op t xo yo (.mp q0) y h k)
    (fun op t xo yo y h k => evBin PP op t xo yo .mpn y h k)
    (fun q0 op t xo yo y h k => evBin PP op t xo yo (.ii q0) y h k)
    (fun q0 _ op t xo yo y h k => evBin PP op t xo yo (.pk q0) y h k)
    (fun q0 q1 op t xo yo y h k => evBin PP op t xo yo (.x q0 q1) y h k)
    (fun op t xo yo y h k => evBin PP op t xo yo .any y h k)
    (fun q0 q1 q2 q3 op t xo yo y h k => evBin PP op t xo yo (.sx q0 q1 q2 q3) y h k)
    (fun q0 q1 op t xo yo y h k => evBin PP op t xo yo (.sz q0 q1) y h k)
    (fun q0 q1 op t xo yo y h k => evBin PP op t xo yo (.sr q0 q1) y h k)
    true (fun _ _ _ _ => true) x op t xo yo y h k

noncomputable def mkI (t : TypeId) : Bool := match PP.underlying t with
  | some (.interface _) => false
  | some _ => true
  | none => false

noncomputable def fMkIface (t : TypeId) (x : AV) (k : AV → Bool) : Bool :=
  bc (mkI t) (AV.rec (motive_1 := fun _ => TypeId → (AV → Bool) → Bool) (motive_2 := fun _ => Bool)
    (fun t k => false)
    (fun t k => k (.ifc t .un))
    (fun q0 t k => k (.ifc t (.b q0)))
    (fun q0 q1 t k => k (.ifc t (.i q0 q1)))
    (fun q0 q1 t k => k (.ifc t (.f q0 q1)))
    (fun t k => k (.ifc t .nan))
    (fun q0 q1 t k => k (.ifc t (.s q0 q1)))
    (fun t k => k (.ifc t .pn))
    (fun q0 q1 t k => k (.ifc t (.p q0 q1)))
    (fun q0 q1 t k => k (.ifc t (.pg q0 q1)))
    (fun t k => k (.ifc t .sn))
    (fun q0 q1 q2 q3 t k => k (.ifc t (.sl q0 q1 q2 q3)))
    (fun q0 q1 q2 q3 t k => k (.ifc t (.so q0 q1 q2 q3)))
    (fun q0 q1 q2 _ _ t k => k (.ifc t (.fn q0 q1 q2)))
    (fun t k => k (.ifc t .fnil))
    (fun q0 q1 _ t k => k (.ifc t (.ifc q0 q1)))
    (fun t k => k (.ifc t .inil))
    (fun q0 _ t k => k (.ifc t (.ag q0)))
    (fun q0 _ t k => k (.ifc t (.tu q0)))
    (fun q0 t k => k (.ifc t (.mp q0)))
    (fun t k => k (.ifc t .mpn))
    (fun q0 t k => k (.ifc t (.ii q0)))
    (fun q0 _ t k => k (.ifc t (.pk q0)))
    (fun q0 q1 t k => k (.ifc t (.x q0 q1)))
    (fun t k => k (.ifc t .any))
    (fun q0 q1 q2 q3 t k => k (.ifc t (.sx q0 q1 q2 q3)))
    (fun q0 q1 t k => k (.ifc t (.sz q0 q1)))
    (fun q0 q1 t k => k (.ifc t (.sr q0 q1)))
    true (fun _ _ _ _ => true) x t k) false

noncomputable def convI (s d : TypeId) : Option IntKind := match PP.underlying s with
  | some (.int _) => (match PP.underlying d with
    | some (.int kk) => some kk
    | _ => none)
  | _ => none

noncomputable def fConv (s d : TypeId) (x : AV) (h : Heap) (k : AV → Bool) : Bool :=
  Option.rec (motive := fun _ => TypeId → TypeId → AV → Heap → (AV → Bool) → Bool) (fun s d x h k => evConvH PP s d x h k)
   (fun kk s d x h k => AV.rec (motive_1 := fun _ => IntKind → TypeId → TypeId → Heap → (AV → Bool) → Bool) (motive_2 := fun _ => Bool)
    (fun kk s d h k => evConvH PP s d .no h k)
    (fun kk s d h k => evConvH PP s d .un h k)
    (fun q0 kk s d h k => evConvH PP s d (.b q0) h k)
    (fun ka n kk s d h k => Int.rec (motive := fun _ => Bool) (fun m => bc (Nat.ble m (natLim kk)) (k (.i kk (.ofNat m))) (evConvH PP s d (.i ka n) h k)) (fun _ => evConvH PP s d (.i ka n) h k) n)
    (fun q0 q1 kk s d h k => evConvH PP s d (.f q0 q1) h k)
    (fun kk s d h k => evConvH PP s d .nan h k)
    (fun q0 q1 kk s d h k => evConvH PP s d (.s q0 q1) h k)
    (fun kk s d h k => evConvH PP s d .pn h k)
    (fun q0 q1 kk s d h k => evConvH PP s d (.p q0 q1) h k)
    (fun q0 q1 kk s d h k => evConvH PP s d (.pg q0 q1) h k)
    (fun kk s d h k => evConvH PP s d .sn h k)
    (fun q0 q1 q2 q3 kk s d h k => evConvH PP s d (.sl q0 q1 q2 q3) h k)
    (fun q0 q1 q2 q3 kk s d h k => evConvH PP s d (.so q0 q1 q2 q3) h k)
    (fun q0 q1 q2 _ _ kk s d h k => evConvH PP s d (.fn q0 q1 q2) h k)
    (fun kk s d h k => evConvH PP s d .fnil h k)
    (fun q0 q1 _ kk s d h k => evConvH PP s d (.ifc q0 q1) h k)
    (fun kk s d h k => evConvH PP s d .inil h k)
    (fun q0 _ kk s d h k => evConvH PP s d (.ag q0) h k)
    (fun q0 _ kk s d h k => evConvH PP s d (.tu q0) h k)
    (fun q0 kk s d h k => evConvH PP s d (.mp q0) h k)
    (fun kk s d h k => evConvH PP s d .mpn h k)
    (fun q0 kk s d h k => evConvH PP s d (.ii q0) h k)
    (fun q0 _ kk s d h k => evConvH PP s d (.pk q0) h k)
    (fun q0 q1 kk s d h k => evConvH PP s d (.x q0 q1) h k)
    (fun kk s d h k => evConvH PP s d .any h k)
    (fun q0 q1 q2 q3 kk s d h k => evConvH PP s d (.sx q0 q1 q2 q3) h k)
    (fun q0 q1 kk s d h k => evConvH PP s d (.sz q0 q1) h k)
    (fun q0 q1 kk s d h k => evConvH PP s d (.sr q0 q1) h k)
    true (fun _ _ _ _ => true) x kk s d h k) (convI s d) s d x h k

noncomputable def fRd (op : Op) (regs : Regs) (h : Heap) (k : AV → Bool) : Bool :=
  Op.rec (motive := fun _ => Regs → Heap → (AV → Bool) → Bool)
    (fun x regs _ k => fOpd x regs k)
    (fun x regs _ k => fOpd x regs k)
    (fun c x y regs h k => fOpd c regs fun c => fPick h c (fOpd x regs k) (fOpd y regs k))
    (fun _ _ _ _ => false)
    (fun _ _ _ _ _ => false)
    (fun t ps regs _ k => fOpdsP (Array.toList ps) regs fun l => evBuild PP t l k)
    (fun _ _ _ _ _ _ => false)
    (fun _ _ _ _ _ _ _ => false)
    (fun t x regs h k => fOpd x regs fun x => fLoad t x h k)
    (fun _ _ _ _ _ _ => false)
    (fun _ _ _ _ => false)
    (fun _ _ _ _ => false)
    (fun x regs _ k => fOpd x regs fun v => okNil v (k v))
    (fun op t x y _ regs h k => fOpd x regs fun a => fOpd y regs fun b => fBin op t x y a b h k)
    (fun op _ x regs _ k => fOpd x regs fun a => evUn PP op a k)
    (fun s d x regs h k => fOpd x regs fun a => fConv s d a h k)
    (fun _ _ _ _ _ => false)
    (fun t x regs _ k => fOpd x regs fun a => fMkIface t a k)
    (fun g first captured regs _ k => fOpds (Array.toList first) regs fun l => fOpds (Array.toList captured) regs fun m => k (.fn g l m))
    (fun _ _ _ _ _ => false)
    (fun _ _ _ _ _ => false)
    (fun _ _ _ _ _ _ => false)
    (fun t x lo hi mx regs h k => evRd PP (.slice t x lo hi mx) regs h k)
    (fun s x f regs _ k => fOpd x regs fun x => fFieldAddr s x f k)
    (fun t x f regs _ k => fOpd x regs fun x => evField PP t x f k)
    (fun t x i regs h k => fOpd x regs fun x => fOpd i regs fun i => bc (isXv i) (evIdxS PP t x i h k) (fIndexAddr t x i k))
    (fun t x i regs _ k => fOpd x regs fun x => fOpd i regs fun i => evIndex PP t x i k)
    (fun t x i ok regs h k => fOpd x regs fun x => fOpd i regs fun i => evLookup PP t x i ok h k)
    (fun _ _ _ _ _ _ _ => false)
    (fun _ _ _ _ _ _ => false)
    (fun _ _ _ _ _ _ _ => false)
    (fun _ _ _ _ _ => false)
    (fun _ _ _ _ _ => false)
    (fun _ _ _ _ => false)
    (fun x _ t ok regs _ k => fOpd x regs fun x => evAssert PP x t ok k)
    (fun x i regs _ k => fOpd x regs fun x => fExtract x i k)
    (fun c regs h k => evRd PP (.call c) regs h k)
    (fun _ _ _ _ => false)
    (fun _ _ _ _ => false)
    (fun _ _ _ _ => false)
    (fun _ _ _ _ _ => false)
    (fun _ _ _ _ _ _ => false)
    (fun _ _ _ _ _ => false) op regs h k

noncomputable def zeroT (t : TypeId) : Option (Nat × Cs) := match PP.info? t with
  | some i => (match i.zero with
    | some z => (match zeroV (absV z) with
      | some l => some (List.length l, wrCs l ⟨List.length l, bigR⟩ 0)
      | none => none)
    | none => none)
  | none => none

noncomputable def fAlloc (t : TypeId) (h : Heap) (nxt : Nat) (k : K) : Bool :=
  Option.rec (motive := fun _ => TypeId → Heap → Nat → K → Bool) (fun _ _ _ _ => false)
    (fun p => Prod.rec (motive := fun _ => TypeId → Heap → Nat → K → Bool) (fun n c t h nxt k => forceN n fun n => fSetH (.cells n ⟨0, some t, true⟩ c) h nxt fun h' => forceN (Nat.succ nxt) fun m => k (.p nxt 0) h' m) p) (zeroT t) t h nxt k

noncomputable def fnKind (g : FuncId) : Option (Option (List AV → Heap → Nat → K → Bool)) := match PP.funcs[g]? with
  | some fn => (match fn.body with
    | some _ => bif fn.name == "runtime.NumGoroutine" then none else some none
    | none => (match XT g with
      | some C => some (some C)
      | none => none))
  | none => none

noncomputable def fFn (g : FuncId) (call : (CallF × K)) (args : List AV) (h : Heap) (nxt : Nat) (k : K) : Bool :=
  Option.rec (motive := fun _ => FuncId → (CallF × K) → List AV → Heap → Nat → K → Bool) (fun _ _ _ _ _ _ => false)
    (fun o => Option.rec (motive := fun _ => FuncId → (CallF × K) → List AV → Heap → Nat → K → Bool) (fun g call args h nxt k => call.1 g args h nxt (pkK k call.2)) (fun C _ _ args h nxt k => C args h nxt k) o) (fnKind g) g call args h nxt k

noncomputable def fCallV (f : AV) (args : List AV) (call : (CallF × K)) (h : Heap) (nxt : Nat) (k : K) : Bool := match f with
  | .fn (.func g) first captured => forceL (first ++ (args ++ captured)) fun l => fFn g call l h nxt k
  | .fn (.method name) (recv :: first) _ => forceL (first ++ args) fun l => evInvoke PP call.1 XT call.2 recv name l h nxt k
  | _ => false

noncomputable def fCallO (f : Operand) (regs : Regs) (args : List AV) (call : (CallF × K)) (h : Heap) (nxt : Nat) (k : K) : Bool :=
  Operand.rec (motive := fun _ => Regs → List AV → (CallF × K) → Heap → Nat → K → Bool) (fun t regs args call h nxt k => fOpd (.tmp t) regs fun f => fCallV f args call h nxt k) (fun v regs args call h nxt k => fOpd (.const v) regs fun f => fCallV f args call h nxt k)
    (fun _ _ _ _ _ _ _ => false) (fun g _ args call h nxt k => fFn g call args h nxt k) f regs args call h nxt k

noncomputable def fCallOp (c : Call) (call : (CallF × K)) (regs : Regs) (h : Heap) (nxt : Nat) (k : K) : Bool :=
  Call.rec (motive := fun _ => (CallF × K) → Regs → Heap → Nat → K → Bool) (fun callee args ts call regs h nxt k => fOpds (Array.toList args) regs fun args =>
    Callee.rec (motive := fun _ => Array TypeId → (CallF × K) → Regs → List AV → Heap → Nat → K → Bool)
      (fun f _ call regs args h nxt k => fCallO f regs args call h nxt k)
      (fun recv name _ call regs args h nxt k => fOpd recv regs fun r => evInvoke PP call.1 XT call.2 r name args h nxt k)
      (fun b ts _ _ args h nxt k => evBuiltin PP b (Array.toList ts) args h nxt k) callee ts call regs args h nxt k) c call regs h nxt k

noncomputable def fOp (op : Op) (call : (CallF × K)) (regs : Regs) (h : Heap) (nxt : Nat) (k : K) : Bool :=
  Op.rec (motive := fun _ => (CallF × K) → Regs → Heap → Nat → K → Bool)
    (fun x _ regs h nxt k => fOpd x regs fun v => k v h nxt)
    (fun x _ regs h nxt k => fOpd x regs fun v => k v h nxt)
    (fun c x y _ regs h nxt k => fOpd c regs fun c => fPick h c (fOpd x regs fun v => k v h nxt) (fOpd y regs fun v => k v h nxt))
    (fun t _ _ h nxt k => fAlloc t h nxt k)
    (fun t x _ regs h nxt k => fOpd x regs fun v => evBox t v h nxt k)
    (fun t ps _ regs h nxt k => fOpdsP (Array.toList ps) regs fun l => evBuild PP t l fun v => k v h nxt)
    (fun t n ps _ regs h nxt k => fOpdsP (Array.toList ps) regs fun l => evBuildSlice PP t n l h nxt k)
    (fun t m x y call regs h nxt k => evOp PP call.1 XT call.2 (.insert t m x y) regs h nxt k)
    (fun t x _ regs h nxt k => fOpd x regs fun x => fLoad t x h fun v => k v h nxt)
    (fun t x y _ regs h nxt k => fOpd x regs fun x => fOpd y regs fun y => fStore t x y h fun h' => k .un h' nxt)
    (fun _ _ _ _ _ _ => false)
    (fun _ _ _ _ _ _ => false)
    (fun x _ regs h nxt k => fOpd x regs fun v => okNil v (k v h nxt))
    (fun op t x y _ _ regs h nxt k => fOpd x regs fun a => fOpd y regs fun b => fBin op t x y a b h fun v => k v h nxt)
    (fun op _ x _ regs h nxt k => fOpd x regs fun a => evUn PP op a fun v => k v h nxt)
    (fun s d x _ regs h nxt k => fOpd x regs fun a => fConv s d a h fun v => k v h nxt)
    (fun _ _ _ _ _ _ _ => false)
    (fun t x _ regs h nxt k => fOpd x regs fun a => fMkIface t a fun v => k v h nxt)
    (fun g first captured _ regs h nxt k => fOpds (Array.toList first) regs fun l => fOpds (Array.toList captured) regs fun m => k (.fn g l m) h nxt)
    (fun t r call regs h nxt k => evOp PP call.1 XT call.2 (.makeMap t r) regs h nxt k)
    (fun _ _ _ _ _ _ _ => false)
    (fun t l c call regs h nxt k => evOp PP call.1 XT call.2 (.makeSlice t l c) regs h nxt k)
    (fun t x lo hi mx _ regs h nxt k => evRd PP (.slice t x lo hi mx) regs h fun v => k v h nxt)
    (fun s x f _ regs h nxt k => fOpd x regs fun x => fFieldAddr s x f fun v => k v h nxt)
    (fun t x f _ regs h nxt k => fOpd x regs fun x => evField PP t x f fun v => k v h nxt)
    (fun t x i _ regs h nxt k => fOpd x regs fun x => fOpd i regs fun i => bc (isXv i) (evIdxS PP t x i h fun v => k v h nxt) (fIndexAddr t x i fun v => k v h nxt))
    (fun t x i _ regs h nxt k => fOpd x regs fun x => fOpd i regs fun i => evIndex PP t x i fun v => k v h nxt)
    (fun t x i ok _ regs h nxt k => fOpd x regs fun x => fOpd i regs fun i => evLookup PP t x i ok h fun v => k v h nxt)
    (fun t m x y call regs h nxt k => evOp PP call.1 XT call.2 (.mapUpdate t m x y) regs h nxt k)
    (fun _ _ _ _ _ _ _ _ => false)
    (fun _ _ _ _ _ _ _ _ _ => false)
    (fun _ _ _ _ _ _ _ => false)
    (fun _ _ _ _ _ _ _ => false)
    (fun _ _ _ _ _ _ => false)
    (fun x _ t ok _ regs h nxt k => fOpd x regs fun x => evAssert PP x t ok fun v => k v h nxt)
    (fun x i _ regs h nxt k => fOpd x regs fun x => fExtract x i fun v => k v h nxt)
    (fun c call regs h nxt k => fCallOp c call regs h nxt k)
    (fun _ _ _ _ _ _ => false)
    (fun _ _ _ _ _ _ => false)
    (fun x call regs h nxt k => fOpd x regs fun v => evPanic v h nxt call.2)
    (fun _ _ _ _ _ _ _ => false)
    (fun _ _ _ _ _ _ _ _ => false)
    (fun _ _ _ _ _ _ _ => false) op call regs h nxt k

noncomputable def fOps (l : List Oper) (call : CallF) (nt : Nat) (ops : Array Oper) (kq : S) (kn : S) (regs : Regs) (h : Heap) (nxt : Nat) : Bool :=
  List.rec (motive := fun _ => CallF → Nat → Array Oper → S → S → Regs → Heap → Nat → Bool) (fun _ _ _ _ kn regs h nxt => kn regs h nxt)
    (fun o _ ih call nt ops kq kn regs h nxt => fWant o ops regs h
      (fun h => fOp o.op (call, kxP kq regs) regs h nxt fun v h' nxt' => fPut o.dst nt v regs fun regs' => ih call nt ops kq kn regs' h' nxt')
      (fun h => fPut o.dst nt .un regs fun regs' => ih call nt ops kq kn regs' h nxt)) l call nt ops kq kn regs h nxt

noncomputable def fPure (nt : Nat) (o : Oper) (regs : Regs) (g : Heap) (k : Regs → Bool) : Bool := fRd o.op regs g fun v => bc (exK v) (fPut o.dst nt v regs k) false

noncomputable def fPickS (o : Oper) (nt : Nat) (regs : Regs) (h : Heap) (k : Regs → Bool) : Bool := match o.op with
  | .pick c x y => fOpd c regs fun c => fPick h c (fOpd x regs fun v => bc (exK v) (fPut o.dst nt v regs k) false) (fOpd y regs fun v => bc (exK v) (fPut o.dst nt v regs k) false)
  | _ => fPure nt o regs .nil k

noncomputable def fFloor (call : CallF) (kp : Regs → K) (nt : Nat) (o : Oper) (regs : Regs) (h : Heap) (nxt : Nat) (k : S) : Bool :=
  fSetH (.floor nxt) h 0 fun hf => bc (Nat.beq (flr hf) nxt) (fOp o.op (call, fun v h' nxt' => fSetH (fGetH h 0) h' 0 fun h'' => kp regs v h'' nxt') regs hf nxt fun v h' nxt' => fSetH (fGetH h 0) h' 0 fun h'' => fPut o.dst nt v regs fun regs' => k regs' h'' nxt') false

noncomputable def fBeside (call : CallF) (kp : Regs → K) (nt : Nat) (o : Oper) (b : Nat) (pr : Rds) (regs : Regs) (h : Heap) (nxt : Nat) (k : S) : Bool := match o.op with
  | .store t x y => fOpd x regs fun xv => match xv with
    | .p id off => (match PP.info? t with
      | some i => bc (clearOf pr b id off i.size) (fOp (.store t x y) (call, kp regs) regs h nxt fun v h' nxt' => fPut o.dst nt v regs fun regs' => k regs' h' nxt') (fFloor call kp nt o regs h nxt k)
      | none => false)
    | _ => false
  | .call c => bc pr.isSome (fOp (.call c) (call, kp regs) regs h nxt fun v h' nxt' => bc (keptOK pr b h h') (fPut o.dst nt v regs fun regs' => k regs' h' nxt') false) (fFloor call kp nt o regs h nxt k)
  | _ => fFloor call kp nt o regs h nxt k

noncomputable def fStep (m : Nat) (call : CallF) (kp : Regs → K) (nt : Nat) (x : Inf) (pr : Rds) (regs : Regs) (h : Heap) (nxt : Nat) (k : Rds → S) : Bool :=
  Nat.rec (motive := fun _ => CallF → (Regs → K) → Nat → Inf → Rds → Regs → Heap → Nat → (Rds → S) → Bool) (fun _ _ nt x pr regs h nxt k => fPickS x.o nt regs h fun regs' => k pr regs' h nxt)
    (fun m _ => Nat.rec (motive := fun _ => CallF → (Regs → K) → Nat → Inf → Rds → Regs → Heap → Nat → (Rds → S) → Bool) (fun _ _ nt x pr regs h nxt k => rdsOf PP x.i x.o.op regs h pr fun pr' => fPure nt x.o regs h fun regs' => k pr' regs' h nxt)
      (fun m _ => Nat.rec (motive := fun _ => CallF → (Regs → K) → Nat → Inf → Rds → Regs → Heap → Nat → (Rds → S) → Bool) (fun call kp nt x pr regs h nxt k => fOp x.o.op (call, kp regs) regs h nxt fun v h' nxt' => fPut x.o.dst nt v regs fun regs' => k pr regs' h' nxt')
        (fun m _ => Nat.rec (motive := fun _ => CallF → (Regs → K) → Nat → Inf → Rds → Regs → Heap → Nat → (Rds → S) → Bool) (fun call kp nt x pr regs h nxt k => fBeside call kp nt x.o x.b pr regs h nxt (k pr))
          (fun m _ => Nat.rec (motive := fun _ => CallF → (Regs → K) → Nat → Inf → Rds → Regs → Heap → Nat → (Rds → S) → Bool) (fun _ _ nt x pr regs h nxt k => evNew PP x.o.op regs h nxt fun v h' nxt' => fPut x.o.dst nt v regs fun regs' => k pr regs' h' nxt') (fun _ _ _ _ _ _ _ _ _ _ _ => false) m) m) m) m) m call kp nt x pr regs h nxt k

noncomputable def fPre (l : List Nat) (ops : Array Oper) (regs : Regs) (b : Bool) : Bool :=
  List.rec (motive := fun _ => Array Oper → Regs → Bool → Bool) (fun _ _ b => b) (fun j l _ ops regs b => preK PP ops regs b (j :: l)) l ops regs b

noncomputable def fChain (l : List (Inf × Nat)) (call : CallF) (nt : Nat) (ops : Array Oper) (kq kn : S) (pr : Rds) (regs : Regs) (h : Heap) (nxt : Nat) : Bool :=
  List.rec (motive := fun _ => CallF → Nat → Array Oper → S → S → Rds → Regs → Heap → Nat → Bool) (fun _ _ _ _ kn _ regs h nxt => kn regs h nxt)
    (fun x _ ih call nt ops kq kn pr regs h nxt => fPre x.1.pre ops regs (fWant x.1.o ops regs h
      (fun h => fStep x.2 call (kpD ops kq) nt x.1 pr regs h nxt fun pr' regs' h' nxt' => ih call nt ops kq kn pr' regs' h' nxt')
      (fun h => fPut x.1.o.dst nt .un regs fun regs' => ih call nt ops kq kn pr regs' h nxt))) l call nt ops kq kn pr regs h nxt

noncomputable def drawOK (nt : Nat) (ops : Array Oper) : Bool := bc (Nat.beq (List.length (ordOf PP nt ops)) ops.size) (bc (Region.noSelect ops) (good PP nt ops (2 ^ ops.size - 1) (ordOf PP nt ops) 0 0 0) false) false

noncomputable def fDraw (ops : Array Oper) (call : CallF) (nt : Nat) (kq kn : S) (regs : Regs) (h : Heap) (nxt : Nat) : Bool :=
  bc (drawOK nt ops) (clearK (ordOf PP nt ops) regs fun regs => fChain (ordOf PP nt ops) call nt ops kq kn (some []) regs h nxt) false

noncomputable def fCode (c : Code) : CallF → Nat → Nat → S → (Nat → S) → S → S :=
  Code.rec (motive := fun _ => CallF → Nat → Nat → S → (Nat → S) → S → S)
    (fun _ _ en kn _ _ => onlyK en kn)
    (fun _ ops d call nt en kn kx _ => onlyK en fun regs h nxt => bc d (fDraw ops call nt (kx 0) kn regs h nxt) (fOps ops.toList call nt ops (kx 0) kn regs h nxt))
    (fun a _ iha ihb call nt en kn kx kr => Nat.rec (motive := fun _ => S) (iha call nt 0 (ihb call nt 0 kn kx kr) kx kr) (fun l _ => bcS (hasL a l) (iha call nt (Nat.succ l) (ihb call nt 0 kn kx kr) kx kr) (ihb call nt (Nat.succ l) kn kx kr)) en)
    (fun x _ _ iht ihe call nt en kn kx kr => onlyK en fun regs h nxt => fOpd x regs fun v => fCond v h (fun h => iht call nt 0 kn kx kr regs h nxt) (fun h => ihe call nt 0 kn kx kr regs h nxt))
    (fun id _ ih call nt en kn kx kr => onlyK en (ih call nt 0 kn (fun i regs h nxt => bc (Nat.beq i (Nat.mul 2 (Nat.succ id))) (kn regs h nxt) (kx i regs h nxt)) kr))
    (fun _ ih call nt en _ kx kr => onlyK en (loopK (fun kn => ih call nt 0 kn kx kr) loops))
    (fun _ _ _ _ _ _ _ _ _ _ _ _ _ _ _ => false)
    (fun id _ _ en _ kx _ => onlyK en (kx (Nat.mul 2 (Nat.succ id))))
    (fun c ih call nt en kn kx kr => onlyK en (ih call nt 0 kn (jumpK c (fun e k => ih call nt e kn k kr) kx loops) kr))
    (fun l _ _ en kn _ _ => Nat.rec (motive := fun _ => S) kn (fun l' _ => bcS (Nat.beq l l') kn (fun _ _ _ => false)) en)
    (fun l _ _ en _ kx _ => onlyK en (kx (Nat.succ (Nat.mul 2 l))))
    (fun _ _ en _ _ kr => onlyK en kr)
    (fun _ _ _ _ _ _ _ _ _ _ => false) c

noncomputable def fRes1 (r : ResultVar) (regs : Regs) (h : Heap) (k : AV → Bool) : Bool := match r with
  | .tmp t => fForce (fGetR regs t) k
  | .cell t ty => fLoad ty (fGetR regs t) h k

noncomputable def fResL (l : List ResultVar) (regs : Regs) (h : Heap) (k : List AV → Bool) : Bool :=
  List.rec (motive := fun _ => Regs → Heap → (List AV → Bool) → Bool) (fun _ _ k => k []) (fun r _ ih regs h k => fRes1 r regs h fun v => ih regs h fun l => k (v :: l)) l regs h k

noncomputable def fBody (call : CallF) (g : FuncId) (args : List AV) (h : Heap) (nxt : Nat) (k : K) : Bool := match PP.funcs[g]? with
  | some fn => (match fn.body with
    | some c => bc (Nat.ble (List.length args) fn.ntmps) (fWrL args big 0 fun regs => bc (anyOp isDefer c) (evBodyF PP call XT (evDraw PP XT call) loops fn c regs h nxt k)
        (fCode c call fn.ntmps 0 (fun regs h nxt => fResL fn.results.toList regs h fun l => fOne l fun v => k v h nxt) (only0 (evOut k) fun _ _ _ => false) (fun regs h nxt => fResL fn.results.toList regs h fun l => fOne l fun v => k v h nxt) regs h nxt)) false
    | none => false)
  | none => false

noncomputable def frun (SP : Specs) (n : Nat) : CallF :=
  Nat.rec (motive := fun _ => CallF) (fun _ _ _ _ _ => false) (fun _ ih g args h nxt k => match SP g with
    | some C => C args h nxt k
    | none => fBody ih g args h nxt k) n

theorem frun_gen (SP : Specs) (n : Nat) : frun SP n = Vx.frun PP XT SP n := by kernel_rfl
end Go.Proofs.YtbmekbpgoakkbaaGreatDoor.Vx.Sp
namespace Go.Proofs.YtbmekbpgoakkbaaGreatDoor.Vx
open Go
/-- the evaluator over this seat's program -/
noncomputable def run (SP : Specs) (n : Nat) : CallF := Sp.frun SP n
theorem run_ok [JC] {SP : Specs} (hsp : SpecOK Tryz.prog SP) (n : Nat) : CallOK Tryz.prog (run SP n) := by
  unfold run
  rw [Sp.frun_gen, frun_eq]; exact evaluate_ok mixed hsp XT_ok
end Go.Proofs.YtbmekbpgoakkbaaGreatDoor.Vx
