/- The evaluator's value operations are functions: what goes on does not bear on what is handed on. No condition. -/
import Derived.Test.YtbmekbpgoakkbaaGreatDoorVxI
set_option linter.unusedVariables false
set_option linter.unusedSimpArgs false
set_option linter.constructorNameAsVariable false
set_option linter.unusedSectionVars false
namespace Go.Proofs.YtbmekbpgoakkbaaGreatDoor.Vx
open Go

def Lin {A : Type} (f : (A → Bool) → Bool) : Prop := (∀ k, f k = false) ∨ ∃ x, ∀ k, f k = k x

section
variable {A B : Type}
theorem Lin.no : Lin (fun _ : A → Bool => false) := .inl fun _ => rfl
theorem Lin.ret (x : A) : Lin (fun k => k x) := .inr ⟨x, fun _ => rfl⟩
theorem Lin.bind {f : (A → Bool) → Bool} {g : A → (B → Bool) → Bool} (hf : Lin f) (hg : ∀ x, Lin (g x)) : Lin (fun k => f fun x => g x k) := by
  rcases hf with hf | ⟨x, hf⟩
  · exact .inl fun k => hf _
  · rcases hg x with hx | ⟨y, hx⟩
    · exact .inl fun k => (hf _).trans (hx k)
    · exact .inr ⟨y, fun k => (hf _).trans (hx k)⟩
theorem Lin.bc {b : Bool} {f g : (A → Bool) → Bool} (hf : Lin f) (hg : Lin g) : Lin (fun k => bc b (f k) (g k)) := by
  cases b
  · exact hg
  · exact hf
theorem Lin.guard {b : Bool} {f : (A → Bool) → Bool} (hf : Lin f) : Lin (fun k => Vx.bc b (f k) false) := Lin.bc hf .no
theorem Lin.guard' {b : Bool} {f : (A → Bool) → Bool} (hf : Lin f) : Lin (fun k => Vx.bc b false (f k)) := Lin.bc .no hf
theorem Lin.congr {f g : (A → Bool) → Bool} (h : Lin f) (e : ∀ k, g k = f k) : Lin g := by
  rcases h with h | ⟨x, h⟩
  · exact .inl fun k => (e k).trans (h k)
  · exact .inr ⟨x, fun k => (e k).trans (h k)⟩
/-- the value that is handed on -/
theorem Lin.val {f : (A → Bool) → Bool} (h : Lin f) {k : A → Bool} (he : f k = true) : ∃ x, (∀ k, f k = k x) ∧ k x = true := by
  rcases h with h | ⟨x, h⟩
  · rw [h] at he; cases he
  · exact ⟨x, h, (h k).symm.trans he⟩
end

theorem lin_force (v : AV) : Lin (force v) := .inr ⟨v, force_eq v⟩
theorem lin_forceN (n : Nat) : Lin (forceN n) := .inr ⟨n, forceN_eq n⟩
theorem lin_forceI (n : Int) : Lin (forceI n) := .inr ⟨n, forceI_eq n⟩
theorem lin_forceB (n : Bool) : Lin (forceB n) := .inr ⟨n, forceB_eq n⟩
theorem lin_forceL (l : List AV) : Lin (forceL l) := .inr ⟨l, forceL_eq l⟩
theorem lin_rdN (c : T AV) (n off : Nat) : Lin (rdN c n off) := .inr ⟨_, rdN_ok c n off⟩
theorem lin_rdC (c : Cs) (n off : Nat) : Lin (rdC c n off) := .inr ⟨_, rdC_ok c n off⟩
theorem lin_natOf (n : Int) : Lin (natOf n) := by
  cases n with
  | ofNat m => exact .inr ⟨m, fun _ => rfl⟩
  | negSucc m => exact .inl fun _ => rfl
theorem lin_opd (regs : Regs) (x : Operand) : Lin (opd regs x) := by
  cases x
  · exact lin_force _
  · exact lin_force _
  · exact .ret _
  · exact .ret _
theorem lin_opds (regs : Regs) : ∀ xs, Lin (opds regs xs)
  | [] => .ret []
  | x :: xs => (lin_opd regs x).bind fun v => (lin_opds regs xs).bind fun l => .ret (v :: l)
theorem lin_opdsP (regs : Regs) : ∀ xs, Lin (opdsP regs xs)
  | [] => .ret []
  | (i, x) :: xs => (lin_opd regs x).bind fun v => (lin_opdsP regs xs).bind fun l => .ret ((i, v) :: l)
theorem lin_opdo (regs : Regs) (x : Option Operand) : Lin (opdo regs x) := by
  cases x
  · exact .ret none
  · exact (lin_opd regs _).bind fun v => .ret (some v)
theorem lin_cellsK (v : AV) : Lin (cellsK v) := by
  by_cases hag : ∃ cs, v = .ag cs
  · obtain ⟨cs, rfl⟩ := hag
    exact Lin.guard (b := allLeaf cs) (.ret cs)
  · refine Lin.congr (f := fun k => bc (leaf v) (k [v]) false) (Lin.guard (.ret _)) fun k => ?_
    cases v <;> first | rfl | exact absurd ⟨_, rfl⟩ hag
theorem lin_overK (l c : List AV) (o : Nat) : Lin (overK l c o) := lin_forceL _
theorem lin_fillK (place : Nat → Option (Nat × Nat)) : ∀ (ps : List (Nat × AV)) (cells : List AV), Lin (fillK place ps cells)
  | [], cells => .ret cells
  | (i, v) :: ps, cells => by
    show Lin (fun k => match place i with
      | some (off, size) => cellsK v fun l => bc (lenIs l size) (bc (Nat.ble (off + size) (List.length cells)) (overK l cells off fun cells' => fillK place ps cells' k) false) false
      | none => false)
    cases place i with
    | none => exact .no
    | some p => exact (lin_cellsK v).bind fun l => Lin.guard (Lin.guard ((lin_overK _ _ _).bind fun c => lin_fillK place ps c))
theorem lin_evBuild (P : Program) (t : TypeId) (ps : List (Nat × AV)) : Lin (evBuild P t ps) := by
  unfold evBuild
  try dsimp only
  cases P.info? t with
  | none => exact .no
  | some i =>
    obtain ⟨d0, s0, sz, by0, hp, al, fa, zero, cm, ms⟩ := i
    cases zero with
    | none => exact .no
    | some z =>
      cases P.underlying t with
      | none => exact .no
      | some d =>
        cases d with
        | struct fs => exact Lin.guard ((lin_fillK _ _ _).bind fun l => .ret _)
        | array n el =>
          dsimp only
          try dsimp only
          cases P.info? el with
          | none => exact .no
          | some j => exact (lin_fillK _ _ _).bind fun l => .ret _
        | _ => exact .no
theorem lin_evCells (P : Program) (t : TypeId) (n : Nat) (c : Cs) (off : Nat) : Lin (evCells P t n c off) := by
  unfold evCells
  cases P.underlying t with
  | none => exact .no
  | some d =>
    cases P.info? t with
    | none => exact .no
    | some i => exact Lin.bc (Lin.guard ((lin_rdC _ _ _).bind fun l => .ret _)) (Lin.guard (lin_force _))
theorem lin_evCellsG (P : Program) (t : TypeId) (n : Nat) (c : T AV) (off : Nat) : Lin (evCellsG P t n c off) := by
  unfold evCellsG
  cases P.underlying t with
  | none => exact .no
  | some d =>
    cases P.info? t with
    | none => exact .no
    | some i => exact Lin.bc (Lin.guard ((lin_rdN _ _ _).bind fun l => .ret _)) (Lin.guard (lin_force _))
theorem lin_evLoad (P : Program) (t : TypeId) (x : AV) (h : Heap) : Lin (evLoad P t x h) := by
  cases x with
  | p id off =>
    unfold evLoad
    try dsimp only
    cases T.get AO.gone h id with
    | cells n esz c => exact lin_evCells _ _ _ _ _
    | glob g' n c => exact lin_evCellsG _ _ _ _ _
    | _ => exact .no
  | pg g off =>
    unfold evLoad
    try dsimp only
    cases T.get AO.gone h (Nat.succ g) with
    | glob g' n c => exact Lin.guard (Lin.guard (lin_evCellsG _ _ _ _ _))
    | _ => exact .no
  | _ => exact .no
theorem lin_unscK (v : Value) : Lin (unscK v) := by
  cases v with
  | bool b => exact (lin_forceB _).bind fun x => .ret _
  | int k n => exact (lin_forceI _).bind fun x => .ret _
  | float k n => exact (lin_forceN _).bind fun x => .ret _
  | _ => exact .no
theorem lin_pure1 (P : Program) (f : Value → Sem Value) (x : AV) : Lin (pure1 P f x) := by
  unfold pure1
  cases scal x with
  | none => exact .no
  | some X =>
    cases hp : pureRun P (f X) with
    | none => exact Lin.no.congr fun k => by simp only [hp]
    | some V => exact (lin_unscK V).congr fun k => by simp only [hp]
theorem lin_pure2 (P : Program) (f : Value → Value → Sem Value) (x y : AV) : Lin (pure2 P f x y) := by
  unfold pure2
  cases scal x with
  | none => exact .no
  | some X => exact lin_pure1 _ _ _
theorem lin_partK (P : Program) (t : TypeId) (cs : List AV) (off : Nat) : Lin (partK P t cs off) := by
  unfold partK
  cases P.underlying t with
  | none => exact .no
  | some d =>
    cases P.info? t with
    | none => exact .no
    | some i =>
      refine Lin.bc ((lin_forceL _).bind fun l => .ret _) ?_
      cases List.drop off cs with
      | nil => exact .no
      | cons v l => exact lin_force v
theorem lin_liveK (h : Heap) (id : Nat) {A : Type} {f : (A → Bool) → Bool} (hf : Lin f) : Lin (fun k => liveK h id (f k)) := by
  unfold liveK
  cases T.get AO.gone h id with
  | cells n e c => exact hf
  | _ => exact .no
theorem lin_leafEqK (P : Program) (h : Heap) (d : TypeDesc) (x y : AV) : Lin (leafEqK P h d x y) := by
  cases d <;> try exact .no
  case pointer el =>
    cases x <;> try exact .no
    case pn => cases y <;> first | exact .no | exact .ret _
    case p i a =>
      cases y <;> try exact .no
      case pn => exact .ret _
      case p j b =>
        unfold leafEqK
        try dsimp only
        try dsimp only
        cases P.info? el with
        | none => exact .no
        | some inf => exact Lin.guard (Lin.bc (lin_forceB _) (lin_liveK _ _ (lin_liveK _ _ (.ret _))))
  case float kk =>
    cases x <;> try exact .no
    case f k1 a =>
      cases k1
      · cases y <;> exact .no
      · cases y <;> try exact .no
        case f k2 b => cases k2; exact .no; exact lin_forceB _
        case nan => exact .ret _
    case nan =>
      cases y <;> try exact .no
      case f k2 b => cases k2; exact .no; exact .ret _
      case nan => exact .ret _
  all_goals
    cases x <;> try exact .no
    all_goals
      cases y <;> first | exact .no | exact .ret _ | exact lin_forceB _ | exact Lin.guard (lin_forceB _) | exact Lin.guard' (.ret _)
theorem lin_seK (v : AV) : Lin (fun k : Nat × SE → Bool => seK v fun c e => k (c, e)) := by
  cases v <;> try exact .no
  case x s e => cases s <;> exact .ret _
  case b => exact .ret (0, _)
  case i => exact .ret (1, _)
  case f k x => cases k; exact .no; exact .ret (2, _)
  case s => exact .ret (3, _)
theorem lin_cmpLit (op : BinOp) (a : SE) (kb : IntKind) (c : Int) : Lin (cmpLit op a kb c) := by
  cases op <;> first | exact .no | exact .ret _
theorem lin_cmpSym (op : BinOp) (a b : SE) : Lin (cmpSym op a b) := by
  cases op <;> first | exact .no | exact .ret _ | exact Lin.bc (.ret _) (.ret _)
theorem lin_cmpInt (op : BinOp) (a b : SE) : Lin (cmpInt op a b) := by
  cases b <;> first
    | exact lin_cmpLit _ _ _ _
    | (cases a <;> first | exact lin_cmpLit _ _ _ _ | exact lin_cmpSym _ _ _)
theorem lin_cmpOther (fl : Bool) (op : BinOp) (a b : SE) : Lin (cmpOther fl op a b) := by
  have m1 : Lin (fun k : SE → Bool => match a with | .ls _ _ => k (.cmp .eql b a) | a => k (.cmp .eql a b)) := by cases a <;> exact .ret _
  have m2 : Lin (fun k : SE → Bool => match (generalizing := false) a with | .ls _ _ => k (.not (.cmp .eql b a)) | a => k (.not (.cmp .eql a b))) := by cases a <;> exact .ret _
  cases op
  case eql => exact Lin.bc (.ret _) m1
  case neq => exact Lin.bc (.ret _) m2
  all_goals exact .ret _
theorem Lin.at1 {f : (SE → Bool) → Bool} (hf : Lin f) (n : Nat) : Lin (fun k : Nat × SE → Bool => f fun e => k (n, e)) := by
  rcases hf with hf | ⟨x, hf⟩
  · exact .inl fun k => hf _
  · exact .inr ⟨(n, x), fun k => hf _⟩
theorem lin_symE (op : BinOp) (x y : AV) : Lin (fun k : Nat × SE → Bool => symE op x y fun c e => k (c, e)) := by
  have key : ∀ (c d : Nat) (a b : SE), Lin (fun k : Nat × SE → Bool => bc (Nat.beq c d)
      (match c with
        | 0 => (match op with | .eql => bc (seEq a b) (k (0, .lb true)) (k (0, .cmp .eql a b)) | _ => false)
        | 1 => (match x, y with
          | .x (.i k1) _, .x (.i k2) _ => bc (Nat.beq (kc k1) (kc k2)) (cmpInt op a b fun e => k (1, e)) false
          | .x (.i k1) _, .i k2 _ => bc (Nat.beq (kc k1) (kc k2)) (cmpInt op a b fun e => k (1, e)) false
          | .i k1 _, .x (.i k2) _ => bc (Nat.beq (kc k1) (kc k2)) (cmpInt op a b fun e => k (1, e)) false
          | _, _ => false)
        | 2 => cmpOther true op a b fun e => k (2, e)
        | 3 => cmpOther false op a b fun e => k (3, e)
        | _ => false) false) := by
    intro c d a b
    refine Lin.guard ?_
    match c with
    | 0 => cases op <;> first | exact .no | exact Lin.bc (.ret _) (.ret _)
    | 1 =>
      cases x <;> try exact .no
      case i => cases y <;> try exact .no
                rename_i s e
                cases s <;> first | exact .no | exact Lin.guard ((lin_cmpInt op a b).at1 1)
      case x s e =>
        cases s <;> try exact .no
        cases y <;> try exact .no
        case i => exact Lin.guard ((lin_cmpInt op a b).at1 1)
        case x s e => cases s <;> first | exact .no | exact Lin.guard ((lin_cmpInt op a b).at1 1)
    | 2 => exact (lin_cmpOther true op a b).at1 2
    | 3 => exact (lin_cmpOther false op a b).at1 3
    | _ + 4 => exact .no
  exact Lin.guard ((lin_seK x).bind fun p => (lin_seK y).bind fun q => key p.1 q.1 p.2 q.2)
theorem lin_symCmp (op : BinOp) (x y : AV) : Lin (symCmp op x y) := by
  refine Lin.bind (g := fun (p : Nat × SE) (k : AV → Bool) => Nat.rec (motive := fun _ => Bool) false (fun _ _ => k (AV.x Srt.b p.2)) p.1) (lin_symE op x y) fun p => ?_
  obtain ⟨c, e⟩ := p
  cases c
  · exact .no
  · exact .ret _
theorem lin_leafSE (P : Program) (h : Heap) (d : TypeDesc) (x y : AV) : Lin (leafSE P h d x y) :=
  Lin.bc (Lin.bind (g := fun (p : Nat × SE) (k : SE → Bool) => bc (srtD d p.1) (k p.2) false) (lin_symE _ _ _) fun p => Lin.guard (.ret p.2)) ((lin_leafEqK _ _ _ _ _).bind fun r => .ret _)
theorem lin_andK {r : SE} {rest : (SE → Bool) → Bool} (hr : Lin rest) : Lin (andK r rest) := by
  have two : ∀ e : SE, Lin (fun k : SE → Bool => rest fun r2 => match r2 with
      | .lb x => bc x (k e) (k (.lb false))
      | e2 => k (.and e e2)) := fun e => hr.bind (g := fun r2 k => match r2 with
      | .lb x => bc x (k e) (k (.lb false))
      | e2 => k (.and e e2)) fun r2 => by cases r2 <;> first | exact .ret _ | exact Lin.bc (.ret _) (.ret _)
  cases r <;> first | exact two _ | exact Lin.bc hr (.ret _)
theorem lin_fieldsEqK (P : Program) {ih : TypeId → AV → AV → (SE → Bool) → Bool} (hi : ∀ t x y, Lin (ih t x y)) (xs ys : List AV) : ∀ fs, Lin (fieldsEqK P ih xs ys fs)
  | [] => .ret _
  | f :: fs => Lin.bc (lin_fieldsEqK P hi xs ys fs) ((lin_partK P _ _ _).bind fun a => (lin_partK P _ _ _).bind fun b => (hi _ _ _).bind fun r => lin_andK (lin_fieldsEqK P hi xs ys fs))
theorem lin_aeqK (P : Program) (h : Heap) : ∀ d t x y, Lin (aeqK P h d t x y)
  | 0, _, _, _ => .no
  | d + 1, t, x, y => by
    show Lin (aeqStep P h (aeqK P h d) t x y)
    unfold aeqStep
    cases P.underlying t with
    | none => exact .no
    | some dd =>
      cases dd <;> try exact lin_leafSE _ _ _ _ _
      refine Lin.guard' ?_
      cases x <;> try exact .no
      cases y <;> try exact .no
      exact lin_fieldsEqK P (lin_aeqK P h d) _ _ _
theorem lin_evStrBin (op : BinOp) (a x b y : Nat) : Lin (evStrBin op a x b y) := by
  cases op <;> try exact .no
  case add => exact Lin.guard ((lin_forceN _).bind fun n => (lin_forceN _).bind fun m => .ret _)
  case eql => exact (lin_forceB _).bind fun r => .ret _
  case neq => exact Lin.bc (.ret _) (.ret _)
  case lss => exact (lin_forceB _).bind fun r => .ret _
  case leq => exact Lin.bc (.ret _) ((lin_forceB _).bind fun r => .ret _)
  case gtr => exact Lin.bc (.ret _) (Lin.bc (.ret _) (.ret _))
  case geq => exact Lin.bc (.ret _) (.ret _)
theorem lin_evFloat (op : BinOp) (a b : Nat) : Lin (evFloat op a b) := by
  have key : ∀ o : Option Nat, Lin (fun k : AV → Bool => match o with | none => k .nan | some r => forceN r fun r => k (.f .f64 r)) := by
    intro o
    cases o
    · exact .ret _
    · exact (lin_forceN _).bind fun r => .ret _
  cases op <;> first | exact .no | exact key _
theorem lin_nanCmp (op : BinOp) : Lin (nanCmp op) := by
  cases op <;> first | exact .no | exact .ret _
theorem lin_evFF (P : Program) (op : BinOp) (t : TypeId) (a b : Nat) : Lin (evFF P op t a b) := by
  cases op <;> (unfold evFF; dsimp only; first | exact lin_evFloat _ _ _ | exact lin_pure2 _ _ _ _)
theorem lin_evEqOnly (P : Program) (op : BinOp) (t : TypeId) (h : Heap) (x y : AV) : Lin (evEqOnly P op t h x y) := by
  cases op <;> try exact .no
  · exact Lin.bind (g := fun (r : SE) (k : AV → Bool) => match r with | .lb r => k (AV.b r) | e => k (AV.x Srt.b e)) (lin_aeqK P h 10000 t x y) fun r => by cases r <;> exact .ret _
  · exact Lin.bind (g := fun (r : SE) (k : AV → Bool) => match r with | .lb r => bc r (k (AV.b false)) (k (AV.b true)) | e => k (AV.x Srt.b (.not e))) (lin_aeqK P h 10000 t x y) fun r => by cases r <;> first | exact .ret _ | exact Lin.bc (.ret _) (.ret _)
theorem lin_evBin0 (P : Program) (op : BinOp) (t : TypeId) (xo yo : Operand) (x y : AV) (h : Heap) : Lin (evBin0 P op t xo yo x y h) := by
  cases x <;> try exact .no
  case s => cases y <;> first | exact .no | exact lin_evStrBin _ _ _ _ _
  case f kk a =>
    cases kk
    · exact .no
    · cases y <;> try exact .no
      case f k2 b => cases k2; exact .no; exact lin_evFF _ _ _ _ _
      case nan => exact lin_nanCmp _
  case nan =>
    cases y <;> try exact .no
    case f k2 b => cases k2; exact .no; exact lin_nanCmp _
    case nan => exact lin_nanCmp _
  case inil =>
    cases y <;> try exact .no
    · exact lin_evEqOnly _ _ _ _ _ _
    · exact Lin.guard (lin_evEqOnly _ _ _ _ _ _)
  case ag =>
    cases y <;> try exact .no
    exact Lin.guard' (lin_evEqOnly _ _ _ _ _ _)
  all_goals (unfold evBin0; dsimp only; first | exact lin_evEqOnly _ _ _ _ _ _ | exact lin_pure2 _ _ _ _)
theorem lin_arF (op : BinOp) (a b : SE) (fs : Facts) : Lin (arF op a b fs) := by
  unfold arF
  split
  · exact Lin.bc (Lin.bc (.ret _) (Lin.guard (.ret _))) (Lin.bc (.ret _) (Lin.guard (.ret _)))
  · exact Lin.bc (Lin.bc (.ret _) (Lin.guard (.ret _))) (Lin.bc (.ret _) (Lin.guard (.ret _)))
  · exact .no
theorem lin_arS (op : BinOp) (a b : SE) (fs : Facts) : Lin (arS op a b fs) := by
  unfold arS
  split
  · exact Lin.guard (Lin.guard (.ret _))
  · exact .no
theorem lin_arI (op : BinOp) (a b : SE) (fs : Facts) : Lin (arI op a b fs) := by
  unfold arI
  split
  · exact Lin.guard (.ret _)
  · exact Lin.guard (.ret _)
  · exact .no
theorem lin_symBin (op : BinOp) (x y : AV) (h : Heap) : Lin (symBin op x y h) := by
  refine Lin.bc ?_ (Lin.bc (lin_symCmp _ _ _) ?_)
  · unfold symAr
    split <;> first | exact lin_nanCmp _ | exact lin_arS _ _ _ _ | exact lin_arI _ _ _ _ | exact lin_arF _ _ _ _ | exact Lin.guard (lin_arF _ _ _ _) | exact .no
  · unfold symRem
    split
    · exact Lin.guard (.ret _)
    · exact .ret _
    · exact Lin.guard (Lin.guard (Lin.guard (.ret _)))
    · exact .no
theorem lin_evBin (P : Program) (op : BinOp) (t : TypeId) (xo yo : Operand) (x y : AV) (h : Heap) : Lin (evBin P op t xo yo x y h) := Lin.bc (by unfold evBB; split; exact Lin.bc (.ret _) (.ret _); exact lin_symBin _ _ _ _) (lin_evBin0 _ _ _ _ _ _ _ _)
theorem lin_symConv (P : Program) (ds dd : TypeDesc) (s : Srt) (e : SE) : Lin (symConv P ds dd s e) := by
  unfold symConv
  split
  · exact .ret _
  · exact .ret _
  · exact Lin.guard (Lin.guard (.ret _))
  · exact .ret _
  · exact .no
theorem lin_evUn (P : Program) (op : UnOp) (x : AV) : Lin (evUn P op x) := by
  unfold evUn
  split
  · rename_i e
    cases op <;> first | exact .no | exact .ret _
  · exact lin_pure1 _ _ _
theorem lin_evConv (P : Program) (src dst : TypeId) (x : AV) : Lin (evConv P src dst x) := by
  unfold evConv
  try dsimp only
  cases P.underlying src with
  | none => exact .no
  | some ds =>
    cases P.underlying dst with
    | none => exact .no
    | some dd =>
      cases dd <;> try exact .no
      case int => cases x <;> first | exact lin_symConv _ _ _ _ _ | exact lin_pure1 _ _ _
      case float => cases x <;> first | exact lin_symConv _ _ _ _ _ | exact lin_pure1 _ _ _
      case string =>
        cases x <;> try exact .no
        case s => exact .ret _
        case x => exact lin_symConv _ _ _ _ _
        case i =>
          cases ds <;> try exact .no
          exact (lin_natOf _).bind fun m => Lin.guard (.ret _)
theorem lin_byteK (v : AV) : Lin (byteK v) := by
  unfold byteK
  cases v <;> try exact .no
  rename_i k n
  cases k <;> try exact .no
  exact (lin_natOf _).bind fun m => Lin.guard (.ret _)
theorem lin_packL : ∀ l : List AV, Lin (packL l)
  | [] => .ret _
  | v :: l => (lin_byteK v).bind fun m => (lin_packL l).bind fun r => lin_forceN _
theorem lin_evToUnsafe (P : Program) (t : TypeId) (x : AV) (h : Heap) : Lin (evToUnsafe P t x h) := by
  unfold evToUnsafe
  cases x <;> try first | exact .no | exact .ret _
  rename_i id off
  dsimp only
  cases T.get AO.gone h id with
  | cells n esz c =>
    dsimp only
    cases P.info? t with
    | none => exact .no
    | some i => exact Lin.guard (Lin.guard (.ret _))
  | _ => exact .no
theorem lin_evOfUnsafe (P : Program) (u : TypeId) (x : AV) (h : Heap) : Lin (evOfUnsafe P u x h) := by
  unfold evOfUnsafe
  cases x <;> try first | exact .no | exact .ret _
  rename_i id off
  dsimp only
  cases T.get AO.gone h id with
  | cells n esz c =>
    dsimp only
    cases esz.el with
    | none => exact .no
    | some e =>
      dsimp only
      refine Lin.guard (Lin.guard ?_)
      cases P.info? u with
      | none => exact .no
      | some i => exact .ret _
  | _ => exact .no
theorem lin_evBytesStr (P : Program) (e : TypeId) (x : AV) (h : Heap) : Lin (evBytesStr P e x h) := by
  unfold evBytesStr
  cases P.underlying e with
  | none => exact .no
  | some d =>
    cases d <;> try exact .no
    rename_i kk
    cases kk <;> try exact .no
    dsimp only
    cases x <;> try first | exact .no | exact .ret _
    all_goals
      rename_i id off len cap
      dsimp only
      cases T.get AO.gone h id with
      | cells n esz c => exact Lin.guard ((lin_rdC _ _ _).bind fun l => (lin_packL l).bind fun b => .ret _)
      | _ => exact .no
theorem lin_evConvH (P : Program) (src dst : TypeId) (x : AV) (h : Heap) : Lin (evConvH P src dst x h) := by
  unfold evConvH
  cases P.underlying src with
  | none => exact lin_evConv _ _ _ _
  | some ds =>
    cases ds <;> try exact lin_evConv _ _ _ _
    case float kf =>
      dsimp only
      cases x <;> try exact lin_evConv _ _ _ _
      rename_i s e
      cases s <;> try exact lin_evConv _ _ _ _
      dsimp only
      refine Lin.bc ?_ ?_
      · exact lin_evConv _ _ _ _
      · unfold evF2I
        cases P.underlying dst with
        | none => exact .no
        | some dd =>
          cases dd <;> try exact .no
          rename_i kk
          cases kk <;> first | exact .no | exact Lin.guard (.ret _)
    all_goals
      dsimp only
      cases P.underlying dst with
      | none => exact .no
      | some dd => cases dd <;> first | exact .no | exact lin_evToUnsafe _ _ _ _ | exact lin_evOfUnsafe _ _ _ _ | exact lin_evBytesStr _ _ _ _
theorem lin_evCap (P : Program) (t : TypeId) (x : AV) : Lin (evCap P t x) := by
  unfold evCap
  cases P.underlying t with
  | none => exact .no
  | some d =>
    cases d <;> try exact .no
    cases x <;> first | exact .no | exact .ret _
theorem lin_evSliceData (x : AV) : Lin (evSliceData x) := by
  unfold evSliceData
  cases x <;> first | exact .no | exact .ret _ | exact Lin.guard (.ret _)
theorem lin_evMkIface (P : Program) (t : TypeId) (x : AV) : Lin (evMkIface P t x) := by
  unfold evMkIface
  try dsimp only
  cases P.underlying t with
  | none => exact .no
  | some d =>
    cases d <;> first
      | exact .no
      | (cases x <;> first | exact .no | exact .ret _)
theorem lin_bnd (x : Option AV) (d : Nat) : Lin (bnd x d) := by
  cases x with
  | none => exact .ret d
  | some v => cases v <;> first | exact .no | exact lin_natOf _
theorem lin_evSlice (P : Program) (t : TypeId) (x : AV) (lo hi mx : Option AV) : Lin (evSlice P t x lo hi mx) := by
  cases x <;> try exact .no
  all_goals
    unfold evSlice
    try dsimp only
    cases P.underlying t with
    | none => exact .no
    | some d => ?_
  all_goals cases d <;> try exact .no
  case s.some.string =>
    cases mx
    · exact (lin_bnd _ _).bind fun m => (lin_bnd _ _).bind fun l => Lin.guard (Lin.guard ((lin_forceN _).bind fun n => (lin_forceN _).bind fun b => .ret _))
    · exact .no
  all_goals
    rename_i el
    try dsimp only
    cases P.info? el with
    | none => exact .no
    | some i => ?_
  all_goals cases mx
  all_goals first
    | exact .no
    | exact (lin_bnd _ _).bind fun m => (lin_bnd _ _).bind fun l => Lin.guard (Lin.guard (.ret _))
    | exact Lin.guard ((lin_bnd _ _).bind fun m => (lin_bnd _ _).bind fun l => Lin.guard (Lin.guard (Lin.bc (.ret _) ((lin_forceN _).bind fun o => (lin_forceN _).bind fun n => (lin_forceN _).bind fun c => .ret _))))
    | exact Lin.guard ((lin_bnd _ _).bind fun c => (lin_bnd _ _).bind fun m => (lin_bnd _ _).bind fun l => Lin.guard (Lin.guard (Lin.guard (Lin.bc (.ret _) ((lin_forceN _).bind fun o => (lin_forceN _).bind fun n => (lin_forceN _).bind fun c => .ret _)))))
    | exact (lin_bnd _ _).bind fun m => (lin_bnd _ _).bind fun l => Lin.guard (Lin.guard (Lin.bc ((lin_forceN _).bind fun o => (lin_forceN _).bind fun n => (lin_forceN _).bind fun c => .ret _) (Lin.guard (.ret _))))
    | exact (lin_bnd _ _).bind fun m => (lin_bnd _ _).bind fun l => Lin.guard (Lin.guard (Lin.bc (.ret _) ((lin_forceN _).bind fun o => (lin_forceN _).bind fun n => (lin_forceN _).bind fun c => .ret _)))
theorem lin_ixE (v : Option AV) (d : SE) : Lin (ixE v d) := by
  unfold ixE
  split
  · exact .ret _
  · exact .ret _
  · exact .ret _
  · exact .no
theorem lin_evSliceH (P : Program) (t : TypeId) (x : AV) (lo hi mx : Option AV) (h : Heap) : Lin (evSliceH P t x lo hi mx h) := by
  unfold evSliceH
  split
  · unfold evSliceS
    cases P.underlying t with
    | none => exact .no
    | some d =>
      cases d <;> try exact .no
      cases mx
      · exact (lin_ixE _ _).bind fun l => (lin_ixE _ _).bind fun m => Lin.guard (Lin.guard (Lin.guard (.ret _)))
      · exact .no
  · split <;> try exact .no
    cases P.underlying t with
    | none => exact .no
    | some d =>
      cases d <;> try exact .no
      rename_i el
      dsimp only
      cases P.info? el with
      | none => exact .no
      | some i =>
        dsimp only
        split
        · exact Lin.guard (Lin.guard (Lin.guard (.ret _)))
        · exact .no
  · exact lin_evSlice _ _ _ _ _ _
theorem lin_evFieldAddr (P : Program) (s : TypeId) (x : AV) (f : Nat) : Lin (evFieldAddr P s x f) := by
  cases x <;> try exact .no
  all_goals
    unfold evFieldAddr
    cases P.underlying s with
    | none => exact .no
    | some d => ?_
  all_goals
    cases d <;> try exact .no
    rename_i fs
    dsimp only
    cases fs[f]? with
    | none => exact .no
    | some fld => ?_
  all_goals
    dsimp only
    cases P.info? fld.type with
    | none => exact .no
    | some i => exact Lin.guard ((lin_forceN _).bind fun o => .ret _)
theorem lin_evField (P : Program) (t : TypeId) (x : AV) (f : Nat) : Lin (evField P t x f) := by
  cases x <;> try exact .no
  unfold evField
  cases P.underlying t with
  | none => exact .no
  | some d =>
    cases d <;> try exact .no
    rename_i fs
    dsimp only
    cases fs[f]? with
    | none => exact .no
    | some fld => exact lin_partK P _ _ _
theorem lin_evIndexAddr (P : Program) (t : TypeId) (x ix : AV) : Lin (evIndexAddr P t x ix) := by
  cases ix <;> try exact .no
  unfold evIndexAddr
  try dsimp only
  refine (lin_natOf _).bind fun m => ?_
  cases P.underlying t with
  | none => exact .no
  | some d =>
    cases d <;> try exact .no
    all_goals
      rename_i el
      try dsimp only
      cases P.info? el with
      | none => exact .no
      | some i =>
        cases x <;> first | exact .no | exact Lin.guard ((lin_forceN _).bind fun o => .ret _)
theorem lin_evIdx (P : Program) (t : TypeId) (x ix : AV) (h : Heap) : Lin (evIdx P t x ix h) := by
  unfold evIdx
  cases isXv ix with
  | false => exact lin_evIndexAddr P t x ix
  | true =>
    show Lin (evIdxS P t x ix h)
    cases ix <;> try exact .no
    rename_i s e
    cases s <;> try exact .no
    rename_i kk
    cases kk <;> try exact .no
    unfold evIdxS
    try dsimp only
    cases symI e (factsOf h) with
    | none => exact .no
    | some l =>
      try dsimp only
      cases P.underlying t with
      | none => exact .no
      | some d =>
        cases d <;> try exact .no
        rename_i el
        try dsimp only
        cases P.info? el with
        | none => exact .no
        | some i =>
          cases x <;> try exact .no
          all_goals
            try dsimp only
            cases T.get AO.gone h (Nat.succ l) <;> first | exact .no | exact Lin.guard (Lin.guard (.ret _))
theorem lin_evIndex (P : Program) (t : TypeId) (x ix : AV) : Lin (evIndex P t x ix) := by
  cases ix <;> try exact .no
  unfold evIndex
  try dsimp only
  refine (lin_natOf _).bind fun m => ?_
  cases P.underlying t with
  | none => exact .no
  | some d =>
    cases d <;> try exact .no
    case array n el =>
      try dsimp only
      cases P.info? el with
      | none => exact .no
      | some i => cases x <;> first | exact .no | exact Lin.guard (lin_partK _ _ _ _)
    case string => cases x <;> first | exact .no | exact Lin.guard ((lin_forceN _).bind fun o => .ret _)
theorem lin_zeroFail (P : Program) (t : TypeId) (c : Bool) : Lin (fun k : AV → Bool => match P.info? t with
    | some j => (match j.zero with
      | some z => bc c (force (absV z) fun z => k (.tu [z, .b false])) false
      | none => false)
    | none => false) := by
  cases P.info? t with
  | none => exact .no
  | some j =>
    cases hz : j.zero with
    | none => exact Lin.no.congr fun k => by simp only [hz]
    | some z => exact Lin.congr (Lin.guard ((lin_force _).bind fun z => .ret _)) fun k => by simp only [hz]; rfl
theorem lin_evAssert (P : Program) (x : AV) (t : TypeId) (c : Bool) : Lin (evAssert P x t c) := by
  unfold evAssert
  cases P.underlying t with
  | none => exact .no
  | some d =>
    cases d
    case interface want =>
      cases x <;> try exact .no
      case inil => exact lin_zeroFail P t c
      case ifc u v =>
        dsimp only
        cases P.info? u with
        | none => exact .no
        | some i =>
          dsimp only
          cases Instr.missingMethod want i.methods with
          | none => exact Lin.bc (.ret _) (.ret _)
          | some m => exact lin_zeroFail P t c
    all_goals
      cases x <;> try exact .no
      · exact Lin.bc (Lin.bc ((lin_force _).bind fun v => .ret _) (lin_force _)) (lin_zeroFail P t c)
      · exact lin_zeroFail P t c
theorem lin_evExtract (x : AV) (i : Nat) : Lin (evExtract x i) := by
  cases x <;> try exact .no
  rename_i vs
  unfold evExtract
  try dsimp only
  cases List.drop i vs with
  | nil => exact .no
  | cons v l => exact lin_force v
theorem lin_evLen (P : Program) (t : TypeId) (x : AV) (h : Heap) : Lin (evLen P t x h) := by
  unfold evLen
  try dsimp only
  cases P.underlying t with
  | none => exact .no
  | some d =>
    cases d <;> try exact .no
    case array => exact .ret _
    case map =>
      cases x <;> first | exact .no | exact .ret _ | skip
      rename_i id
      dsimp only
      cases T.get AO.gone h id with
      | map es c => exact (lin_forceN _).bind fun n => .ret _
      | _ => exact .no
    all_goals cases x <;> first | exact .no | exact .ret _ | (rename_i s e; cases s <;> first | exact .no | exact .ret _)
theorem lin_evRdBuiltin (P : Program) (b : Builtin) (ts : List TypeId) (args : List AV) (h : Heap) : Lin (evRdBuiltin P b ts args h) := by
  cases b <;> try exact .no
  case len =>
    match ts, args with
    | [t], [x] => exact lin_evLen _ _ _ _
    | [t], [] => exact .no
    | [t], _ :: _ :: _ => exact .no
    | [], _ => exact .no
    | _ :: _ :: _, _ => exact .no
  case cap =>
    match ts, args with
    | [t], [x] => exact lin_evCap _ _ _
    | [t], [] => exact .no
    | [t], _ :: _ :: _ => exact .no
    | [], _ => exact .no
    | _ :: _ :: _, _ => exact .no
  case unsafeSliceData =>
    match args with
    | [x] => exact lin_evSliceData _
    | [] => exact .no
    | _ :: _ :: _ => exact .no
  case min =>
    match args with
    | [x, y] =>
      show Lin (evMin P x y (factsOf h))
      unfold evMin
      split
      · exact Lin.bc (.ret _) (Lin.guard (.ret _))
      · exact Lin.guard (.ret _)
      · exact Lin.guard (.ret _)
      · exact lin_pure2 _ _ _ _
    | [] => exact .no
    | [_] => exact .no
    | _ :: _ :: _ :: _ => exact .no
  case max =>
    match args with
    | [x, y] => exact lin_pure2 _ _ _ _
    | [] => exact .no
    | [_] => exact .no
    | _ :: _ :: _ :: _ => exact .no
theorem lin_keyEq (d : TypeDesc) (x y : AV) : Lin (keyEq d x y) := by
  cases d <;> try exact .no
  case bool => cases x <;> try exact .no
               cases y <;> first | exact .no | exact lin_forceB _
  case int => cases x <;> try exact .no
              cases y <;> first | exact .no | exact Lin.guard (lin_forceB _)
  case string => cases x <;> try exact .no
                 cases y <;> first | exact .no | exact lin_forceB _
theorem lin_findE (d : TypeDesc) (key : AV) : ∀ es, Lin (findE d key es)
  | [] => .ret none
  | e :: es => (lin_keyEq d key e.key).bind fun r => Lin.bc ((lin_force _).bind fun v => .ret (some v)) (lin_findE d key es)
theorem lin_findS (P : Program) (h : Heap) (kt : TypeId) (key : AV) : ∀ es, Lin (findS P h kt key es)
  | [] => .ret none
  | e :: es => Lin.bind (g := fun (r : SE) (k : Option AV → Bool) => match r with | .lb x => bc x (force e.val fun v => k (some v)) (findS P h kt key es k) | _ => false) (lin_aeqK P h 10000 kt key e.key) fun r => by cases r <;> first | exact .no | exact Lin.bc ((lin_force _).bind fun v => .ret (some v)) (lin_findS P h kt key es)
theorem lin_findM (P : Program) (h : Heap) (kt : TypeId) (d : TypeDesc) (key : AV) (es : List Ent) : Lin (findM P h kt d key es) := by
  cases d <;> first | exact lin_findS _ _ _ _ _ | exact lin_findE _ _ _
theorem lin_evZeroOk (P : Program) (el : TypeId) (ok : Bool) : Lin (evZeroOk P el ok) := by
  unfold evZeroOk
  cases P.info? el with
  | none => exact .no
  | some j =>
    cases hz : j.zero with
    | none => exact Lin.no.congr fun k => by simp only [hz]
    | some z => exact Lin.congr ((lin_force (absV z)).bind fun z => Lin.bc (b := ok) (.ret (.tu [z, .b false])) (.ret z)) fun k => by simp only [hz]
theorem lin_evLookup (P : Program) (t : TypeId) (x ix : AV) (ok : Bool) (h : Heap) : Lin (evLookup P t x ix ok h) := by
  unfold evLookup
  cases P.underlying t with
  | none => exact .no
  | some dd =>
    cases dd <;> try exact .no
    rename_i kt el
    dsimp only
    cases P.underlying kt with
    | none => exact .no
    | some d =>
      refine Lin.guard ?_
      cases x <;> try exact .no
      · rename_i id
        dsimp only
        cases T.get AO.gone h id with
        | map es c =>
          refine (lin_findM P h kt d ix es).bind fun r => ?_
          cases r with
          | none => exact lin_evZeroOk _ _ _
          | some v => exact Lin.bc (.ret _) (.ret _)
        | _ => exact .no
      · exact lin_evZeroOk _ _ _
theorem lin_pickK (fs : Facts) (c : AV) {A : Type} {f g : (A → Bool) → Bool} (hf : Lin f) (hg : Lin g) : Lin (fun k => pickK fs c (f k) (g k)) := by
  cases c <;> try exact .no
  · exact Lin.bc hf hg
  · rename_i s e
    cases s <;> try exact .no
    show Lin fun k => d3 (decX fs e) false (f k) (g k)
    match decX fs e with
    | 0 => exact .no
    | 1 => exact hf
    | _ + 2 => exact hg
theorem lin_evRd (P : Program) (op : Op) (regs : Regs) (h : Heap) : Lin (evRd P op regs h) := by
  cases op <;> try exact .no
  case move x => exact lin_opd _ _
  case assign x => exact lin_opd _ _
  case pick c x y =>
    exact (lin_opd _ _).bind fun c => lin_pickK _ _ (lin_opd _ _) (lin_opd _ _)
  case build => exact (lin_opdsP _ _).bind fun l => lin_evBuild _ _ _
  case load => exact (lin_opd _ _).bind fun x => lin_evLoad _ _ _ _
  case nilCheck =>
    refine (lin_opd _ _).bind fun v => ?_
    cases v <;> first | exact .no | exact .ret _ | skip
    rename_i f l m
    cases f <;> first | exact .no | exact .ret _
  case binOp => exact (lin_opd _ _).bind fun x => (lin_opd _ _).bind fun y => lin_evBin _ _ _ _ _ _ _ _
  case unOp => exact (lin_opd _ _).bind fun x => lin_evUn _ _ _
  case convert => exact (lin_opd _ _).bind fun x => lin_evConvH _ _ _ _ _
  case makeInterface => exact (lin_opd _ _).bind fun x => lin_evMkIface _ _ _
  case makeFunc => exact (lin_opds _ _).bind fun l => (lin_opds _ _).bind fun m => .ret _
  case slice => exact (lin_opd _ _).bind fun x => (lin_opdo _ _).bind fun lo => (lin_opdo _ _).bind fun hi => (lin_opdo _ _).bind fun mx => lin_evSliceH _ _ _ _ _ _ _
  case fieldAddr => exact (lin_opd _ _).bind fun x => lin_evFieldAddr _ _ _ _
  case field => exact (lin_opd _ _).bind fun x => lin_evField _ _ _ _
  case indexAddr => exact (lin_opd _ _).bind fun x => (lin_opd _ _).bind fun i => lin_evIdx _ _ _ _ _
  case index => exact (lin_opd _ _).bind fun x => (lin_opd _ _).bind fun i => lin_evIndex _ _ _ _
  case typeAssert => exact (lin_opd _ _).bind fun x => lin_evAssert _ _ _ _
  case extract => exact (lin_opd _ _).bind fun x => lin_evExtract _ _
  case lookup => exact (lin_opd _ _).bind fun x => (lin_opd _ _).bind fun i => lin_evLookup _ _ _ _ _ _
  case call c =>
    unfold evRd
    try dsimp only
    cases hc : c.callee with
    | builtin b => exact Lin.congr ((lin_opds _ _).bind fun l => lin_evRdBuiltin _ _ _ _ _) fun k => by simp only [hc]; rfl
    | _ => exact Lin.no.congr fun k => by simp only [hc]
end Go.Proofs.YtbmekbpgoakkbaaGreatDoor.Vx
