/-
  No cell of these rows narrows 'for every input' (looked for: loops, veiled, ifaces, maps, wideKeys, modest, calm, conditions, laid).
  DERIVED. THE GIVEN ROWS OF THIS SEAT. 7 by the template 'for every input the law returns true; each argument reads behind the call as it read before'; 0 by the template 'total and deterministic' (their statements: YtejghjbbejeipaaGreatTotals.lean).
  GIVEN WITH THE SEED: the statements are not yours to turn. If you find one false, say at which input.
  Laid BY PROGRAM, IN A SANDBOX (cutbox-rows.mjs): the forced cells as the released guide's own fill.sh prints them over the translation d32ef5f7771fdf60… (all of the seat's roots in one cut). By AI agents, Wed Nov 11 2026. No macro, syntax, notation, axiom, sorry.
-/
import Derived.Test.YtejghjbbejeipaaGreatChecked
import GoSem.Claim
import GoSem.ClaimJoined
import GoSem.ClaimMapViews
import Derived.JoinedTies
import Derived.KernelRfl
namespace Go.Proofs.YtejghjbbejeipaaGreat
/- THE CELL 'sum', in the pinned program and in every row, IS THE sha256 OF THE DUMP (.gsa) THAT YtejghjbbejeipaaGreatProg.lean LOADS. Nothing in Lean hashes anything: it is a label: what it is worth is what the hold of that sum in a sandbox is worth. -/
noncomputable def Tryz.pinned : Pinned := { name := "ytejghjbbejeipaagreat", sum := "d32ef5f7771fdf6060d545711ff71a2888e620e805924c17134b0374fde2e5c3", checked := Tryz.checked }
namespace Rows
def none {H : Type} : Left H := { results := [], args := [] }

/-- 'bailifflaw19.OpNames': WHATEVER THE INPUT: true; the input reads as it did. -/
def opNamesSpec : ChangeSpec := { name := "opNames", fn := fun _ => fun
  | [] => { results := [.lit (.bool true)], args := [] }
  | _ => none }
def opNamesRow : OpenClaim := { program := "ytejghjbbejeipaagreat", sum := "d32ef5f7771fdf6060d545711ff71a2888e620e805924c17134b0374fde2e5c3", func := "bailiff/bailifflaw19.OpNames", spec := "opNames", inPlace := ["math.archTrunc", "math.Float64bits", "math.Float64frombits"], unfollowed := true, recurses := true, apart := false }
def OpNamesSaid : Prop := opNamesRow.holds Tryz.pinned (OpenSpec.ofChange opNamesSpec)

/-- ITS FALSE NEIGHBOUR: 'it returns false'. Refute it at one input. -/
def opNamesWrong : ChangeSpec := { name := "opNames", fn := fun _ => fun
  | [] => { results := [.lit (.bool false)], args := [] }
  | _ => none }
def OpNamesWrongFalsely : Prop := opNamesRow.holds Tryz.pinned (OpenSpec.ofChange opNamesWrong)

/-- 'bailifflaw17.CoerceLike': WHATEVER THE INPUT: true; the input reads as it did. -/
def coerceLikeSpec : ChangeSpec := { name := "coerceLike", fn := fun _ => fun
  | [d1, d2] => { results := [.lit (.bool true)], args := [d1, d2] }
  | _ => none }
def coerceLikeRow : OpenClaim := { program := "ytejghjbbejeipaagreat", sum := "d32ef5f7771fdf6060d545711ff71a2888e620e805924c17134b0374fde2e5c3", func := "bailiff/bailifflaw17.CoerceLike", spec := "coerceLike", inPlace := ["math.archTrunc", "math.Float64bits", "math.Float64frombits"], unfollowed := true, recurses := true, apart := false }
def CoerceLikeSaid : Prop := coerceLikeRow.holds Tryz.pinned (OpenSpec.ofChange coerceLikeSpec)

/-- ITS FALSE NEIGHBOUR: 'it returns false'. Refute it at one input. -/
def coerceLikeWrong : ChangeSpec := { name := "coerceLike", fn := fun _ => fun
  | [d1, d2] => { results := [.lit (.bool false)], args := [d1, d2] }
  | _ => none }
def CoerceLikeWrongFalsely : Prop := coerceLikeRow.holds Tryz.pinned (OpenSpec.ofChange coerceLikeWrong)

/-- 'bailifflaw17.CoerceEnds': WHATEVER THE INPUT: true; the input reads as it did. -/
def coerceEndsSpec : ChangeSpec := { name := "coerceEnds", fn := fun _ => fun
  | [d1, d2, d3, d4, d5] => { results := [.lit (.bool true)], args := [d1, d2, d3, d4, d5] }
  | _ => none }
def coerceEndsRow : OpenClaim := { program := "ytejghjbbejeipaagreat", sum := "d32ef5f7771fdf6060d545711ff71a2888e620e805924c17134b0374fde2e5c3", func := "bailiff/bailifflaw17.CoerceEnds", spec := "coerceEnds", inPlace := ["math.archTrunc", "math.Float64bits", "math.Float64frombits"], unfollowed := true, recurses := true, apart := false }
def CoerceEndsSaid : Prop := coerceEndsRow.holds Tryz.pinned (OpenSpec.ofChange coerceEndsSpec)

/-- ITS FALSE NEIGHBOUR: 'it returns false'. Refute it at one input. -/
def coerceEndsWrong : ChangeSpec := { name := "coerceEnds", fn := fun _ => fun
  | [d1, d2, d3, d4, d5] => { results := [.lit (.bool false)], args := [d1, d2, d3, d4, d5] }
  | _ => none }
def CoerceEndsWrongFalsely : Prop := coerceEndsRow.holds Tryz.pinned (OpenSpec.ofChange coerceEndsWrong)

/-- 'bailifflaw19.OpMembers': WHATEVER THE INPUT: true; the input reads as it did. -/
def opMembersSpec : ChangeSpec := { name := "opMembers", fn := fun _ => fun
  | [d1, d2, d3] => { results := [.lit (.bool true)], args := [d1, d2, d3] }
  | _ => none }
def opMembersRow : OpenClaim := { program := "ytejghjbbejeipaagreat", sum := "d32ef5f7771fdf6060d545711ff71a2888e620e805924c17134b0374fde2e5c3", func := "bailiff/bailifflaw19.OpMembers", spec := "opMembers", inPlace := ["math.archTrunc", "math.Float64bits", "math.Float64frombits"], unfollowed := true, recurses := true, apart := false }
def OpMembersSaid : Prop := opMembersRow.holds Tryz.pinned (OpenSpec.ofChange opMembersSpec)

/-- ITS FALSE NEIGHBOUR: 'it returns false'. Refute it at one input. -/
def opMembersWrong : ChangeSpec := { name := "opMembers", fn := fun _ => fun
  | [d1, d2, d3] => { results := [.lit (.bool false)], args := [d1, d2, d3] }
  | _ => none }
def OpMembersWrongFalsely : Prop := opMembersRow.holds Tryz.pinned (OpenSpec.ofChange opMembersWrong)

/-- 'bailifflaw19.OpBytes': WHATEVER THE INPUT: true; the input reads as it did. -/
def opBytesSpec : ChangeSpec := { name := "opBytes", fn := fun _ => fun
  | [d1, d2] => { results := [.lit (.bool true)], args := [d1, d2] }
  | _ => none }
def opBytesRow : OpenClaim := { program := "ytejghjbbejeipaagreat", sum := "d32ef5f7771fdf6060d545711ff71a2888e620e805924c17134b0374fde2e5c3", func := "bailiff/bailifflaw19.OpBytes", spec := "opBytes", inPlace := ["math.archTrunc", "math.Float64bits", "math.Float64frombits"], unfollowed := true, recurses := true, apart := false }
def OpBytesSaid : Prop := opBytesRow.holds Tryz.pinned (OpenSpec.ofChange opBytesSpec)

/-- ITS FALSE NEIGHBOUR: 'it returns false'. Refute it at one input. -/
def opBytesWrong : ChangeSpec := { name := "opBytes", fn := fun _ => fun
  | [d1, d2] => { results := [.lit (.bool false)], args := [d1, d2] }
  | _ => none }
def OpBytesWrongFalsely : Prop := opBytesRow.holds Tryz.pinned (OpenSpec.ofChange opBytesWrong)

/-- 'bailifflaw19.OpInstances': WHATEVER THE INPUT: true; the input reads as it did. -/
def opInstancesSpec : ChangeSpec := { name := "opInstances", fn := fun _ => fun
  | [d1, d2] => { results := [.lit (.bool true)], args := [d1, d2] }
  | _ => none }
def opInstancesRow : OpenClaim := { program := "ytejghjbbejeipaagreat", sum := "d32ef5f7771fdf6060d545711ff71a2888e620e805924c17134b0374fde2e5c3", func := "bailiff/bailifflaw19.OpInstances", spec := "opInstances", inPlace := ["math.archTrunc", "math.Float64bits", "math.Float64frombits"], unfollowed := true, recurses := true, apart := false }
def OpInstancesSaid : Prop := opInstancesRow.holds Tryz.pinned (OpenSpec.ofChange opInstancesSpec)

/-- ITS FALSE NEIGHBOUR: 'it returns false'. Refute it at one input. -/
def opInstancesWrong : ChangeSpec := { name := "opInstances", fn := fun _ => fun
  | [d1, d2] => { results := [.lit (.bool false)], args := [d1, d2] }
  | _ => none }
def OpInstancesWrongFalsely : Prop := opInstancesRow.holds Tryz.pinned (OpenSpec.ofChange opInstancesWrong)

/-- 'bailifflaw19.OpPlain': WHATEVER THE INPUT: true; the input reads as it did. -/
def opPlainSpec : ChangeSpec := { name := "opPlain", fn := fun _ => fun
  | [d1, d2] => { results := [.lit (.bool true)], args := [d1, d2] }
  | _ => none }
def opPlainRow : OpenClaim := { program := "ytejghjbbejeipaagreat", sum := "d32ef5f7771fdf6060d545711ff71a2888e620e805924c17134b0374fde2e5c3", func := "bailiff/bailifflaw19.OpPlain", spec := "opPlain", inPlace := ["math.archTrunc", "math.Float64bits", "math.Float64frombits"], unfollowed := true, recurses := true, apart := false }
def OpPlainSaid : Prop := opPlainRow.holds Tryz.pinned (OpenSpec.ofChange opPlainSpec)

/-- ITS FALSE NEIGHBOUR: 'it returns false'. Refute it at one input. -/
def opPlainWrong : ChangeSpec := { name := "opPlain", fn := fun _ => fun
  | [d1, d2] => { results := [.lit (.bool false)], args := [d1, d2] }
  | _ => none }
def OpPlainWrongFalsely : Prop := opPlainRow.holds Tryz.pinned (OpenSpec.ofChange opPlainWrong)

/- THE SECOND FORM. 'bulk': how many values and letters a reading holds, each counted each time it is reached (what is shared counts as often as it is met; a slice's spare places count too). A statement '..UptoSaid' is the law's where the arguments, and the package variables that the reading takes, are together of bulk at most 1048576: NARROWER than '..Said'. Prove '..Said' where nothing that the law and all that it calls make is longer than what came in: it says more and counts as full. Else prove '..UptoSaid'. A law counts once. -/
mutual
def uptoBulk {H : Type} : DataW H → Nat
  | .lit (.string bytes) => bytes.length + 1
  | .lit _ => 1
  | .nil => 1
  | .ptr d => uptoBulk d + 1
  | .slice elems spare => uptoBulkAll elems + uptoBulkAll spare + 1
  | .agg parts => uptoBulkAll parts + 1
  | .iface _ d => uptoBulk d + 1
  | .map entries => uptoBulkEntries entries + 1
  | .held _ => 1
def uptoBulkAll {H : Type} : List (DataW H) → Nat
  | [] => 0
  | d :: r => uptoBulk d + uptoBulkAll r
def uptoBulkEntries {H : Type} : List (Lit × DataW H) → Nat
  | [] => 0
  | x :: r => uptoBulkEntry x + uptoBulkEntries r
def uptoBulkEntry {H : Type} : Lit × DataW H → Nat
  | (.string bytes, d) => bytes.length + uptoBulk d + 1
  | (_, d) => uptoBulk d + 1
 end
def uptoSmall : (H : Type) → List (DataW H) → Bool := fun _ ds => decide (uptoBulkAll ds ≤ 1048576)
def OpenSpec.upto (s : _root_.Go.ChangeSpec) : _root_.Go.OpenSpec := { _root_.Go.OpenSpec.ofChange s with cond := some uptoSmall }

/-- 'bailifflaw19.OpNames', WHERE WHAT IT READS IS OF BULK AT MOST 1048576: true; the input reads as it did. -/
def opNamesUptoRow : OpenClaim := { program := "ytejghjbbejeipaagreat", sum := "d32ef5f7771fdf6060d545711ff71a2888e620e805924c17134b0374fde2e5c3", func := "bailiff/bailifflaw19.OpNames", spec := "opNames", inPlace := ["math.archTrunc", "math.Float64bits", "math.Float64frombits"], unfollowed := true, recurses := true, apart := false, narrowed := true }
def OpNamesUptoSaid : Prop := opNamesUptoRow.holds Tryz.pinned (OpenSpec.upto opNamesSpec)

/-- 'bailifflaw17.CoerceLike', WHERE WHAT IT READS IS OF BULK AT MOST 1048576: true; the input reads as it did. -/
def coerceLikeUptoRow : OpenClaim := { program := "ytejghjbbejeipaagreat", sum := "d32ef5f7771fdf6060d545711ff71a2888e620e805924c17134b0374fde2e5c3", func := "bailiff/bailifflaw17.CoerceLike", spec := "coerceLike", inPlace := ["math.archTrunc", "math.Float64bits", "math.Float64frombits"], unfollowed := true, recurses := true, apart := false, narrowed := true }
def CoerceLikeUptoSaid : Prop := coerceLikeUptoRow.holds Tryz.pinned (OpenSpec.upto coerceLikeSpec)

/-- 'bailifflaw17.CoerceEnds', WHERE WHAT IT READS IS OF BULK AT MOST 1048576: true; the input reads as it did. -/
def coerceEndsUptoRow : OpenClaim := { program := "ytejghjbbejeipaagreat", sum := "d32ef5f7771fdf6060d545711ff71a2888e620e805924c17134b0374fde2e5c3", func := "bailiff/bailifflaw17.CoerceEnds", spec := "coerceEnds", inPlace := ["math.archTrunc", "math.Float64bits", "math.Float64frombits"], unfollowed := true, recurses := true, apart := false, narrowed := true }
def CoerceEndsUptoSaid : Prop := coerceEndsUptoRow.holds Tryz.pinned (OpenSpec.upto coerceEndsSpec)

/-- 'bailifflaw19.OpMembers', WHERE WHAT IT READS IS OF BULK AT MOST 1048576: true; the input reads as it did. -/
def opMembersUptoRow : OpenClaim := { program := "ytejghjbbejeipaagreat", sum := "d32ef5f7771fdf6060d545711ff71a2888e620e805924c17134b0374fde2e5c3", func := "bailiff/bailifflaw19.OpMembers", spec := "opMembers", inPlace := ["math.archTrunc", "math.Float64bits", "math.Float64frombits"], unfollowed := true, recurses := true, apart := false, narrowed := true }
def OpMembersUptoSaid : Prop := opMembersUptoRow.holds Tryz.pinned (OpenSpec.upto opMembersSpec)

/-- 'bailifflaw19.OpBytes', WHERE WHAT IT READS IS OF BULK AT MOST 1048576: true; the input reads as it did. -/
def opBytesUptoRow : OpenClaim := { program := "ytejghjbbejeipaagreat", sum := "d32ef5f7771fdf6060d545711ff71a2888e620e805924c17134b0374fde2e5c3", func := "bailiff/bailifflaw19.OpBytes", spec := "opBytes", inPlace := ["math.archTrunc", "math.Float64bits", "math.Float64frombits"], unfollowed := true, recurses := true, apart := false, narrowed := true }
def OpBytesUptoSaid : Prop := opBytesUptoRow.holds Tryz.pinned (OpenSpec.upto opBytesSpec)

/-- 'bailifflaw19.OpInstances', WHERE WHAT IT READS IS OF BULK AT MOST 1048576: true; the input reads as it did. -/
def opInstancesUptoRow : OpenClaim := { program := "ytejghjbbejeipaagreat", sum := "d32ef5f7771fdf6060d545711ff71a2888e620e805924c17134b0374fde2e5c3", func := "bailiff/bailifflaw19.OpInstances", spec := "opInstances", inPlace := ["math.archTrunc", "math.Float64bits", "math.Float64frombits"], unfollowed := true, recurses := true, apart := false, narrowed := true }
def OpInstancesUptoSaid : Prop := opInstancesUptoRow.holds Tryz.pinned (OpenSpec.upto opInstancesSpec)

/-- 'bailifflaw19.OpPlain', WHERE WHAT IT READS IS OF BULK AT MOST 1048576: true; the input reads as it did. -/
def opPlainUptoRow : OpenClaim := { program := "ytejghjbbejeipaagreat", sum := "d32ef5f7771fdf6060d545711ff71a2888e620e805924c17134b0374fde2e5c3", func := "bailiff/bailifflaw19.OpPlain", spec := "opPlain", inPlace := ["math.archTrunc", "math.Float64bits", "math.Float64frombits"], unfollowed := true, recurses := true, apart := false, narrowed := true }
def OpPlainUptoSaid : Prop := opPlainUptoRow.holds Tryz.pinned (OpenSpec.upto opPlainSpec)

end Rows
end Go.Proofs.YtejghjbbejeipaaGreat
