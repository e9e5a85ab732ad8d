/-
  No cell of these rows narrows 'for every input' (looked for: loops, veiled, ifaces, maps, wideKeys, modest, calm, conditions, laid).
  DERIVED. THE GIVEN ROWS OF THIS SEAT. 4 by the template 'for every input the law returns true; each argument reads behind the call as it read before'; 0 by the template 'total and deterministic' (their statements: YtanfkimchoeckaaGreatTotals.lean).
  GIVEN WITH THE SEED: the statements are not yours to turn. If you find one false, say at which input.
  Laid BY PROGRAM, IN A SANDBOX (cutbox-rows.mjs): the forced cells as the released guide's own fill.sh prints them over the translation b7a41d3796cf09e8… (all of the seat's roots in one cut). By AI agents, Wed Nov 11 2026. No macro, syntax, notation, axiom, sorry.
-/
import Derived.Test.YtanfkimchoeckaaGreatChecked
import GoSem.Claim
import GoSem.ClaimJoined
import GoSem.ClaimMapViews
import Derived.JoinedTies
import Derived.KernelRfl
namespace Go.Proofs.YtanfkimchoeckaaGreat
/- THE CELL 'sum', in the pinned program and in every row, IS THE sha256 OF THE DUMP (.gsa) THAT YtanfkimchoeckaaGreatProg.lean LOADS. Nothing in Lean hashes anything: it is a label: what it is worth is what the hold of that sum in a sandbox is worth. -/
noncomputable def Tryz.pinned : Pinned := { name := "ytanfkimchoeckaagreat", sum := "b7a41d3796cf09e8f2024fb5511e9bae7ec5683bff2fffa287f30f88195c3e07", checked := Tryz.checked }
namespace Rows
def none {H : Type} : Left H := { results := [], args := [] }

/-- 'bailifflaw19.OpMembers': WHATEVER THE INPUT: true; the input reads as it did. -/
def opMembersSpec : ChangeSpec := { name := "opMembers", fn := fun _ => fun
  | [d1, d2, d3] => { results := [.lit (.bool true)], args := [d1, d2, d3] }
  | _ => none }
def opMembersRow : OpenClaim := { program := "ytanfkimchoeckaagreat", sum := "b7a41d3796cf09e8f2024fb5511e9bae7ec5683bff2fffa287f30f88195c3e07", func := "bailiff/bailifflaw19.OpMembers", spec := "opMembers", inPlace := ["math.archTrunc", "math.Float64bits", "math.Float64frombits"], unfollowed := true, recurses := true, apart := false }
def OpMembersSaid : Prop := opMembersRow.holds Tryz.pinned (OpenSpec.ofChange opMembersSpec)

/-- ITS FALSE NEIGHBOUR: 'it returns false'. Refute it at one input. -/
def opMembersWrong : ChangeSpec := { name := "opMembers", fn := fun _ => fun
  | [d1, d2, d3] => { results := [.lit (.bool false)], args := [d1, d2, d3] }
  | _ => none }
def OpMembersWrongFalsely : Prop := opMembersRow.holds Tryz.pinned (OpenSpec.ofChange opMembersWrong)

/-- 'bailifflaw17.CoerceLike': WHATEVER THE INPUT: true; the input reads as it did. -/
def coerceLikeSpec : ChangeSpec := { name := "coerceLike", fn := fun _ => fun
  | [d1, d2] => { results := [.lit (.bool true)], args := [d1, d2] }
  | _ => none }
def coerceLikeRow : OpenClaim := { program := "ytanfkimchoeckaagreat", sum := "b7a41d3796cf09e8f2024fb5511e9bae7ec5683bff2fffa287f30f88195c3e07", func := "bailiff/bailifflaw17.CoerceLike", spec := "coerceLike", inPlace := ["math.archTrunc", "math.Float64bits", "math.Float64frombits"], unfollowed := true, recurses := true, apart := false }
def CoerceLikeSaid : Prop := coerceLikeRow.holds Tryz.pinned (OpenSpec.ofChange coerceLikeSpec)

/-- ITS FALSE NEIGHBOUR: 'it returns false'. Refute it at one input. -/
def coerceLikeWrong : ChangeSpec := { name := "coerceLike", fn := fun _ => fun
  | [d1, d2] => { results := [.lit (.bool false)], args := [d1, d2] }
  | _ => none }
def CoerceLikeWrongFalsely : Prop := coerceLikeRow.holds Tryz.pinned (OpenSpec.ofChange coerceLikeWrong)

/-- 'bailifflaw19.OpBytes': WHATEVER THE INPUT: true; the input reads as it did. -/
def opBytesSpec : ChangeSpec := { name := "opBytes", fn := fun _ => fun
  | [d1, d2] => { results := [.lit (.bool true)], args := [d1, d2] }
  | _ => none }
def opBytesRow : OpenClaim := { program := "ytanfkimchoeckaagreat", sum := "b7a41d3796cf09e8f2024fb5511e9bae7ec5683bff2fffa287f30f88195c3e07", func := "bailiff/bailifflaw19.OpBytes", spec := "opBytes", inPlace := ["math.archTrunc", "math.Float64bits", "math.Float64frombits"], unfollowed := true, recurses := true, apart := false }
def OpBytesSaid : Prop := opBytesRow.holds Tryz.pinned (OpenSpec.ofChange opBytesSpec)

/-- ITS FALSE NEIGHBOUR: 'it returns false'. Refute it at one input. -/
def opBytesWrong : ChangeSpec := { name := "opBytes", fn := fun _ => fun
  | [d1, d2] => { results := [.lit (.bool false)], args := [d1, d2] }
  | _ => none }
def OpBytesWrongFalsely : Prop := opBytesRow.holds Tryz.pinned (OpenSpec.ofChange opBytesWrong)

/-- 'bailifflaw19.OpInstances': WHATEVER THE INPUT: true; the input reads as it did. -/
def opInstancesSpec : ChangeSpec := { name := "opInstances", fn := fun _ => fun
  | [d1, d2] => { results := [.lit (.bool true)], args := [d1, d2] }
  | _ => none }
def opInstancesRow : OpenClaim := { program := "ytanfkimchoeckaagreat", sum := "b7a41d3796cf09e8f2024fb5511e9bae7ec5683bff2fffa287f30f88195c3e07", func := "bailiff/bailifflaw19.OpInstances", spec := "opInstances", inPlace := ["math.archTrunc", "math.Float64bits", "math.Float64frombits"], unfollowed := true, recurses := true, apart := false }
def OpInstancesSaid : Prop := opInstancesRow.holds Tryz.pinned (OpenSpec.ofChange opInstancesSpec)

/-- ITS FALSE NEIGHBOUR: 'it returns false'. Refute it at one input. -/
def opInstancesWrong : ChangeSpec := { name := "opInstances", fn := fun _ => fun
  | [d1, d2] => { results := [.lit (.bool false)], args := [d1, d2] }
  | _ => none }
def OpInstancesWrongFalsely : Prop := opInstancesRow.holds Tryz.pinned (OpenSpec.ofChange opInstancesWrong)

/- THE SECOND FORM. 'bulk': how many values and letters a reading holds, each counted each time it is reached (what is shared counts as often as it is met; a slice's spare places count too). A statement '..UptoSaid' is the law's where the arguments, and the package variables that the reading takes, are together of bulk at most 1048576: NARROWER than '..Said'. Prove '..Said' where nothing that the law and all that it calls make is longer than what came in: it says more and counts as full. Else prove '..UptoSaid'. A law counts once. -/
mutual
def uptoBulk {H : Type} : DataW H → Nat
  | .lit (.string bytes) => bytes.length + 1
  | .lit _ => 1
  | .nil => 1
  | .ptr d => uptoBulk d + 1
  | .slice elems spare => uptoBulkAll elems + uptoBulkAll spare + 1
  | .agg parts => uptoBulkAll parts + 1
  | .iface _ d => uptoBulk d + 1
  | .map entries => uptoBulkEntries entries + 1
  | .held _ => 1
def uptoBulkAll {H : Type} : List (DataW H) → Nat
  | [] => 0
  | d :: r => uptoBulk d + uptoBulkAll r
def uptoBulkEntries {H : Type} : List (Lit × DataW H) → Nat
  | [] => 0
  | x :: r => uptoBulkEntry x + uptoBulkEntries r
def uptoBulkEntry {H : Type} : Lit × DataW H → Nat
  | (.string bytes, d) => bytes.length + uptoBulk d + 1
  | (_, d) => uptoBulk d + 1
 end
def uptoSmall : (H : Type) → List (DataW H) → Bool := fun _ ds => decide (uptoBulkAll ds ≤ 1048576)
def OpenSpec.upto (s : _root_.Go.ChangeSpec) : _root_.Go.OpenSpec := { _root_.Go.OpenSpec.ofChange s with cond := some uptoSmall }

/-- 'bailifflaw19.OpMembers', WHERE WHAT IT READS IS OF BULK AT MOST 1048576: true; the input reads as it did. -/
def opMembersUptoRow : OpenClaim := { program := "ytanfkimchoeckaagreat", sum := "b7a41d3796cf09e8f2024fb5511e9bae7ec5683bff2fffa287f30f88195c3e07", func := "bailiff/bailifflaw19.OpMembers", spec := "opMembers", inPlace := ["math.archTrunc", "math.Float64bits", "math.Float64frombits"], unfollowed := true, recurses := true, apart := false, narrowed := true }
def OpMembersUptoSaid : Prop := opMembersUptoRow.holds Tryz.pinned (OpenSpec.upto opMembersSpec)

/-- 'bailifflaw17.CoerceLike', WHERE WHAT IT READS IS OF BULK AT MOST 1048576: true; the input reads as it did. -/
def coerceLikeUptoRow : OpenClaim := { program := "ytanfkimchoeckaagreat", sum := "b7a41d3796cf09e8f2024fb5511e9bae7ec5683bff2fffa287f30f88195c3e07", func := "bailiff/bailifflaw17.CoerceLike", spec := "coerceLike", inPlace := ["math.archTrunc", "math.Float64bits", "math.Float64frombits"], unfollowed := true, recurses := true, apart := false, narrowed := true }
def CoerceLikeUptoSaid : Prop := coerceLikeUptoRow.holds Tryz.pinned (OpenSpec.upto coerceLikeSpec)

/-- 'bailifflaw19.OpBytes', WHERE WHAT IT READS IS OF BULK AT MOST 1048576: true; the input reads as it did. -/
def opBytesUptoRow : OpenClaim := { program := "ytanfkimchoeckaagreat", sum := "b7a41d3796cf09e8f2024fb5511e9bae7ec5683bff2fffa287f30f88195c3e07", func := "bailiff/bailifflaw19.OpBytes", spec := "opBytes", inPlace := ["math.archTrunc", "math.Float64bits", "math.Float64frombits"], unfollowed := true, recurses := true, apart := false, narrowed := true }
def OpBytesUptoSaid : Prop := opBytesUptoRow.holds Tryz.pinned (OpenSpec.upto opBytesSpec)

/-- 'bailifflaw19.OpInstances', WHERE WHAT IT READS IS OF BULK AT MOST 1048576: true; the input reads as it did. -/
def opInstancesUptoRow : OpenClaim := { program := "ytanfkimchoeckaagreat", sum := "b7a41d3796cf09e8f2024fb5511e9bae7ec5683bff2fffa287f30f88195c3e07", func := "bailiff/bailifflaw19.OpInstances", spec := "opInstances", inPlace := ["math.archTrunc", "math.Float64bits", "math.Float64frombits"], unfollowed := true, recurses := true, apart := false, narrowed := true }
def OpInstancesUptoSaid : Prop := opInstancesUptoRow.holds Tryz.pinned (OpenSpec.upto opInstancesSpec)

end Rows
end Go.Proofs.YtanfkimchoeckaaGreat
