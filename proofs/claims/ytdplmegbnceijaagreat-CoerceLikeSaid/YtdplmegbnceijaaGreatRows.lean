/-
  No cell of these rows narrows 'for every input' (looked for: loops, veiled, ifaces, maps, wideKeys, modest, calm, conditions, laid).
  DERIVED. THE GIVEN ROWS OF THIS SEAT. 3 by the template 'for every input the law returns true; each argument reads behind the call as it read before'; 0 by the template 'total and deterministic' (their statements: YtdplmegbnceijaaGreatTotals.lean).
  GIVEN WITH THE SEED: the statements are not yours to turn. If you find one false, say at which input.
  Laid BY PROGRAM, IN A SANDBOX (cutbox-rows.mjs): the forced cells as the released guide's own fill.sh prints them over the translation e899f95d13a852da… (all of the seat's roots in one cut). By AI agents, Wed Nov 11 2026. No macro, syntax, notation, axiom, sorry.
-/
import Derived.Test.YtdplmegbnceijaaGreatChecked
import GoSem.Claim
import GoSem.ClaimJoined
import GoSem.ClaimMapViews
import Derived.JoinedTies
import Derived.KernelRfl
namespace Go.Proofs.YtdplmegbnceijaaGreat
/- THE CELL 'sum', in the pinned program and in every row, IS THE sha256 OF THE DUMP (.gsa) THAT YtdplmegbnceijaaGreatProg.lean LOADS. Nothing in Lean hashes anything: it is a label: what it is worth is what the hold of that sum in a sandbox is worth. -/
noncomputable def Tryz.pinned : Pinned := { name := "ytdplmegbnceijaagreat", sum := "e899f95d13a852da5d77ac1ee2a8c355102773f99c4fe66b1a8335981dbacc1d", checked := Tryz.checked }
namespace Rows
def none {H : Type} : Left H := { results := [], args := [] }

/-- 'bailifflaw17.CoerceLike': WHATEVER THE INPUT: true; the input reads as it did. -/
def coerceLikeSpec : ChangeSpec := { name := "coerceLike", fn := fun _ => fun
  | [d1, d2] => { results := [.lit (.bool true)], args := [d1, d2] }
  | _ => none }
def coerceLikeRow : OpenClaim := { program := "ytdplmegbnceijaagreat", sum := "e899f95d13a852da5d77ac1ee2a8c355102773f99c4fe66b1a8335981dbacc1d", func := "bailiff/bailifflaw17.CoerceLike", spec := "coerceLike", inPlace := ["math.archTrunc", "math.Float64bits", "math.Float64frombits"], unfollowed := true, recurses := true, apart := false }
def CoerceLikeSaid : Prop := coerceLikeRow.holds Tryz.pinned (OpenSpec.ofChange coerceLikeSpec)

/-- ITS FALSE NEIGHBOUR: 'it returns false'. Refute it at one input. -/
def coerceLikeWrong : ChangeSpec := { name := "coerceLike", fn := fun _ => fun
  | [d1, d2] => { results := [.lit (.bool false)], args := [d1, d2] }
  | _ => none }
def CoerceLikeWrongFalsely : Prop := coerceLikeRow.holds Tryz.pinned (OpenSpec.ofChange coerceLikeWrong)

/-- 'bailifflaw17.CoerceEnds': WHATEVER THE INPUT: true; the input reads as it did. -/
def coerceEndsSpec : ChangeSpec := { name := "coerceEnds", fn := fun _ => fun
  | [d1, d2, d3, d4, d5] => { results := [.lit (.bool true)], args := [d1, d2, d3, d4, d5] }
  | _ => none }
def coerceEndsRow : OpenClaim := { program := "ytdplmegbnceijaagreat", sum := "e899f95d13a852da5d77ac1ee2a8c355102773f99c4fe66b1a8335981dbacc1d", func := "bailiff/bailifflaw17.CoerceEnds", spec := "coerceEnds", inPlace := ["math.archTrunc", "math.Float64bits", "math.Float64frombits"], unfollowed := true, recurses := true, apart := false }
def CoerceEndsSaid : Prop := coerceEndsRow.holds Tryz.pinned (OpenSpec.ofChange coerceEndsSpec)

/-- ITS FALSE NEIGHBOUR: 'it returns false'. Refute it at one input. -/
def coerceEndsWrong : ChangeSpec := { name := "coerceEnds", fn := fun _ => fun
  | [d1, d2, d3, d4, d5] => { results := [.lit (.bool false)], args := [d1, d2, d3, d4, d5] }
  | _ => none }
def CoerceEndsWrongFalsely : Prop := coerceEndsRow.holds Tryz.pinned (OpenSpec.ofChange coerceEndsWrong)

/-- 'bailifflaw17.CoerceLeads': WHATEVER THE INPUT: true; the input reads as it did. -/
def coerceLeadsSpec : ChangeSpec := { name := "coerceLeads", fn := fun _ => fun
  | [d1, d2, d3, d4, d5] => { results := [.lit (.bool true)], args := [d1, d2, d3, d4, d5] }
  | _ => none }
def coerceLeadsRow : OpenClaim := { program := "ytdplmegbnceijaagreat", sum := "e899f95d13a852da5d77ac1ee2a8c355102773f99c4fe66b1a8335981dbacc1d", func := "bailiff/bailifflaw17.CoerceLeads", spec := "coerceLeads", inPlace := ["math.archTrunc", "math.Float64bits", "math.Float64frombits"], unfollowed := true, recurses := true, apart := false }
def CoerceLeadsSaid : Prop := coerceLeadsRow.holds Tryz.pinned (OpenSpec.ofChange coerceLeadsSpec)

/-- ITS FALSE NEIGHBOUR: 'it returns false'. Refute it at one input. -/
def coerceLeadsWrong : ChangeSpec := { name := "coerceLeads", fn := fun _ => fun
  | [d1, d2, d3, d4, d5] => { results := [.lit (.bool false)], args := [d1, d2, d3, d4, d5] }
  | _ => none }
def CoerceLeadsWrongFalsely : Prop := coerceLeadsRow.holds Tryz.pinned (OpenSpec.ofChange coerceLeadsWrong)

/- THE SECOND FORM. 'bulk': how many values and letters a reading holds, each counted each time it is reached (what is shared counts as often as it is met; a slice's spare places count too). A statement '..UptoSaid' is the law's where the arguments, and the package variables that the reading takes, are together of bulk at most 1048576: NARROWER than '..Said'. Prove '..Said' where nothing that the law and all that it calls make is longer than what came in: it says more and counts as full. Else prove '..UptoSaid'. A law counts once. -/
mutual
def uptoBulk {H : Type} : DataW H → Nat
  | .lit (.string bytes) => bytes.length + 1
  | .lit _ => 1
  | .nil => 1
  | .ptr d => uptoBulk d + 1
  | .slice elems spare => uptoBulkAll elems + uptoBulkAll spare + 1
  | .agg parts => uptoBulkAll parts + 1
  | .iface _ d => uptoBulk d + 1
  | .map entries => uptoBulkEntries entries + 1
  | .held _ => 1
def uptoBulkAll {H : Type} : List (DataW H) → Nat
  | [] => 0
  | d :: r => uptoBulk d + uptoBulkAll r
def uptoBulkEntries {H : Type} : List (Lit × DataW H) → Nat
  | [] => 0
  | x :: r => uptoBulkEntry x + uptoBulkEntries r
def uptoBulkEntry {H : Type} : Lit × DataW H → Nat
  | (.string bytes, d) => bytes.length + uptoBulk d + 1
  | (_, d) => uptoBulk d + 1
 end
def uptoSmall : (H : Type) → List (DataW H) → Bool := fun _ ds => decide (uptoBulkAll ds ≤ 1048576)
def OpenSpec.upto (s : _root_.Go.ChangeSpec) : _root_.Go.OpenSpec := { _root_.Go.OpenSpec.ofChange s with cond := some uptoSmall }

/-- 'bailifflaw17.CoerceLike', WHERE WHAT IT READS IS OF BULK AT MOST 1048576: true; the input reads as it did. -/
def coerceLikeUptoRow : OpenClaim := { program := "ytdplmegbnceijaagreat", sum := "e899f95d13a852da5d77ac1ee2a8c355102773f99c4fe66b1a8335981dbacc1d", func := "bailiff/bailifflaw17.CoerceLike", spec := "coerceLike", inPlace := ["math.archTrunc", "math.Float64bits", "math.Float64frombits"], unfollowed := true, recurses := true, apart := false, narrowed := true }
def CoerceLikeUptoSaid : Prop := coerceLikeUptoRow.holds Tryz.pinned (OpenSpec.upto coerceLikeSpec)

/-- 'bailifflaw17.CoerceEnds', WHERE WHAT IT READS IS OF BULK AT MOST 1048576: true; the input reads as it did. -/
def coerceEndsUptoRow : OpenClaim := { program := "ytdplmegbnceijaagreat", sum := "e899f95d13a852da5d77ac1ee2a8c355102773f99c4fe66b1a8335981dbacc1d", func := "bailiff/bailifflaw17.CoerceEnds", spec := "coerceEnds", inPlace := ["math.archTrunc", "math.Float64bits", "math.Float64frombits"], unfollowed := true, recurses := true, apart := false, narrowed := true }
def CoerceEndsUptoSaid : Prop := coerceEndsUptoRow.holds Tryz.pinned (OpenSpec.upto coerceEndsSpec)

/-- 'bailifflaw17.CoerceLeads', WHERE WHAT IT READS IS OF BULK AT MOST 1048576: true; the input reads as it did. -/
def coerceLeadsUptoRow : OpenClaim := { program := "ytdplmegbnceijaagreat", sum := "e899f95d13a852da5d77ac1ee2a8c355102773f99c4fe66b1a8335981dbacc1d", func := "bailiff/bailifflaw17.CoerceLeads", spec := "coerceLeads", inPlace := ["math.archTrunc", "math.Float64bits", "math.Float64frombits"], unfollowed := true, recurses := true, apart := false, narrowed := true }
def CoerceLeadsUptoSaid : Prop := coerceLeadsUptoRow.holds Tryz.pinned (OpenSpec.upto coerceLeadsSpec)

end Rows
end Go.Proofs.YtdplmegbnceijaaGreat
