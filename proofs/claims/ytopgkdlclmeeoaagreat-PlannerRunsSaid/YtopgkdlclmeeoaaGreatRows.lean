/-
  No cell of these rows narrows 'for every input' (looked for: loops, veiled, ifaces, maps, wideKeys, modest, calm, conditions, laid).
  DERIVED. THE GIVEN ROWS OF THIS SEAT. 6 by the template 'for every input the law returns true; each argument reads behind the call as it read before'; 0 by the template 'total and deterministic' (their statements: YtopgkdlclmeeoaaGreatTotals.lean).
  GIVEN WITH THE SEED: the statements are not yours to turn. If you find one false, say at which input.
  Laid BY PROGRAM, IN A SANDBOX (cutbox-rows.mjs): the forced cells as the released guide's own fill.sh prints them over the translation e5dd5b0c6e61e140… (all of the seat's roots in one cut). By AI agents, Wed Nov 11 2026. No macro, syntax, notation, axiom, sorry.
-/
import Derived.Test.YtopgkdlclmeeoaaGreatChecked
import GoSem.Claim
import GoSem.ClaimJoined
import GoSem.ClaimMapViews
import Derived.JoinedTies
import Derived.KernelRfl
namespace Go.Proofs.YtopgkdlclmeeoaaGreat
/- THE CELL 'sum', in the pinned program and in every row, IS THE sha256 OF THE DUMP (.gsa) THAT YtopgkdlclmeeoaaGreatProg.lean LOADS. Nothing in Lean hashes anything: it is a label: what it is worth is what the hold of that sum in a sandbox is worth. -/
noncomputable def Tryz.pinned : Pinned := { name := "ytopgkdlclmeeoaagreat", sum := "e5dd5b0c6e61e1405156019f5703555442edf6c96c46d1a058714f5520b550dd", checked := Tryz.checked }
namespace Rows
def none {H : Type} : Left H := { results := [], args := [] }

/-- 'draylaw14.PlannerRuns': WHATEVER THE INPUT: true; the input reads as it did. -/
def plannerRunsSpec : ChangeSpec := { name := "plannerRuns", fn := fun _ => fun
  | [] => { results := [.lit (.bool true)], args := [] }
  | _ => none }
def plannerRunsRow : OpenClaim := { program := "ytopgkdlclmeeoaagreat", sum := "e5dd5b0c6e61e1405156019f5703555442edf6c96c46d1a058714f5520b550dd", func := "dray/draylaw14.PlannerRuns", spec := "plannerRuns", unfollowed := true, recurses := true, plainKeys := false, apart := false }
def PlannerRunsSaid : Prop := plannerRunsRow.holds Tryz.pinned (OpenSpec.ofChange plannerRunsSpec)

/-- ITS FALSE NEIGHBOUR: 'it returns false'. Refute it at one input. -/
def plannerRunsWrong : ChangeSpec := { name := "plannerRuns", fn := fun _ => fun
  | [] => { results := [.lit (.bool false)], args := [] }
  | _ => none }
def PlannerRunsWrongFalsely : Prop := plannerRunsRow.holds Tryz.pinned (OpenSpec.ofChange plannerRunsWrong)

/-- 'draylaw14.PlannerRight': WHATEVER THE INPUT: true; the input reads as it did. -/
def plannerRightSpec : ChangeSpec := { name := "plannerRight", fn := fun _ => fun
  | [d] => { results := [.lit (.bool true)], args := [d] }
  | _ => none }
def plannerRightRow : OpenClaim := { program := "ytopgkdlclmeeoaagreat", sum := "e5dd5b0c6e61e1405156019f5703555442edf6c96c46d1a058714f5520b550dd", func := "dray/draylaw14.PlannerRight", spec := "plannerRight", unfollowed := true, recurses := true, plainKeys := false, apart := false }
def PlannerRightSaid : Prop := plannerRightRow.holds Tryz.pinned (OpenSpec.ofChange plannerRightSpec)

/-- ITS FALSE NEIGHBOUR: 'it returns false'. Refute it at one input. -/
def plannerRightWrong : ChangeSpec := { name := "plannerRight", fn := fun _ => fun
  | [d] => { results := [.lit (.bool false)], args := [d] }
  | _ => none }
def PlannerRightWrongFalsely : Prop := plannerRightRow.holds Tryz.pinned (OpenSpec.ofChange plannerRightWrong)

/-- 'draylaw14.PlannerGates': WHATEVER THE INPUT: true; the input reads as it did. -/
def plannerGatesSpec : ChangeSpec := { name := "plannerGates", fn := fun _ => fun
  | [d1, d2] => { results := [.lit (.bool true)], args := [d1, d2] }
  | _ => none }
def plannerGatesRow : OpenClaim := { program := "ytopgkdlclmeeoaagreat", sum := "e5dd5b0c6e61e1405156019f5703555442edf6c96c46d1a058714f5520b550dd", func := "dray/draylaw14.PlannerGates", spec := "plannerGates", unfollowed := true, recurses := true, plainKeys := false, apart := false }
def PlannerGatesSaid : Prop := plannerGatesRow.holds Tryz.pinned (OpenSpec.ofChange plannerGatesSpec)

/-- ITS FALSE NEIGHBOUR: 'it returns false'. Refute it at one input. -/
def plannerGatesWrong : ChangeSpec := { name := "plannerGates", fn := fun _ => fun
  | [d1, d2] => { results := [.lit (.bool false)], args := [d1, d2] }
  | _ => none }
def PlannerGatesWrongFalsely : Prop := plannerGatesRow.holds Tryz.pinned (OpenSpec.ofChange plannerGatesWrong)

/-- 'draylaw14.PlannerBack': WHATEVER THE INPUT: true; the input reads as it did. -/
def plannerBackSpec : ChangeSpec := { name := "plannerBack", fn := fun _ => fun
  | [d1, d2] => { results := [.lit (.bool true)], args := [d1, d2] }
  | _ => none }
def plannerBackRow : OpenClaim := { program := "ytopgkdlclmeeoaagreat", sum := "e5dd5b0c6e61e1405156019f5703555442edf6c96c46d1a058714f5520b550dd", func := "dray/draylaw14.PlannerBack", spec := "plannerBack", unfollowed := true, recurses := true, plainKeys := false, apart := false }
def PlannerBackSaid : Prop := plannerBackRow.holds Tryz.pinned (OpenSpec.ofChange plannerBackSpec)

/-- ITS FALSE NEIGHBOUR: 'it returns false'. Refute it at one input. -/
def plannerBackWrong : ChangeSpec := { name := "plannerBack", fn := fun _ => fun
  | [d1, d2] => { results := [.lit (.bool false)], args := [d1, d2] }
  | _ => none }
def PlannerBackWrongFalsely : Prop := plannerBackRow.holds Tryz.pinned (OpenSpec.ofChange plannerBackWrong)

/-- 'draylaw14.PlannerPlays': WHATEVER THE INPUT: true; the input reads as it did. -/
def plannerPlaysSpec : ChangeSpec := { name := "plannerPlays", fn := fun _ => fun
  | [d1, d2] => { results := [.lit (.bool true)], args := [d1, d2] }
  | _ => none }
def plannerPlaysRow : OpenClaim := { program := "ytopgkdlclmeeoaagreat", sum := "e5dd5b0c6e61e1405156019f5703555442edf6c96c46d1a058714f5520b550dd", func := "dray/draylaw14.PlannerPlays", spec := "plannerPlays", unfollowed := true, recurses := true, plainKeys := false, apart := false }
def PlannerPlaysSaid : Prop := plannerPlaysRow.holds Tryz.pinned (OpenSpec.ofChange plannerPlaysSpec)

/-- ITS FALSE NEIGHBOUR: 'it returns false'. Refute it at one input. -/
def plannerPlaysWrong : ChangeSpec := { name := "plannerPlays", fn := fun _ => fun
  | [d1, d2] => { results := [.lit (.bool false)], args := [d1, d2] }
  | _ => none }
def PlannerPlaysWrongFalsely : Prop := plannerPlaysRow.holds Tryz.pinned (OpenSpec.ofChange plannerPlaysWrong)

/-- 'draylaw14.PlannerSafe': WHATEVER THE INPUT: true; the input reads as it did. -/
def plannerSafeSpec : ChangeSpec := { name := "plannerSafe", fn := fun _ => fun
  | [d1, d2] => { results := [.lit (.bool true)], args := [d1, d2] }
  | _ => none }
def plannerSafeRow : OpenClaim := { program := "ytopgkdlclmeeoaagreat", sum := "e5dd5b0c6e61e1405156019f5703555442edf6c96c46d1a058714f5520b550dd", func := "dray/draylaw14.PlannerSafe", spec := "plannerSafe", unfollowed := true, recurses := true, plainKeys := false, apart := false }
def PlannerSafeSaid : Prop := plannerSafeRow.holds Tryz.pinned (OpenSpec.ofChange plannerSafeSpec)

/-- ITS FALSE NEIGHBOUR: 'it returns false'. Refute it at one input. -/
def plannerSafeWrong : ChangeSpec := { name := "plannerSafe", fn := fun _ => fun
  | [d1, d2] => { results := [.lit (.bool false)], args := [d1, d2] }
  | _ => none }
def PlannerSafeWrongFalsely : Prop := plannerSafeRow.holds Tryz.pinned (OpenSpec.ofChange plannerSafeWrong)

/- THE SECOND FORM. 'bulk': how many values and letters a reading holds, each counted each time it is reached (what is shared counts as often as it is met; a slice's spare places count too). A statement '..UptoSaid' is the law's where the arguments, and the package variables that the reading takes, are together of bulk at most 1048576: NARROWER than '..Said'. Prove '..Said' where nothing that the law and all that it calls make is longer than what came in: it says more and counts as full. Else prove '..UptoSaid'. A law counts once. -/
mutual
def uptoBulk {H : Type} : DataW H → Nat
  | .lit (.string bytes) => bytes.length + 1
  | .lit _ => 1
  | .nil => 1
  | .ptr d => uptoBulk d + 1
  | .slice elems spare => uptoBulkAll elems + uptoBulkAll spare + 1
  | .agg parts => uptoBulkAll parts + 1
  | .iface _ d => uptoBulk d + 1
  | .map entries => uptoBulkEntries entries + 1
  | .held _ => 1
def uptoBulkAll {H : Type} : List (DataW H) → Nat
  | [] => 0
  | d :: r => uptoBulk d + uptoBulkAll r
def uptoBulkEntries {H : Type} : List (Lit × DataW H) → Nat
  | [] => 0
  | x :: r => uptoBulkEntry x + uptoBulkEntries r
def uptoBulkEntry {H : Type} : Lit × DataW H → Nat
  | (.string bytes, d) => bytes.length + uptoBulk d + 1
  | (_, d) => uptoBulk d + 1
 end
def uptoSmall : (H : Type) → List (DataW H) → Bool := fun _ ds => decide (uptoBulkAll ds ≤ 1048576)
def OpenSpec.upto (s : _root_.Go.ChangeSpec) : _root_.Go.OpenSpec := { _root_.Go.OpenSpec.ofChange s with cond := some uptoSmall }

/-- 'draylaw14.PlannerRuns', WHERE WHAT IT READS IS OF BULK AT MOST 1048576: true; the input reads as it did. -/
def plannerRunsUptoRow : OpenClaim := { program := "ytopgkdlclmeeoaagreat", sum := "e5dd5b0c6e61e1405156019f5703555442edf6c96c46d1a058714f5520b550dd", func := "dray/draylaw14.PlannerRuns", spec := "plannerRuns", unfollowed := true, recurses := true, plainKeys := false, apart := false, narrowed := true }
def PlannerRunsUptoSaid : Prop := plannerRunsUptoRow.holds Tryz.pinned (OpenSpec.upto plannerRunsSpec)

/-- 'draylaw14.PlannerRight', WHERE WHAT IT READS IS OF BULK AT MOST 1048576: true; the input reads as it did. -/
def plannerRightUptoRow : OpenClaim := { program := "ytopgkdlclmeeoaagreat", sum := "e5dd5b0c6e61e1405156019f5703555442edf6c96c46d1a058714f5520b550dd", func := "dray/draylaw14.PlannerRight", spec := "plannerRight", unfollowed := true, recurses := true, plainKeys := false, apart := false, narrowed := true }
def PlannerRightUptoSaid : Prop := plannerRightUptoRow.holds Tryz.pinned (OpenSpec.upto plannerRightSpec)

/-- 'draylaw14.PlannerGates', WHERE WHAT IT READS IS OF BULK AT MOST 1048576: true; the input reads as it did. -/
def plannerGatesUptoRow : OpenClaim := { program := "ytopgkdlclmeeoaagreat", sum := "e5dd5b0c6e61e1405156019f5703555442edf6c96c46d1a058714f5520b550dd", func := "dray/draylaw14.PlannerGates", spec := "plannerGates", unfollowed := true, recurses := true, plainKeys := false, apart := false, narrowed := true }
def PlannerGatesUptoSaid : Prop := plannerGatesUptoRow.holds Tryz.pinned (OpenSpec.upto plannerGatesSpec)

/-- 'draylaw14.PlannerBack', WHERE WHAT IT READS IS OF BULK AT MOST 1048576: true; the input reads as it did. -/
def plannerBackUptoRow : OpenClaim := { program := "ytopgkdlclmeeoaagreat", sum := "e5dd5b0c6e61e1405156019f5703555442edf6c96c46d1a058714f5520b550dd", func := "dray/draylaw14.PlannerBack", spec := "plannerBack", unfollowed := true, recurses := true, plainKeys := false, apart := false, narrowed := true }
def PlannerBackUptoSaid : Prop := plannerBackUptoRow.holds Tryz.pinned (OpenSpec.upto plannerBackSpec)

/-- 'draylaw14.PlannerPlays', WHERE WHAT IT READS IS OF BULK AT MOST 1048576: true; the input reads as it did. -/
def plannerPlaysUptoRow : OpenClaim := { program := "ytopgkdlclmeeoaagreat", sum := "e5dd5b0c6e61e1405156019f5703555442edf6c96c46d1a058714f5520b550dd", func := "dray/draylaw14.PlannerPlays", spec := "plannerPlays", unfollowed := true, recurses := true, plainKeys := false, apart := false, narrowed := true }
def PlannerPlaysUptoSaid : Prop := plannerPlaysUptoRow.holds Tryz.pinned (OpenSpec.upto plannerPlaysSpec)

/-- 'draylaw14.PlannerSafe', WHERE WHAT IT READS IS OF BULK AT MOST 1048576: true; the input reads as it did. -/
def plannerSafeUptoRow : OpenClaim := { program := "ytopgkdlclmeeoaagreat", sum := "e5dd5b0c6e61e1405156019f5703555442edf6c96c46d1a058714f5520b550dd", func := "dray/draylaw14.PlannerSafe", spec := "plannerSafe", unfollowed := true, recurses := true, plainKeys := false, apart := false, narrowed := true }
def PlannerSafeUptoSaid : Prop := plannerSafeUptoRow.holds Tryz.pinned (OpenSpec.upto plannerSafeSpec)

end Rows
end Go.Proofs.YtopgkdlclmeeoaaGreat
