/-
  No cell of these rows narrows 'for every input' (looked for: loops, veiled, ifaces, maps, wideKeys, modest, calm, conditions, laid).
  DERIVED. THE GIVEN ROWS OF THIS SEAT. 5 by the template 'for every input the law returns true; each argument reads behind the call as it read before'; 0 by the template 'total and deterministic' (their statements: YtdognggfplnkiaaTotals.lean).
  GIVEN WITH THE SEED: the statements are not yours to turn. If you find one false, say at which input.
  Laid BY PROGRAM, IN A SANDBOX (cutbox-rows.mjs): the forced cells as the released guide's own fill.sh prints them over the translation 87da2a6e5da35dfc… (all of the seat's roots in one cut). By AI agents, Wed Nov 11 2026. No macro, syntax, notation, axiom, sorry.
-/
import Derived.Test.YtdognggfplnkiaaChecked
import GoSem.Claim
import GoSem.ClaimJoined
import GoSem.ClaimMapViews
import Derived.JoinedTies
import Derived.KernelRfl
namespace Go.Proofs.Ytdognggfplnkiaa
/- THE CELL 'sum', in the pinned program and in every row, IS THE sha256 OF THE DUMP (.gsa) THAT YtdognggfplnkiaaProg.lean LOADS. Nothing in Lean hashes anything: it is a label: what it is worth is what the hold of that sum in a sandbox is worth. -/
noncomputable def Try.pinned : Pinned := { name := "ytdognggfplnkiaa", sum := "87da2a6e5da35dfce9faa618ad3f295b4656b778d73b315d3b10ef116eb80147", checked := Try.checked }
namespace Rows
def none {H : Type} : Left H := { results := [], args := [] }

/-- 'draylaw13.RepairRuns': WHATEVER THE INPUT: true; the input reads as it did. -/
def repairRunsSpec : ChangeSpec := { name := "repairRuns", fn := fun _ => fun
  | [] => { results := [.lit (.bool true)], args := [] }
  | _ => none }
def repairRunsRow : OpenClaim := { program := "ytdognggfplnkiaa", sum := "87da2a6e5da35dfce9faa618ad3f295b4656b778d73b315d3b10ef116eb80147", func := "dray/draylaw13.RepairRuns", spec := "repairRuns", unfollowed := true, recurses := true, plainKeys := false, apart := false }
def RepairRunsSaid : Prop := repairRunsRow.holds Try.pinned (OpenSpec.ofChange repairRunsSpec)

/-- ITS FALSE NEIGHBOUR: 'it returns false'. Refute it at one input. -/
def repairRunsWrong : ChangeSpec := { name := "repairRuns", fn := fun _ => fun
  | [] => { results := [.lit (.bool false)], args := [] }
  | _ => none }
def RepairRunsWrongFalsely : Prop := repairRunsRow.holds Try.pinned (OpenSpec.ofChange repairRunsWrong)

/-- 'draylaw13.RepairTells': WHATEVER THE INPUT: true; the input reads as it did. -/
def repairTellsSpec : ChangeSpec := { name := "repairTells", fn := fun _ => fun
  | [d] => { results := [.lit (.bool true)], args := [d] }
  | _ => none }
def repairTellsRow : OpenClaim := { program := "ytdognggfplnkiaa", sum := "87da2a6e5da35dfce9faa618ad3f295b4656b778d73b315d3b10ef116eb80147", func := "dray/draylaw13.RepairTells", spec := "repairTells", unfollowed := true, recurses := true, plainKeys := false, apart := false }
def RepairTellsSaid : Prop := repairTellsRow.holds Try.pinned (OpenSpec.ofChange repairTellsSpec)

/-- ITS FALSE NEIGHBOUR: 'it returns false'. Refute it at one input. -/
def repairTellsWrong : ChangeSpec := { name := "repairTells", fn := fun _ => fun
  | [d] => { results := [.lit (.bool false)], args := [d] }
  | _ => none }
def RepairTellsWrongFalsely : Prop := repairTellsRow.holds Try.pinned (OpenSpec.ofChange repairTellsWrong)

/-- 'draylaw13.RepairRests': WHATEVER THE INPUT: true; the input reads as it did. -/
def repairRestsSpec : ChangeSpec := { name := "repairRests", fn := fun _ => fun
  | [d1, d2] => { results := [.lit (.bool true)], args := [d1, d2] }
  | _ => none }
def repairRestsRow : OpenClaim := { program := "ytdognggfplnkiaa", sum := "87da2a6e5da35dfce9faa618ad3f295b4656b778d73b315d3b10ef116eb80147", func := "dray/draylaw13.RepairRests", spec := "repairRests", unfollowed := true, recurses := true, plainKeys := false, apart := false }
def RepairRestsSaid : Prop := repairRestsRow.holds Try.pinned (OpenSpec.ofChange repairRestsSpec)

/-- ITS FALSE NEIGHBOUR: 'it returns false'. Refute it at one input. -/
def repairRestsWrong : ChangeSpec := { name := "repairRests", fn := fun _ => fun
  | [d1, d2] => { results := [.lit (.bool false)], args := [d1, d2] }
  | _ => none }
def RepairRestsWrongFalsely : Prop := repairRestsRow.holds Try.pinned (OpenSpec.ofChange repairRestsWrong)

/-- 'draylaw13.RepairSums': WHATEVER THE INPUT: true; the input reads as it did. -/
def repairSumsSpec : ChangeSpec := { name := "repairSums", fn := fun _ => fun
  | [d] => { results := [.lit (.bool true)], args := [d] }
  | _ => none }
def repairSumsRow : OpenClaim := { program := "ytdognggfplnkiaa", sum := "87da2a6e5da35dfce9faa618ad3f295b4656b778d73b315d3b10ef116eb80147", func := "dray/draylaw13.RepairSums", spec := "repairSums", unfollowed := true, recurses := true, plainKeys := false, apart := false }
def RepairSumsSaid : Prop := repairSumsRow.holds Try.pinned (OpenSpec.ofChange repairSumsSpec)

/-- ITS FALSE NEIGHBOUR: 'it returns false'. Refute it at one input. -/
def repairSumsWrong : ChangeSpec := { name := "repairSums", fn := fun _ => fun
  | [d] => { results := [.lit (.bool false)], args := [d] }
  | _ => none }
def RepairSumsWrongFalsely : Prop := repairSumsRow.holds Try.pinned (OpenSpec.ofChange repairSumsWrong)

/-- 'draylaw13.RepairBetter': WHATEVER THE INPUT: true; the input reads as it did. -/
def repairBetterSpec : ChangeSpec := { name := "repairBetter", fn := fun _ => fun
  | [d1, d2, d3] => { results := [.lit (.bool true)], args := [d1, d2, d3] }
  | _ => none }
def repairBetterRow : OpenClaim := { program := "ytdognggfplnkiaa", sum := "87da2a6e5da35dfce9faa618ad3f295b4656b778d73b315d3b10ef116eb80147", func := "dray/draylaw13.RepairBetter", spec := "repairBetter", unfollowed := true, recurses := true, plainKeys := false, apart := false }
def RepairBetterSaid : Prop := repairBetterRow.holds Try.pinned (OpenSpec.ofChange repairBetterSpec)

/-- ITS FALSE NEIGHBOUR: 'it returns false'. Refute it at one input. -/
def repairBetterWrong : ChangeSpec := { name := "repairBetter", fn := fun _ => fun
  | [d1, d2, d3] => { results := [.lit (.bool false)], args := [d1, d2, d3] }
  | _ => none }
def RepairBetterWrongFalsely : Prop := repairBetterRow.holds Try.pinned (OpenSpec.ofChange repairBetterWrong)

/- THE SECOND FORM. 'bulk': how many values and letters a reading holds, each counted each time it is reached (what is shared counts as often as it is met; a slice's spare places count too). A statement '..UptoSaid' is the law's where the arguments, and the package variables that the reading takes, are together of bulk at most 1048576: NARROWER than '..Said'. Prove '..Said' where nothing that the law and all that it calls make is longer than what came in: it says more and counts as full. Else prove '..UptoSaid'. A law counts once. -/
mutual
def uptoBulk {H : Type} : DataW H → Nat
  | .lit (.string bytes) => bytes.length + 1
  | .lit _ => 1
  | .nil => 1
  | .ptr d => uptoBulk d + 1
  | .slice elems spare => uptoBulkAll elems + uptoBulkAll spare + 1
  | .agg parts => uptoBulkAll parts + 1
  | .iface _ d => uptoBulk d + 1
  | .map entries => uptoBulkEntries entries + 1
  | .held _ => 1
def uptoBulkAll {H : Type} : List (DataW H) → Nat
  | [] => 0
  | d :: r => uptoBulk d + uptoBulkAll r
def uptoBulkEntries {H : Type} : List (Lit × DataW H) → Nat
  | [] => 0
  | x :: r => uptoBulkEntry x + uptoBulkEntries r
def uptoBulkEntry {H : Type} : Lit × DataW H → Nat
  | (.string bytes, d) => bytes.length + uptoBulk d + 1
  | (_, d) => uptoBulk d + 1
 end
def uptoSmall : (H : Type) → List (DataW H) → Bool := fun _ ds => decide (uptoBulkAll ds ≤ 1048576)
def OpenSpec.upto (s : _root_.Go.ChangeSpec) : _root_.Go.OpenSpec := { _root_.Go.OpenSpec.ofChange s with cond := some uptoSmall }

/-- 'draylaw13.RepairRuns', WHERE WHAT IT READS IS OF BULK AT MOST 1048576: true; the input reads as it did. -/
def repairRunsUptoRow : OpenClaim := { program := "ytdognggfplnkiaa", sum := "87da2a6e5da35dfce9faa618ad3f295b4656b778d73b315d3b10ef116eb80147", func := "dray/draylaw13.RepairRuns", spec := "repairRuns", unfollowed := true, recurses := true, plainKeys := false, apart := false, narrowed := true }
def RepairRunsUptoSaid : Prop := repairRunsUptoRow.holds Try.pinned (OpenSpec.upto repairRunsSpec)

/-- 'draylaw13.RepairTells', WHERE WHAT IT READS IS OF BULK AT MOST 1048576: true; the input reads as it did. -/
def repairTellsUptoRow : OpenClaim := { program := "ytdognggfplnkiaa", sum := "87da2a6e5da35dfce9faa618ad3f295b4656b778d73b315d3b10ef116eb80147", func := "dray/draylaw13.RepairTells", spec := "repairTells", unfollowed := true, recurses := true, plainKeys := false, apart := false, narrowed := true }
def RepairTellsUptoSaid : Prop := repairTellsUptoRow.holds Try.pinned (OpenSpec.upto repairTellsSpec)

/-- 'draylaw13.RepairRests', WHERE WHAT IT READS IS OF BULK AT MOST 1048576: true; the input reads as it did. -/
def repairRestsUptoRow : OpenClaim := { program := "ytdognggfplnkiaa", sum := "87da2a6e5da35dfce9faa618ad3f295b4656b778d73b315d3b10ef116eb80147", func := "dray/draylaw13.RepairRests", spec := "repairRests", unfollowed := true, recurses := true, plainKeys := false, apart := false, narrowed := true }
def RepairRestsUptoSaid : Prop := repairRestsUptoRow.holds Try.pinned (OpenSpec.upto repairRestsSpec)

/-- 'draylaw13.RepairSums', WHERE WHAT IT READS IS OF BULK AT MOST 1048576: true; the input reads as it did. -/
def repairSumsUptoRow : OpenClaim := { program := "ytdognggfplnkiaa", sum := "87da2a6e5da35dfce9faa618ad3f295b4656b778d73b315d3b10ef116eb80147", func := "dray/draylaw13.RepairSums", spec := "repairSums", unfollowed := true, recurses := true, plainKeys := false, apart := false, narrowed := true }
def RepairSumsUptoSaid : Prop := repairSumsUptoRow.holds Try.pinned (OpenSpec.upto repairSumsSpec)

/-- 'draylaw13.RepairBetter', WHERE WHAT IT READS IS OF BULK AT MOST 1048576: true; the input reads as it did. -/
def repairBetterUptoRow : OpenClaim := { program := "ytdognggfplnkiaa", sum := "87da2a6e5da35dfce9faa618ad3f295b4656b778d73b315d3b10ef116eb80147", func := "dray/draylaw13.RepairBetter", spec := "repairBetter", unfollowed := true, recurses := true, plainKeys := false, apart := false, narrowed := true }
def RepairBetterUptoSaid : Prop := repairBetterUptoRow.holds Try.pinned (OpenSpec.upto repairBetterSpec)

end Rows
end Go.Proofs.Ytdognggfplnkiaa
