/-
  No cell of these rows narrows 'for every input' (looked for: loops, veiled, ifaces, maps, wideKeys, modest, calm, conditions, laid).
  DERIVED. THE GIVEN ROWS OF THIS SEAT. 6 by the template 'for every input the law returns true; each argument reads behind the call as it read before'; 0 by the template 'total and deterministic' (their statements: YtibcekdnkdkpiaaTotals.lean).
  GIVEN WITH THE SEED: the statements are not yours to turn. If you find one false, say at which input.
  Laid BY PROGRAM, IN A SANDBOX (cutbox-rows.mjs): the forced cells as the released guide's own fill.sh prints them over the translation 5305cdfbef59ddf6… (all of the seat's roots in one cut). By AI agents, Wed Nov 11 2026. No macro, syntax, notation, axiom, sorry.
-/
import Derived.Test.YtibcekdnkdkpiaaChecked
import GoSem.Claim
import GoSem.ClaimJoined
import GoSem.ClaimMapViews
import Derived.JoinedTies
import Derived.KernelRfl
namespace Go.Proofs.Ytibcekdnkdkpiaa
/- THE CELL 'sum', in the pinned program and in every row, IS THE sha256 OF THE DUMP (.gsa) THAT YtibcekdnkdkpiaaProg.lean LOADS. Nothing in Lean hashes anything: it is a label: what it is worth is what the hold of that sum in a sandbox is worth. -/
noncomputable def Try.pinned : Pinned := { name := "ytibcekdnkdkpiaa", sum := "5305cdfbef59ddf6df52b613ec69dd4789d577da0ce805e3fed9a6b2959cd476", checked := Try.checked }
namespace Rows
def none {H : Type} : Left H := { results := [], args := [] }

/-- 'quiltlaw09.TileTurned': WHATEVER THE INPUT: true; the input reads as it did. -/
def tileTurnedSpec : ChangeSpec := { name := "tileTurned", fn := fun _ => fun
  | [d1, d2, d3] => { results := [.lit (.bool true)], args := [d1, d2, d3] }
  | _ => none }
def tileTurnedRow : OpenClaim := { program := "ytibcekdnkdkpiaa", sum := "5305cdfbef59ddf6df52b613ec69dd4789d577da0ce805e3fed9a6b2959cd476", func := "quilt/quiltlaw09.TileTurned", spec := "tileTurned", unfollowed := true, recurses := true, apart := false }
def TileTurnedSaid : Prop := tileTurnedRow.holds Try.pinned (OpenSpec.ofChange tileTurnedSpec)

/-- ITS FALSE NEIGHBOUR: 'it returns false'. Refute it at one input. -/
def tileTurnedWrong : ChangeSpec := { name := "tileTurned", fn := fun _ => fun
  | [d1, d2, d3] => { results := [.lit (.bool false)], args := [d1, d2, d3] }
  | _ => none }
def TileTurnedWrongFalsely : Prop := tileTurnedRow.holds Try.pinned (OpenSpec.ofChange tileTurnedWrong)

/-- 'quiltlaw09.TileBuilt': WHATEVER THE INPUT: true; the input reads as it did. -/
def tileBuiltSpec : ChangeSpec := { name := "tileBuilt", fn := fun _ => fun
  | [d] => { results := [.lit (.bool true)], args := [d] }
  | _ => none }
def tileBuiltRow : OpenClaim := { program := "ytibcekdnkdkpiaa", sum := "5305cdfbef59ddf6df52b613ec69dd4789d577da0ce805e3fed9a6b2959cd476", func := "quilt/quiltlaw09.TileBuilt", spec := "tileBuilt", unfollowed := true, recurses := true, apart := false }
def TileBuiltSaid : Prop := tileBuiltRow.holds Try.pinned (OpenSpec.ofChange tileBuiltSpec)

/-- ITS FALSE NEIGHBOUR: 'it returns false'. Refute it at one input. -/
def tileBuiltWrong : ChangeSpec := { name := "tileBuilt", fn := fun _ => fun
  | [d] => { results := [.lit (.bool false)], args := [d] }
  | _ => none }
def TileBuiltWrongFalsely : Prop := tileBuiltRow.holds Try.pinned (OpenSpec.ofChange tileBuiltWrong)

/-- 'quiltlaw09.TileSteps': WHATEVER THE INPUT: true; the input reads as it did. -/
def tileStepsSpec : ChangeSpec := { name := "tileSteps", fn := fun _ => fun
  | [d1, d2, d3] => { results := [.lit (.bool true)], args := [d1, d2, d3] }
  | _ => none }
def tileStepsRow : OpenClaim := { program := "ytibcekdnkdkpiaa", sum := "5305cdfbef59ddf6df52b613ec69dd4789d577da0ce805e3fed9a6b2959cd476", func := "quilt/quiltlaw09.TileSteps", spec := "tileSteps", unfollowed := true, recurses := true, apart := false }
def TileStepsSaid : Prop := tileStepsRow.holds Try.pinned (OpenSpec.ofChange tileStepsSpec)

/-- ITS FALSE NEIGHBOUR: 'it returns false'. Refute it at one input. -/
def tileStepsWrong : ChangeSpec := { name := "tileSteps", fn := fun _ => fun
  | [d1, d2, d3] => { results := [.lit (.bool false)], args := [d1, d2, d3] }
  | _ => none }
def TileStepsWrongFalsely : Prop := tileStepsRow.holds Try.pinned (OpenSpec.ofChange tileStepsWrong)

/-- 'quiltlaw09.TileStill': WHATEVER THE INPUT: true; the input reads as it did. -/
def tileStillSpec : ChangeSpec := { name := "tileStill", fn := fun _ => fun
  | [d1, d2, d3] => { results := [.lit (.bool true)], args := [d1, d2, d3] }
  | _ => none }
def tileStillRow : OpenClaim := { program := "ytibcekdnkdkpiaa", sum := "5305cdfbef59ddf6df52b613ec69dd4789d577da0ce805e3fed9a6b2959cd476", func := "quilt/quiltlaw09.TileStill", spec := "tileStill", unfollowed := true, recurses := true, apart := false }
def TileStillSaid : Prop := tileStillRow.holds Try.pinned (OpenSpec.ofChange tileStillSpec)

/-- ITS FALSE NEIGHBOUR: 'it returns false'. Refute it at one input. -/
def tileStillWrong : ChangeSpec := { name := "tileStill", fn := fun _ => fun
  | [d1, d2, d3] => { results := [.lit (.bool false)], args := [d1, d2, d3] }
  | _ => none }
def TileStillWrongFalsely : Prop := tileStillRow.holds Try.pinned (OpenSpec.ofChange tileStillWrong)

/-- 'quiltlaw08.RuleBack': WHATEVER THE INPUT: true; the input reads as it did. -/
def ruleBackSpec : ChangeSpec := { name := "ruleBack", fn := fun _ => fun
  | [d1, d2] => { results := [.lit (.bool true)], args := [d1, d2] }
  | _ => none }
def ruleBackRow : OpenClaim := { program := "ytibcekdnkdkpiaa", sum := "5305cdfbef59ddf6df52b613ec69dd4789d577da0ce805e3fed9a6b2959cd476", func := "quilt/quiltlaw08.RuleBack", spec := "ruleBack", inPlace := ["internal/bytealg.IndexByteString", "internal/bytealg.IndexString"], named := ["internal/bytealg.MaxLen"], apart := false }
def RuleBackSaid : Prop := ruleBackRow.holds Try.pinned (OpenSpec.ofChange ruleBackSpec)

/-- ITS FALSE NEIGHBOUR: 'it returns false'. Refute it at one input. -/
def ruleBackWrong : ChangeSpec := { name := "ruleBack", fn := fun _ => fun
  | [d1, d2] => { results := [.lit (.bool false)], args := [d1, d2] }
  | _ => none }
def RuleBackWrongFalsely : Prop := ruleBackRow.holds Try.pinned (OpenSpec.ofChange ruleBackWrong)

/-- 'quiltlaw08.RuleDigits': WHATEVER THE INPUT: true; the input reads as it did. -/
def ruleDigitsSpec : ChangeSpec := { name := "ruleDigits", fn := fun _ => fun
  | [d] => { results := [.lit (.bool true)], args := [d] }
  | _ => none }
def ruleDigitsRow : OpenClaim := { program := "ytibcekdnkdkpiaa", sum := "5305cdfbef59ddf6df52b613ec69dd4789d577da0ce805e3fed9a6b2959cd476", func := "quilt/quiltlaw08.RuleDigits", spec := "ruleDigits", inPlace := ["internal/bytealg.IndexByteString", "internal/bytealg.IndexString"], named := ["internal/bytealg.MaxLen"], apart := false }
def RuleDigitsSaid : Prop := ruleDigitsRow.holds Try.pinned (OpenSpec.ofChange ruleDigitsSpec)

/-- ITS FALSE NEIGHBOUR: 'it returns false'. Refute it at one input. -/
def ruleDigitsWrong : ChangeSpec := { name := "ruleDigits", fn := fun _ => fun
  | [d] => { results := [.lit (.bool false)], args := [d] }
  | _ => none }
def RuleDigitsWrongFalsely : Prop := ruleDigitsRow.holds Try.pinned (OpenSpec.ofChange ruleDigitsWrong)

/- THE SECOND FORM. 'bulk': how many values and letters a reading holds, each counted each time it is reached (what is shared counts as often as it is met; a slice's spare places count too). A statement '..UptoSaid' is the law's where the arguments, and the package variables that the reading takes, are together of bulk at most 1048576: NARROWER than '..Said'. Prove '..Said' where nothing that the law and all that it calls make is longer than what came in: it says more and counts as full. Else prove '..UptoSaid'. A law counts once. -/
mutual
def uptoBulk {H : Type} : DataW H → Nat
  | .lit (.string bytes) => bytes.length + 1
  | .lit _ => 1
  | .nil => 1
  | .ptr d => uptoBulk d + 1
  | .slice elems spare => uptoBulkAll elems + uptoBulkAll spare + 1
  | .agg parts => uptoBulkAll parts + 1
  | .iface _ d => uptoBulk d + 1
  | .map entries => uptoBulkEntries entries + 1
  | .held _ => 1
def uptoBulkAll {H : Type} : List (DataW H) → Nat
  | [] => 0
  | d :: r => uptoBulk d + uptoBulkAll r
def uptoBulkEntries {H : Type} : List (Lit × DataW H) → Nat
  | [] => 0
  | x :: r => uptoBulkEntry x + uptoBulkEntries r
def uptoBulkEntry {H : Type} : Lit × DataW H → Nat
  | (.string bytes, d) => bytes.length + uptoBulk d + 1
  | (_, d) => uptoBulk d + 1
 end
def uptoSmall : (H : Type) → List (DataW H) → Bool := fun _ ds => decide (uptoBulkAll ds ≤ 1048576)
def OpenSpec.upto (s : _root_.Go.ChangeSpec) : _root_.Go.OpenSpec := { _root_.Go.OpenSpec.ofChange s with cond := some uptoSmall }

/-- 'quiltlaw09.TileTurned', WHERE WHAT IT READS IS OF BULK AT MOST 1048576: true; the input reads as it did. -/
def tileTurnedUptoRow : OpenClaim := { program := "ytibcekdnkdkpiaa", sum := "5305cdfbef59ddf6df52b613ec69dd4789d577da0ce805e3fed9a6b2959cd476", func := "quilt/quiltlaw09.TileTurned", spec := "tileTurned", unfollowed := true, recurses := true, apart := false, narrowed := true }
def TileTurnedUptoSaid : Prop := tileTurnedUptoRow.holds Try.pinned (OpenSpec.upto tileTurnedSpec)

/-- 'quiltlaw09.TileBuilt', WHERE WHAT IT READS IS OF BULK AT MOST 1048576: true; the input reads as it did. -/
def tileBuiltUptoRow : OpenClaim := { program := "ytibcekdnkdkpiaa", sum := "5305cdfbef59ddf6df52b613ec69dd4789d577da0ce805e3fed9a6b2959cd476", func := "quilt/quiltlaw09.TileBuilt", spec := "tileBuilt", unfollowed := true, recurses := true, apart := false, narrowed := true }
def TileBuiltUptoSaid : Prop := tileBuiltUptoRow.holds Try.pinned (OpenSpec.upto tileBuiltSpec)

/-- 'quiltlaw09.TileSteps', WHERE WHAT IT READS IS OF BULK AT MOST 1048576: true; the input reads as it did. -/
def tileStepsUptoRow : OpenClaim := { program := "ytibcekdnkdkpiaa", sum := "5305cdfbef59ddf6df52b613ec69dd4789d577da0ce805e3fed9a6b2959cd476", func := "quilt/quiltlaw09.TileSteps", spec := "tileSteps", unfollowed := true, recurses := true, apart := false, narrowed := true }
def TileStepsUptoSaid : Prop := tileStepsUptoRow.holds Try.pinned (OpenSpec.upto tileStepsSpec)

/-- 'quiltlaw09.TileStill', WHERE WHAT IT READS IS OF BULK AT MOST 1048576: true; the input reads as it did. -/
def tileStillUptoRow : OpenClaim := { program := "ytibcekdnkdkpiaa", sum := "5305cdfbef59ddf6df52b613ec69dd4789d577da0ce805e3fed9a6b2959cd476", func := "quilt/quiltlaw09.TileStill", spec := "tileStill", unfollowed := true, recurses := true, apart := false, narrowed := true }
def TileStillUptoSaid : Prop := tileStillUptoRow.holds Try.pinned (OpenSpec.upto tileStillSpec)

/-- 'quiltlaw08.RuleBack', WHERE WHAT IT READS IS OF BULK AT MOST 1048576: true; the input reads as it did. -/
def ruleBackUptoRow : OpenClaim := { program := "ytibcekdnkdkpiaa", sum := "5305cdfbef59ddf6df52b613ec69dd4789d577da0ce805e3fed9a6b2959cd476", func := "quilt/quiltlaw08.RuleBack", spec := "ruleBack", inPlace := ["internal/bytealg.IndexByteString", "internal/bytealg.IndexString"], named := ["internal/bytealg.MaxLen"], apart := false, narrowed := true }
def RuleBackUptoSaid : Prop := ruleBackUptoRow.holds Try.pinned (OpenSpec.upto ruleBackSpec)

/-- 'quiltlaw08.RuleDigits', WHERE WHAT IT READS IS OF BULK AT MOST 1048576: true; the input reads as it did. -/
def ruleDigitsUptoRow : OpenClaim := { program := "ytibcekdnkdkpiaa", sum := "5305cdfbef59ddf6df52b613ec69dd4789d577da0ce805e3fed9a6b2959cd476", func := "quilt/quiltlaw08.RuleDigits", spec := "ruleDigits", inPlace := ["internal/bytealg.IndexByteString", "internal/bytealg.IndexString"], named := ["internal/bytealg.MaxLen"], apart := false, narrowed := true }
def RuleDigitsUptoSaid : Prop := ruleDigitsUptoRow.holds Try.pinned (OpenSpec.upto ruleDigitsSpec)

end Rows
end Go.Proofs.Ytibcekdnkdkpiaa
