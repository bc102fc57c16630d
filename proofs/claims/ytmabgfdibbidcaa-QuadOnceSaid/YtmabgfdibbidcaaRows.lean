/-
  No cell of these rows narrows 'for every input' (looked for: loops, veiled, ifaces, maps, wideKeys, modest, calm, conditions, laid).
  DERIVED. THE GIVEN ROWS OF THIS SEAT. 11 by the template 'for every input the law returns true; each argument reads behind the call as it read before'; 0 by the template 'total and deterministic' (their statements: YtmabgfdibbidcaaTotals.lean).
  GIVEN WITH THE SEED: the statements are not yours to turn. If you find one false, say at which input.
  Laid BY PROGRAM, IN A SANDBOX (cutbox-rows.mjs): the forced cells as the released guide's own fill.sh prints them over the translation c8f4606b4fe19374… (all of the seat's roots in one cut). By AI agents, Wed Nov 11 2026. No macro, syntax, notation, axiom, sorry.
-/
import Derived.Test.YtmabgfdibbidcaaChecked
import GoSem.Claim
import GoSem.ClaimJoined
import GoSem.ClaimMapViews
import Derived.JoinedTies
import Derived.KernelRfl
namespace Go.Proofs.Ytmabgfdibbidcaa
/- THE CELL 'sum', in the pinned program and in every row, IS THE sha256 OF THE DUMP (.gsa) THAT YtmabgfdibbidcaaProg.lean LOADS. Nothing in Lean hashes anything: it is a label: what it is worth is what the hold of that sum in a sandbox is worth. -/
noncomputable def Try.pinned : Pinned := { name := "ytmabgfdibbidcaa", sum := "c8f4606b4fe193744995472667b8d94c8db6cde472eddfcfe0bf6d23a5ab9fb3", checked := Try.checked }
namespace Rows
def none {H : Type} : Left H := { results := [], args := [] }

/-- 'quiltlaw11.QuadCounts': WHATEVER THE INPUT: true; the input reads as it did. -/
def quadCountsSpec : ChangeSpec := { name := "quadCounts", fn := fun _ => fun
  | [d1, d2] => { results := [.lit (.bool true)], args := [d1, d2] }
  | _ => none }
def quadCountsRow : OpenClaim := { program := "ytmabgfdibbidcaa", sum := "c8f4606b4fe193744995472667b8d94c8db6cde472eddfcfe0bf6d23a5ab9fb3", func := "quilt/quiltlaw11.QuadCounts", spec := "quadCounts", plainKeys := false, apart := false }
def QuadCountsSaid : Prop := quadCountsRow.holds Try.pinned (OpenSpec.ofChange quadCountsSpec)

/-- ITS FALSE NEIGHBOUR: 'it returns false'. Refute it at one input. -/
def quadCountsWrong : ChangeSpec := { name := "quadCounts", fn := fun _ => fun
  | [d1, d2] => { results := [.lit (.bool false)], args := [d1, d2] }
  | _ => none }
def QuadCountsWrongFalsely : Prop := quadCountsRow.holds Try.pinned (OpenSpec.ofChange quadCountsWrong)

/-- 'quiltlaw11.QuadCells': WHATEVER THE INPUT: true; the input reads as it did. -/
def quadCellsSpec : ChangeSpec := { name := "quadCells", fn := fun _ => fun
  | [d1, d2, d3] => { results := [.lit (.bool true)], args := [d1, d2, d3] }
  | _ => none }
def quadCellsRow : OpenClaim := { program := "ytmabgfdibbidcaa", sum := "c8f4606b4fe193744995472667b8d94c8db6cde472eddfcfe0bf6d23a5ab9fb3", func := "quilt/quiltlaw11.QuadCells", spec := "quadCells", recurses := true, plainKeys := false, apart := false }
def QuadCellsSaid : Prop := quadCellsRow.holds Try.pinned (OpenSpec.ofChange quadCellsSpec)

/-- ITS FALSE NEIGHBOUR: 'it returns false'. Refute it at one input. -/
def quadCellsWrong : ChangeSpec := { name := "quadCells", fn := fun _ => fun
  | [d1, d2, d3] => { results := [.lit (.bool false)], args := [d1, d2, d3] }
  | _ => none }
def QuadCellsWrongFalsely : Prop := quadCellsRow.holds Try.pinned (OpenSpec.ofChange quadCellsWrong)

/-- 'quiltlaw11.QuadOnce': WHATEVER THE INPUT: true; the input reads as it did. -/
def quadOnceSpec : ChangeSpec := { name := "quadOnce", fn := fun _ => fun
  | [d1, d2] => { results := [.lit (.bool true)], args := [d1, d2] }
  | _ => none }
def quadOnceRow : OpenClaim := { program := "ytmabgfdibbidcaa", sum := "c8f4606b4fe193744995472667b8d94c8db6cde472eddfcfe0bf6d23a5ab9fb3", func := "quilt/quiltlaw11.QuadOnce", spec := "quadOnce", recurses := true, plainKeys := false, apart := false }
def QuadOnceSaid : Prop := quadOnceRow.holds Try.pinned (OpenSpec.ofChange quadOnceSpec)

/-- ITS FALSE NEIGHBOUR: 'it returns false'. Refute it at one input. -/
def quadOnceWrong : ChangeSpec := { name := "quadOnce", fn := fun _ => fun
  | [d1, d2] => { results := [.lit (.bool false)], args := [d1, d2] }
  | _ => none }
def QuadOnceWrongFalsely : Prop := quadOnceRow.holds Try.pinned (OpenSpec.ofChange quadOnceWrong)

/-- 'quiltlaw17.RecordKeys': WHATEVER THE INPUT: true; the input reads as it did. -/
def recordKeysSpec : ChangeSpec := { name := "recordKeys", fn := fun _ => fun
  | [d] => { results := [.lit (.bool true)], args := [d] }
  | _ => none }
def recordKeysRow : OpenClaim := { program := "ytmabgfdibbidcaa", sum := "c8f4606b4fe193744995472667b8d94c8db6cde472eddfcfe0bf6d23a5ab9fb3", func := "quilt/quiltlaw17.RecordKeys", spec := "recordKeys", plainKeys := false, apart := false }
def RecordKeysSaid : Prop := recordKeysRow.holds Try.pinned (OpenSpec.ofChange recordKeysSpec)

/-- ITS FALSE NEIGHBOUR: 'it returns false'. Refute it at one input. -/
def recordKeysWrong : ChangeSpec := { name := "recordKeys", fn := fun _ => fun
  | [d] => { results := [.lit (.bool false)], args := [d] }
  | _ => none }
def RecordKeysWrongFalsely : Prop := recordKeysRow.holds Try.pinned (OpenSpec.ofChange recordKeysWrong)

/-- 'quiltlaw20.CompactEach': WHATEVER THE INPUT: true; the input reads as it did. -/
def compactEachSpec : ChangeSpec := { name := "compactEach", fn := fun _ => fun
  | [d1, d2] => { results := [.lit (.bool true)], args := [d1, d2] }
  | _ => none }
def compactEachRow : OpenClaim := { program := "ytmabgfdibbidcaa", sum := "c8f4606b4fe193744995472667b8d94c8db6cde472eddfcfe0bf6d23a5ab9fb3", func := "quilt/quiltlaw20.CompactEach", spec := "compactEach", unfollowed := true, recurses := true, plainKeys := false, apart := false }
def CompactEachSaid : Prop := compactEachRow.holds Try.pinned (OpenSpec.ofChange compactEachSpec)

/-- ITS FALSE NEIGHBOUR: 'it returns false'. Refute it at one input. -/
def compactEachWrong : ChangeSpec := { name := "compactEach", fn := fun _ => fun
  | [d1, d2] => { results := [.lit (.bool false)], args := [d1, d2] }
  | _ => none }
def CompactEachWrongFalsely : Prop := compactEachRow.holds Try.pinned (OpenSpec.ofChange compactEachWrong)

/-- 'quiltlaw20.CompactSame': WHATEVER THE INPUT: true; the input reads as it did. -/
def compactSameSpec : ChangeSpec := { name := "compactSame", fn := fun _ => fun
  | [d1, d2] => { results := [.lit (.bool true)], args := [d1, d2] }
  | _ => none }
def compactSameRow : OpenClaim := { program := "ytmabgfdibbidcaa", sum := "c8f4606b4fe193744995472667b8d94c8db6cde472eddfcfe0bf6d23a5ab9fb3", func := "quilt/quiltlaw20.CompactSame", spec := "compactSame", unfollowed := true, recurses := true, plainKeys := false, apart := false }
def CompactSameSaid : Prop := compactSameRow.holds Try.pinned (OpenSpec.ofChange compactSameSpec)

/-- ITS FALSE NEIGHBOUR: 'it returns false'. Refute it at one input. -/
def compactSameWrong : ChangeSpec := { name := "compactSame", fn := fun _ => fun
  | [d1, d2] => { results := [.lit (.bool false)], args := [d1, d2] }
  | _ => none }
def CompactSameWrongFalsely : Prop := compactSameRow.holds Try.pinned (OpenSpec.ofChange compactSameWrong)

/-- 'quiltlaw20.CompactLadder': WHATEVER THE INPUT: true; the input reads as it did. -/
def compactLadderSpec : ChangeSpec := { name := "compactLadder", fn := fun _ => fun
  | [d1, d2] => { results := [.lit (.bool true)], args := [d1, d2] }
  | _ => none }
def compactLadderRow : OpenClaim := { program := "ytmabgfdibbidcaa", sum := "c8f4606b4fe193744995472667b8d94c8db6cde472eddfcfe0bf6d23a5ab9fb3", func := "quilt/quiltlaw20.CompactLadder", spec := "compactLadder", unfollowed := true, recurses := true, plainKeys := false, apart := false }
def CompactLadderSaid : Prop := compactLadderRow.holds Try.pinned (OpenSpec.ofChange compactLadderSpec)

/-- ITS FALSE NEIGHBOUR: 'it returns false'. Refute it at one input. -/
def compactLadderWrong : ChangeSpec := { name := "compactLadder", fn := fun _ => fun
  | [d1, d2] => { results := [.lit (.bool false)], args := [d1, d2] }
  | _ => none }
def CompactLadderWrongFalsely : Prop := compactLadderRow.holds Try.pinned (OpenSpec.ofChange compactLadderWrong)

/-- 'quiltlaw14.FindParts': WHATEVER THE INPUT: true; the input reads as it did. -/
def findPartsSpec : ChangeSpec := { name := "findParts", fn := fun _ => fun
  | [d1, d2, d3] => { results := [.lit (.bool true)], args := [d1, d2, d3] }
  | _ => none }
def findPartsRow : OpenClaim := { program := "ytmabgfdibbidcaa", sum := "c8f4606b4fe193744995472667b8d94c8db6cde472eddfcfe0bf6d23a5ab9fb3", func := "quilt/quiltlaw14.FindParts", spec := "findParts", unfollowed := true, recurses := true, plainKeys := false, apart := false }
def FindPartsSaid : Prop := findPartsRow.holds Try.pinned (OpenSpec.ofChange findPartsSpec)

/-- ITS FALSE NEIGHBOUR: 'it returns false'. Refute it at one input. -/
def findPartsWrong : ChangeSpec := { name := "findParts", fn := fun _ => fun
  | [d1, d2, d3] => { results := [.lit (.bool false)], args := [d1, d2, d3] }
  | _ => none }
def FindPartsWrongFalsely : Prop := findPartsRow.holds Try.pinned (OpenSpec.ofChange findPartsWrong)

/-- 'quiltlaw17.RecordBack': WHATEVER THE INPUT: true; the input reads as it did. -/
def recordBackSpec : ChangeSpec := { name := "recordBack", fn := fun _ => fun
  | [d1, d2] => { results := [.lit (.bool true)], args := [d1, d2] }
  | _ => none }
def recordBackRow : OpenClaim := { program := "ytmabgfdibbidcaa", sum := "c8f4606b4fe193744995472667b8d94c8db6cde472eddfcfe0bf6d23a5ab9fb3", func := "quilt/quiltlaw17.RecordBack", spec := "recordBack", unfollowed := true, recurses := true, plainKeys := false, apart := false }
def RecordBackSaid : Prop := recordBackRow.holds Try.pinned (OpenSpec.ofChange recordBackSpec)

/-- ITS FALSE NEIGHBOUR: 'it returns false'. Refute it at one input. -/
def recordBackWrong : ChangeSpec := { name := "recordBack", fn := fun _ => fun
  | [d1, d2] => { results := [.lit (.bool false)], args := [d1, d2] }
  | _ => none }
def RecordBackWrongFalsely : Prop := recordBackRow.holds Try.pinned (OpenSpec.ofChange recordBackWrong)

/-- 'quiltlaw14.FindEmpty': WHATEVER THE INPUT: true; the input reads as it did. -/
def findEmptySpec : ChangeSpec := { name := "findEmpty", fn := fun _ => fun
  | [d1, d2] => { results := [.lit (.bool true)], args := [d1, d2] }
  | _ => none }
def findEmptyRow : OpenClaim := { program := "ytmabgfdibbidcaa", sum := "c8f4606b4fe193744995472667b8d94c8db6cde472eddfcfe0bf6d23a5ab9fb3", func := "quilt/quiltlaw14.FindEmpty", spec := "findEmpty", unfollowed := true, recurses := true, plainKeys := false, apart := false }
def FindEmptySaid : Prop := findEmptyRow.holds Try.pinned (OpenSpec.ofChange findEmptySpec)

/-- ITS FALSE NEIGHBOUR: 'it returns false'. Refute it at one input. -/
def findEmptyWrong : ChangeSpec := { name := "findEmpty", fn := fun _ => fun
  | [d1, d2] => { results := [.lit (.bool false)], args := [d1, d2] }
  | _ => none }
def FindEmptyWrongFalsely : Prop := findEmptyRow.holds Try.pinned (OpenSpec.ofChange findEmptyWrong)

/-- 'quiltlaw14.FindBack': WHATEVER THE INPUT: true; the input reads as it did. -/
def findBackSpec : ChangeSpec := { name := "findBack", fn := fun _ => fun
  | [d1, d2] => { results := [.lit (.bool true)], args := [d1, d2] }
  | _ => none }
def findBackRow : OpenClaim := { program := "ytmabgfdibbidcaa", sum := "c8f4606b4fe193744995472667b8d94c8db6cde472eddfcfe0bf6d23a5ab9fb3", func := "quilt/quiltlaw14.FindBack", spec := "findBack", unfollowed := true, recurses := true, plainKeys := false, apart := false }
def FindBackSaid : Prop := findBackRow.holds Try.pinned (OpenSpec.ofChange findBackSpec)

/-- ITS FALSE NEIGHBOUR: 'it returns false'. Refute it at one input. -/
def findBackWrong : ChangeSpec := { name := "findBack", fn := fun _ => fun
  | [d1, d2] => { results := [.lit (.bool false)], args := [d1, d2] }
  | _ => none }
def FindBackWrongFalsely : Prop := findBackRow.holds Try.pinned (OpenSpec.ofChange findBackWrong)

/- THE SECOND FORM. 'bulk': how many values and letters a reading holds, each counted each time it is reached (what is shared counts as often as it is met; a slice's spare places count too). A statement '..UptoSaid' is the law's where the arguments, and the package variables that the reading takes, are together of bulk at most 1048576: NARROWER than '..Said'. Prove '..Said' where nothing that the law and all that it calls make is longer than what came in: it says more and counts as full. Else prove '..UptoSaid'. A law counts once. -/
mutual
def uptoBulk {H : Type} : DataW H → Nat
  | .lit (.string bytes) => bytes.length + 1
  | .lit _ => 1
  | .nil => 1
  | .ptr d => uptoBulk d + 1
  | .slice elems spare => uptoBulkAll elems + uptoBulkAll spare + 1
  | .agg parts => uptoBulkAll parts + 1
  | .iface _ d => uptoBulk d + 1
  | .map entries => uptoBulkEntries entries + 1
  | .held _ => 1
def uptoBulkAll {H : Type} : List (DataW H) → Nat
  | [] => 0
  | d :: r => uptoBulk d + uptoBulkAll r
def uptoBulkEntries {H : Type} : List (Lit × DataW H) → Nat
  | [] => 0
  | x :: r => uptoBulkEntry x + uptoBulkEntries r
def uptoBulkEntry {H : Type} : Lit × DataW H → Nat
  | (.string bytes, d) => bytes.length + uptoBulk d + 1
  | (_, d) => uptoBulk d + 1
 end
def uptoSmall : (H : Type) → List (DataW H) → Bool := fun _ ds => decide (uptoBulkAll ds ≤ 1048576)
def OpenSpec.upto (s : _root_.Go.ChangeSpec) : _root_.Go.OpenSpec := { _root_.Go.OpenSpec.ofChange s with cond := some uptoSmall }

/-- 'quiltlaw11.QuadCounts', WHERE WHAT IT READS IS OF BULK AT MOST 1048576: true; the input reads as it did. -/
def quadCountsUptoRow : OpenClaim := { program := "ytmabgfdibbidcaa", sum := "c8f4606b4fe193744995472667b8d94c8db6cde472eddfcfe0bf6d23a5ab9fb3", func := "quilt/quiltlaw11.QuadCounts", spec := "quadCounts", plainKeys := false, apart := false, narrowed := true }
def QuadCountsUptoSaid : Prop := quadCountsUptoRow.holds Try.pinned (OpenSpec.upto quadCountsSpec)

/-- 'quiltlaw11.QuadCells', WHERE WHAT IT READS IS OF BULK AT MOST 1048576: true; the input reads as it did. -/
def quadCellsUptoRow : OpenClaim := { program := "ytmabgfdibbidcaa", sum := "c8f4606b4fe193744995472667b8d94c8db6cde472eddfcfe0bf6d23a5ab9fb3", func := "quilt/quiltlaw11.QuadCells", spec := "quadCells", recurses := true, plainKeys := false, apart := false, narrowed := true }
def QuadCellsUptoSaid : Prop := quadCellsUptoRow.holds Try.pinned (OpenSpec.upto quadCellsSpec)

/-- 'quiltlaw11.QuadOnce', WHERE WHAT IT READS IS OF BULK AT MOST 1048576: true; the input reads as it did. -/
def quadOnceUptoRow : OpenClaim := { program := "ytmabgfdibbidcaa", sum := "c8f4606b4fe193744995472667b8d94c8db6cde472eddfcfe0bf6d23a5ab9fb3", func := "quilt/quiltlaw11.QuadOnce", spec := "quadOnce", recurses := true, plainKeys := false, apart := false, narrowed := true }
def QuadOnceUptoSaid : Prop := quadOnceUptoRow.holds Try.pinned (OpenSpec.upto quadOnceSpec)

/-- 'quiltlaw17.RecordKeys', WHERE WHAT IT READS IS OF BULK AT MOST 1048576: true; the input reads as it did. -/
def recordKeysUptoRow : OpenClaim := { program := "ytmabgfdibbidcaa", sum := "c8f4606b4fe193744995472667b8d94c8db6cde472eddfcfe0bf6d23a5ab9fb3", func := "quilt/quiltlaw17.RecordKeys", spec := "recordKeys", plainKeys := false, apart := false, narrowed := true }
def RecordKeysUptoSaid : Prop := recordKeysUptoRow.holds Try.pinned (OpenSpec.upto recordKeysSpec)

/-- 'quiltlaw20.CompactEach', WHERE WHAT IT READS IS OF BULK AT MOST 1048576: true; the input reads as it did. -/
def compactEachUptoRow : OpenClaim := { program := "ytmabgfdibbidcaa", sum := "c8f4606b4fe193744995472667b8d94c8db6cde472eddfcfe0bf6d23a5ab9fb3", func := "quilt/quiltlaw20.CompactEach", spec := "compactEach", unfollowed := true, recurses := true, plainKeys := false, apart := false, narrowed := true }
def CompactEachUptoSaid : Prop := compactEachUptoRow.holds Try.pinned (OpenSpec.upto compactEachSpec)

/-- 'quiltlaw20.CompactSame', WHERE WHAT IT READS IS OF BULK AT MOST 1048576: true; the input reads as it did. -/
def compactSameUptoRow : OpenClaim := { program := "ytmabgfdibbidcaa", sum := "c8f4606b4fe193744995472667b8d94c8db6cde472eddfcfe0bf6d23a5ab9fb3", func := "quilt/quiltlaw20.CompactSame", spec := "compactSame", unfollowed := true, recurses := true, plainKeys := false, apart := false, narrowed := true }
def CompactSameUptoSaid : Prop := compactSameUptoRow.holds Try.pinned (OpenSpec.upto compactSameSpec)

/-- 'quiltlaw20.CompactLadder', WHERE WHAT IT READS IS OF BULK AT MOST 1048576: true; the input reads as it did. -/
def compactLadderUptoRow : OpenClaim := { program := "ytmabgfdibbidcaa", sum := "c8f4606b4fe193744995472667b8d94c8db6cde472eddfcfe0bf6d23a5ab9fb3", func := "quilt/quiltlaw20.CompactLadder", spec := "compactLadder", unfollowed := true, recurses := true, plainKeys := false, apart := false, narrowed := true }
def CompactLadderUptoSaid : Prop := compactLadderUptoRow.holds Try.pinned (OpenSpec.upto compactLadderSpec)

/-- 'quiltlaw14.FindParts', WHERE WHAT IT READS IS OF BULK AT MOST 1048576: true; the input reads as it did. -/
def findPartsUptoRow : OpenClaim := { program := "ytmabgfdibbidcaa", sum := "c8f4606b4fe193744995472667b8d94c8db6cde472eddfcfe0bf6d23a5ab9fb3", func := "quilt/quiltlaw14.FindParts", spec := "findParts", unfollowed := true, recurses := true, plainKeys := false, apart := false, narrowed := true }
def FindPartsUptoSaid : Prop := findPartsUptoRow.holds Try.pinned (OpenSpec.upto findPartsSpec)

/-- 'quiltlaw17.RecordBack', WHERE WHAT IT READS IS OF BULK AT MOST 1048576: true; the input reads as it did. -/
def recordBackUptoRow : OpenClaim := { program := "ytmabgfdibbidcaa", sum := "c8f4606b4fe193744995472667b8d94c8db6cde472eddfcfe0bf6d23a5ab9fb3", func := "quilt/quiltlaw17.RecordBack", spec := "recordBack", unfollowed := true, recurses := true, plainKeys := false, apart := false, narrowed := true }
def RecordBackUptoSaid : Prop := recordBackUptoRow.holds Try.pinned (OpenSpec.upto recordBackSpec)

/-- 'quiltlaw14.FindEmpty', WHERE WHAT IT READS IS OF BULK AT MOST 1048576: true; the input reads as it did. -/
def findEmptyUptoRow : OpenClaim := { program := "ytmabgfdibbidcaa", sum := "c8f4606b4fe193744995472667b8d94c8db6cde472eddfcfe0bf6d23a5ab9fb3", func := "quilt/quiltlaw14.FindEmpty", spec := "findEmpty", unfollowed := true, recurses := true, plainKeys := false, apart := false, narrowed := true }
def FindEmptyUptoSaid : Prop := findEmptyUptoRow.holds Try.pinned (OpenSpec.upto findEmptySpec)

/-- 'quiltlaw14.FindBack', WHERE WHAT IT READS IS OF BULK AT MOST 1048576: true; the input reads as it did. -/
def findBackUptoRow : OpenClaim := { program := "ytmabgfdibbidcaa", sum := "c8f4606b4fe193744995472667b8d94c8db6cde472eddfcfe0bf6d23a5ab9fb3", func := "quilt/quiltlaw14.FindBack", spec := "findBack", unfollowed := true, recurses := true, plainKeys := false, apart := false, narrowed := true }
def FindBackUptoSaid : Prop := findBackUptoRow.holds Try.pinned (OpenSpec.upto findBackSpec)

end Rows
end Go.Proofs.Ytmabgfdibbidcaa
