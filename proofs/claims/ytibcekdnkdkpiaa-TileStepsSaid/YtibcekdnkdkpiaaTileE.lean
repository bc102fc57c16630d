/- Contracts of package tile: three bits counted; a field one generation on. -/
import Derived.Test.YtibcekdnkdkpiaaTileD
import Derived.Test.YtibcekdnkdkpiaaRule
import Derived.Deep.QuietTactic
import Derived.BigQuiet
import Derived.Deep.Quiet
namespace Go.Proofs.Ytibcekdnkdkpiaa
open Go.RowKit

/-- The world is the old one, some orders having been drawn. -/
abbrev Drawn (w w' : World) : Prop := ∃ m, w' = w.drewN m

set_option maxRecDepth 100000 in
set_option maxHeartbeats 1000000 in
theorem ones32_0 (w : World) : Calls Try.prog 37 #[.int .u32 0] w fun e w' => e = .returned (.int .i64 0) ∧ Drawn w w' := by
  have b0 : bits BinOp.and IntKind.u32 0 255 = 0 := by decide
  go_enter Try.func37, Try.ntmps37
  go_wp2
  go_quiet (fail)
  go_wp2
  go_ret
  exact ⟨ret_intk (by decide), _, rfl⟩
set_option maxRecDepth 100000 in
set_option maxHeartbeats 1000000 in
theorem ones32_1 (w : World) : Calls Try.prog 37 #[.int .u32 1] w fun e w' => e = .returned (.int .i64 1) ∧ Drawn w w' := by
  have b0 : bits BinOp.and IntKind.u32 0 255 = 0 := by decide
  have b1 : bits BinOp.and IntKind.u32 1 255 = 1 := by decide
  go_enter Try.func37, Try.ntmps37
  go_wp2
  go_quiet (fail)
  go_wp2
  go_ret
  exact ⟨ret_intk (by decide), _, rfl⟩
set_option maxRecDepth 100000 in
set_option maxHeartbeats 1000000 in
theorem ones32_2 (w : World) : Calls Try.prog 37 #[.int .u32 2] w fun e w' => e = .returned (.int .i64 1) ∧ Drawn w w' := by
  have b0 : bits BinOp.and IntKind.u32 0 255 = 0 := by decide
  have b1 : bits BinOp.and IntKind.u32 2 255 = 2 := by decide
  go_enter Try.func37, Try.ntmps37
  go_wp2
  go_quiet (fail)
  go_wp2
  go_ret
  exact ⟨ret_intk (by decide), _, rfl⟩
set_option maxRecDepth 100000 in
set_option maxHeartbeats 1000000 in
theorem ones32_3 (w : World) : Calls Try.prog 37 #[.int .u32 3] w fun e w' => e = .returned (.int .i64 2) ∧ Drawn w w' := by
  have b0 : bits BinOp.and IntKind.u32 0 255 = 0 := by decide
  have b1 : bits BinOp.and IntKind.u32 3 255 = 3 := by decide
  go_enter Try.func37, Try.ntmps37
  go_wp2
  go_quiet (fail)
  go_wp2
  go_ret
  exact ⟨ret_intk (by decide), _, rfl⟩
set_option maxRecDepth 100000 in
set_option maxHeartbeats 1000000 in
theorem ones32_4 (w : World) : Calls Try.prog 37 #[.int .u32 4] w fun e w' => e = .returned (.int .i64 1) ∧ Drawn w w' := by
  have b0 : bits BinOp.and IntKind.u32 0 255 = 0 := by decide
  have b1 : bits BinOp.and IntKind.u32 4 255 = 4 := by decide
  go_enter Try.func37, Try.ntmps37
  go_wp2
  go_quiet (fail)
  go_wp2
  go_ret
  exact ⟨ret_intk (by decide), _, rfl⟩
set_option maxRecDepth 100000 in
set_option maxHeartbeats 1000000 in
theorem ones32_5 (w : World) : Calls Try.prog 37 #[.int .u32 5] w fun e w' => e = .returned (.int .i64 2) ∧ Drawn w w' := by
  have b0 : bits BinOp.and IntKind.u32 0 255 = 0 := by decide
  have b1 : bits BinOp.and IntKind.u32 5 255 = 5 := by decide
  go_enter Try.func37, Try.ntmps37
  go_wp2
  go_quiet (fail)
  go_wp2
  go_ret
  exact ⟨ret_intk (by decide), _, rfl⟩
set_option maxRecDepth 100000 in
set_option maxHeartbeats 1000000 in
theorem ones32_6 (w : World) : Calls Try.prog 37 #[.int .u32 6] w fun e w' => e = .returned (.int .i64 2) ∧ Drawn w w' := by
  have b0 : bits BinOp.and IntKind.u32 0 255 = 0 := by decide
  have b1 : bits BinOp.and IntKind.u32 6 255 = 6 := by decide
  go_enter Try.func37, Try.ntmps37
  go_wp2
  go_quiet (fail)
  go_wp2
  go_ret
  exact ⟨ret_intk (by decide), _, rfl⟩
set_option maxRecDepth 100000 in
set_option maxHeartbeats 1000000 in
theorem ones32_7 (w : World) : Calls Try.prog 37 #[.int .u32 7] w fun e w' => e = .returned (.int .i64 3) ∧ Drawn w w' := by
  have b0 : bits BinOp.and IntKind.u32 0 255 = 0 := by decide
  have b1 : bits BinOp.and IntKind.u32 7 255 = 7 := by decide
  go_enter Try.func37, Try.ntmps37
  go_wp2
  go_quiet (fail)
  go_wp2
  go_ret
  exact ⟨ret_intk (by decide), _, rfl⟩

/-- How many of three bits are set. -/
def p3 (n : Nat) : Nat := pop (fun i => n.testBit i) 3

theorem ones32_any (n : Nat) (hn : n < 8) (w : World) : Calls Try.prog 37 #[.int .u32 (n : Nat)] w fun e w' => e = .returned (.int .i64 (p3 n : Nat)) ∧ Drawn w w' := by
  match n, hn with
  | 0, _ => exact ones32_0 w
  | 1, _ => exact ones32_1 w
  | 2, _ => exact ones32_2 w
  | 3, _ => exact ones32_3 w
  | 4, _ => exact ones32_4 w
  | 5, _ => exact ones32_5 w
  | 6, _ => exact ones32_6 w
  | 7, _ => exact ones32_7 w
end Go.Proofs.Ytibcekdnkdkpiaa
