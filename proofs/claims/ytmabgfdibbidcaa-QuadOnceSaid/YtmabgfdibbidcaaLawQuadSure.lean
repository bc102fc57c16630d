/- quiltlaw11's 'sure': it is true, whatever the world. -/
import Derived.Test.YtmabgfdibbidcaaHeld
namespace Go.Proofs.Ytmabgfdibbidcaa
open Go.RowKit

theorem sure_l1 : leafL 9 [] 0 = ([leafSq 0], 1, 0) := by decide +kernel
theorem sure_l2 : emptyL 9 [leafSq 0] 1 = ([leafSq 0, nodeSq 4 1 1 1 1], 2, 0) := by decide +kernel

set_option maxRecDepth 100000 in
set_option maxHeartbeats 4000000 in
theorem sure11 (w : World) : Calls Try.prog 19 #[] w fun e w' => e = .returned (.bool true) ∧ Below w.heap.size w w' := by
  have HN := Lib.hid (new_st w 9 (by omega) (by omega))
  have e0 := errv_zero
  go_enter Try.func19, Try.ntmps19
  go_wp2_with (first
    | (go_at_call 14; refine HN.out.mono ?_; rintro e w1 ⟨rfl, hs1, hb1, hz1⟩; have H1 := Lib.hid ((Held.start w).new hs1 hb1); have Hz1 := Lib.hid hz1; clear hs1 hb1 hz1; have HL := Lib.hid (leaf_any w1 _ _ _ _ 0 H1.out.head (by omega)))
    | (go_at_call 15; refine HL.out.mono ?_; rintro e w2 ⟨rfl, ha2⟩; have H2 := Lib.hid (H1.out.acted ha2); clear ha2 HL; rw [sure_l1] at H2; rw [sure_l1]; have HE := Lib.hid (empty_any w2 _ _ _ _ 1 H2.out.head (by omega)))
    | (go_at_call 23; refine HE.out.mono ?_; rintro e w3 ⟨rfl, ha3⟩; have H3 := Lib.hid (H2.out.acted ha3); clear ha3 HE; rw [sure_l2] at H3; rw [sure_l2]; have HLn := Lib.hid (len_ok w3 _ _ _ _ H3.out.head))
    | (go_at_call 25; refine HLn.out.mono ?_; rintro e w4 ⟨rfl, rfl⟩))
  go_ret
  exact ⟨rfl, H3.out.keep⟩
end Go.Proofs.Ytmabgfdibbidcaa
