/- The walk of quiltlaw09.TileBuilt. -/
import Derived.Test.YtibcekdnkdkpiaaLawTileSure
import Derived.Test.YtibcekdnkdkpiaaFrame
namespace Go.Proofs.Ytibcekdnkdkpiaa
open Go.RowKit

theorem setN_up (t k : Nat) (hk : k < 64) : setN (mk (fun i => t.testBit i) k) k (t.testBit k) = mk (fun i => t.testBit i) (k + 1) := by
  have h1 : mk (fun i => t.testBit i) (k + 1) < 2 ^ 64 := Nat.lt_of_lt_of_le (mk_lt _ _) (Nat.pow_le_pow_right (by decide) (by omega))
  refine eq_of_bits (n := 64) (mk_lt _ _) h1 fun i hi => ?_
  unfold setN
  rw [testBit_mk, testBit_mk]
  by_cases h : i = k
  · subst h; rw [testBit_mk]; simp [hi]
  · rw [if_neg h, testBit_mk]
    by_cases h2 : i < k
    · simp [h2, hi, show i < k + 1 by omega]
    · simp [h2, show ¬ i < k + 1 by omega]
/-- A tile without its first k cells. -/
def lessN (t k : Nat) : Nat := mk (fun i => decide (k ≤ i) && t.testBit i) 64
theorem lessN_n64 (t k : Nat) : N64 (lessN t k) := mk_lt _ 64
theorem setN_less (t k : Nat) : setN (lessN t k) k false = lessN t (k + 1) := by
  refine eq_of_bits (n := 64) (mk_lt _ _) (mk_lt _ _) fun i hi => ?_
  unfold setN lessN
  rw [testBit_mk]
  by_cases h : i = k
  · subst h; simp [testBit_mk]; omega
  · rw [testBit_mk, testBit_mk]
    simp only [h, if_false, hi, decide_true, Bool.true_and]
    congr 1
    rw [Bool.eq_iff_iff]; simp; omega
theorem lessN_zero (t : Nat) (ht : N64 t) : lessN t 0 = t := by
  unfold lessN
  have := eq_mk t 64 ht
  simpa using this
theorem lessN_all (t : Nat) : lessN t 64 = 0 := by
  refine eq_of_bits (n := 64) (mk_lt _ _) (by omega) fun i hi => ?_
  unfold lessN
  rw [testBit_mk]; simp; omega
theorem upto_n64 (t k : Nat) (hk : k ≤ 64) : N64 (mk (fun i => t.testBit i) k) :=
  Nat.lt_of_lt_of_le (mk_lt _ _) (show 2 ^ k ≤ 2 ^ 64 from Nat.pow_le_pow_right (by decide) hk)

set_option maxRecDepth 100000 in
set_option maxHeartbeats 2000000 in
theorem tileBuilt_walk (a0 : Int) (w0 : (Lit.int .u64 a0).wf = true) (w : World) :
    Calls Try.prog 4 #[.int .u64 a0] w fun e w' => e = .returned (.bool true) ∧ Below w.heap.size w w' := by
  obtain ⟨t, rfl, ht⟩ := U64.nat (t := a0) (wf_u64 w0)
  clear w0
  have hz := lessN_zero t ht
  generalize hb0 : lessN t 0 = t0 at hz
  subst hz
  have Hb0 := Lib.hid hb0
  clear hb0
  go_enter Try.func4, Try.ntmps4
  go_wp2
  go_loop [3, 4, 5, 6] (fun a b n i => ∃ k : Nat, k ≤ 64 ∧ i = .int .i64 (k : Nat) ∧ a = .int .u64 (mk (fun i => t0.testBit i) k : Nat) ∧ b = .int .u64 (lessN t0 k : Nat) ∧ n = .int .i64 (pop (fun i => t0.testBit i) k : Nat)) (fun _ _ _ i => 64 - (intOf i).toNat)
  case atStart => exact ⟨0, Nat.zero_le _, rfl, rfl, by rw [Hb0.out], rfl⟩
  case round =>
    obtain ⟨k, hk, rfl, rfl, rfl, rfl⟩ := hrel
    by_cases hlt : k < 64
    · have hp := pop_le (fun i => t0.testBit i) k
      cases hbit : t0.testBit k
      all_goals
        have HB := Lib.hid hbit
        have tg := tget_at t0 k w ht hlt
        rw [hbit] at tg
        have ts := tset_at (mk (fun i => t0.testBit i) k) k (t0.testBit k) w (upto_n64 t0 k hk) hlt
        rw [setN_up t0 k hlt, hbit] at ts
        have tl := tset_at (lessN t0 k) k false w (lessN_n64 t0 k) hlt
        rw [setN_less] at tl
        have TG := Lib.hid tg
        have TS := Lib.hid ts
        have TL := Lib.hid tl
        clear tg ts tl hbit
        go_wp2_with fail
        refine TG.out.mono ?_; rintro e w' ⟨rfl, rfl⟩
        go_wp2_with fail
        refine TS.out.mono ?_; rintro e w' ⟨rfl, rfl⟩
        go_wp2_with fail
        refine TL.out.mono ?_; rintro e w' ⟨rfl, rfl⟩
        go_wp2_with fail
        go_round
        case rel => exact ⟨k + 1, by omega, by go_num, rfl, rfl, by rw [pop, HB.out]; rfl⟩
        case measure => simp [intOf]; omega
    · obtain rfl : k = 64 := by omega
      have e1 := eq_mk t0 64 ht
      have e2 := lessN_all t0
      have e3 : pop (fun i => t0.testBit i) 64 = popc t0 := rfl
      rw [e1, e2, e3]
      go_wp2_with (first
        | (go_at_call 12; refine (count_at _ _ ht).mono ?_; rintro e w2 ⟨rfl, rfl⟩)
        | (go_at_call 14; refine (sure09 _).mono ?_; rintro e w2 ⟨rfl, hb2⟩))
      go_ret
      exact ⟨rfl, hb2⟩
end Go.Proofs.Ytibcekdnkdkpiaa
