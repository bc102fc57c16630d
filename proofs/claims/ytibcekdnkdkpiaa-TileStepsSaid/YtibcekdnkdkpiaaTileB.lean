/- Contracts of package tile: a tile turned, and mirrored. -/
import Derived.Test.YtibcekdnkdkpiaaTileA
namespace Go.Proofs.Ytibcekdnkdkpiaa
open Go.RowKit

/-- A natural number of 64 bits. -/
def N64 (n : Nat) : Prop := n < 18446744073709551616
theorem U64.nat {t : Int} (h : U64 t) : ∃ n : Nat, t = (n : Int) ∧ N64 n := ⟨t.toNat, by have := h.1; omega, by have := h.2; unfold N64; omega⟩

set_option maxHeartbeats 400000 in
theorem turn1 (x y : Int) (w : World) (h : InT x y) :
    Calls Try.prog 25 #[.int .i64 x, .int .i64 y] w fun e w' => e = .returned (.tuple #[.int .i64 y, .int .i64 (7 - x)]) ∧ w = w' := by
  obtain ⟨h1, h2, h3, h4⟩ := h
  go_enter Try.func25, Try.ntmps25
  go_wp2
  go_ret2
  exact ⟨rfl, rfl⟩
set_option maxHeartbeats 400000 in
theorem flip1 (x y : Int) (w : World) (h : InT x y) :
    Calls Try.prog 26 #[.int .i64 x, .int .i64 y] w fun e w' => e = .returned (.tuple #[.int .i64 (7 - x), .int .i64 y]) ∧ w = w' := by
  obtain ⟨h1, h2, h3, h4⟩ := h
  go_enter Try.func26, Try.ntmps26
  go_wp2
  go_ret2
  exact ⟨rfl, rfl⟩

theorem bit_mul (t s k : Nat) (h : N64 t) (hk : k < 64) : IntKind.u64.wrap (bits .and .u64 ((t : Int) / 2 ^ s) 1 * 2 ^ k) = (((if t.testBit s then 2 ^ k else 0) : Nat) : Int) := by
  have e : (t : Int) / 2 ^ s = ((t / 2 ^ s : Nat) : Int) := by simp
  have hle := Nat.div_le_self t (2 ^ s)
  have ht : t < 18446744073709551616 := h
  rw [e, Nat.testBit_eq_decide_div_mod_eq]
  generalize t / 2 ^ s = c at hle
  rw [show (1 : Int) = ((1 : Nat) : Int) from rfl, u64_and_nat _ _ (by omega) (by decide), nat_mask1]
  rcases Nat.mod_two_eq_zero_or_one c with h | h
  · rw [h]; simp [IntKind.wrap_u64]
  · rw [h]; simp only [decide_true, if_true, Int.natCast_one, Int.one_mul]; exact wrap_pow hk

theorem or_bit {f : Nat → Bool} {t s k : Nat} (h : N64 t) (hk : k < 64) (hb : t.testBit s = f k) :
    bits .or .u64 (mk f k : Nat) (IntKind.u64.wrap (bits .and .u64 ((t : Int) / 2 ^ s) 1 * 2 ^ k)) = ((mk f (k + 1) : Nat) : Int) := by
  have hl := mk_lt f k
  have hp : 2 ^ (k + 1) ≤ 2 ^ 64 := Nat.pow_le_pow_right (by decide) (by omega)
  have h2 : 2 ^ (k + 1) = 2 ^ k + 2 ^ k := by rw [Nat.pow_succ]; omega
  rw [bit_mul t s k h hk, hb, u64_or_nat _ _ (by omega) (by split <;> omega)]
  congr 1
  simp only [mk]
  cases f k
  · simp
  · simp only [if_true]
    apply Nat.eq_of_testBit_eq
    intro i
    rw [Nat.testBit_or, Nat.testBit_two_pow]
    by_cases hi : i = k
    · subst hi; rw [Nat.add_comm, Nat.testBit_two_pow_add_eq]; simp [Nat.testBit_lt_two_pow hl]
    · have hne : ¬ k = i := fun h => hi h.symm
      by_cases hlt : i < k
      · rw [Nat.add_comm, Nat.testBit_two_pow_add_gt hlt]; simp [hne]
      · have hge : 2 ^ (k + 1) ≤ 2 ^ i := Nat.pow_le_pow_right (by decide) (by omega)
        rw [Nat.testBit_lt_two_pow (x := mk f k + 2 ^ k) (by omega), Nat.testBit_lt_two_pow (x := mk f k) (by omega)]; simp [hne]

set_option maxHeartbeats 400000 in
theorem moved_turn (t : Int) (w : World) (ht : U64 t) :
    Calls Try.prog 24 #[.int .u64 t, .func (.func 25) #[] #[]] w fun e w' => e = .returned (.int .u64 (mk (fun i => t.toNat.testBit (8 * (7 - i % 8) + i / 8)) 64 : Nat)) ∧ w = w' := by
  obtain ⟨t, rfl, hn⟩ := ht.nat
  generalize hf : (fun i => t.testBit (8 * (7 - i % 8) + i / 8)) = f
  have HF := Lib.hid hf
  clear hf
  rw [Int.toNat_natCast, HF.out]
  go_enter Try.func24, Try.ntmps24
  go_wp2
  go_loop [5, 9] (fun o i => ∃ k : Nat, k ≤ 64 ∧ i = .int .i64 k ∧ o = .int .u64 (mk f k : Nat)) (fun _ i => 64 - (intOf i).toNat)
  case atStart => exact ⟨0, Nat.zero_le _, rfl, rfl⟩
  case round =>
    obtain ⟨k, hk, rfl, rfl⟩ := hrel
    by_cases hlt : k < 64
    · have hin : InT ((k : Int) % 8) ((k : Int) / 8) := ⟨by omega, by omega, by omega, by omega⟩
      go_wp2_with (go_at_call 25; refine (turn1 _ _ _ hin).mono ?_; rintro e w' ⟨rfl, rfl⟩)
      go_round
      case rel => exact ⟨k + 1, by omega, by go_num, by rw [or_bit hn hlt (by rw [← HF.out])]⟩
      case measure => simp [intOf]; omega
    · go_wp2
      go_ret
      exact ⟨ret_intk (by rw [show k = 64 by omega]), rfl⟩

set_option maxHeartbeats 400000 in
theorem turn_any (t : Int) (w : World) (ht : U64 t) :
    Calls Try.prog 10 #[.int .u64 t] w fun e w' => e = .returned (.int .u64 (mk (fun i => t.toNat.testBit (8 * (7 - i % 8) + i / 8)) 64 : Nat)) ∧ w = w' := by
  go_enter Try.func10, Try.ntmps10
  go_wp2_with (go_at_call 24; refine (moved_turn _ _ ht).mono ?_; rintro e w' ⟨rfl, rfl⟩)
  go_ret
  exact ⟨rfl, rfl⟩

set_option maxHeartbeats 400000 in
theorem moved_flip (t : Int) (w : World) (ht : U64 t) :
    Calls Try.prog 24 #[.int .u64 t, .func (.func 26) #[] #[]] w fun e w' => e = .returned (.int .u64 (mk (fun i => t.toNat.testBit (8 * (i / 8) + (7 - i % 8))) 64 : Nat)) ∧ w = w' := by
  obtain ⟨t, rfl, hn⟩ := ht.nat
  generalize hf : (fun i => t.testBit (8 * (i / 8) + (7 - i % 8))) = f
  have HF := Lib.hid hf
  clear hf
  rw [Int.toNat_natCast, HF.out]
  go_enter Try.func24, Try.ntmps24
  go_wp2
  go_loop [5, 9] (fun o i => ∃ k : Nat, k ≤ 64 ∧ i = .int .i64 k ∧ o = .int .u64 (mk f k : Nat)) (fun _ i => 64 - (intOf i).toNat)
  case atStart => exact ⟨0, Nat.zero_le _, rfl, rfl⟩
  case round =>
    obtain ⟨k, hk, rfl, rfl⟩ := hrel
    by_cases hlt : k < 64
    · have hin : InT ((k : Int) % 8) ((k : Int) / 8) := ⟨by omega, by omega, by omega, by omega⟩
      go_wp2_with (go_at_call 26; refine (flip1 _ _ _ hin).mono ?_; rintro e w' ⟨rfl, rfl⟩)
      go_round
      case rel => exact ⟨k + 1, by omega, by go_num, by rw [or_bit hn hlt (by rw [← HF.out])]⟩
      case measure => simp [intOf]; omega
    · go_wp2
      go_ret
      exact ⟨ret_intk (by rw [show k = 64 by omega]), rfl⟩

set_option maxHeartbeats 400000 in
theorem flip_any (t : Int) (w : World) (ht : U64 t) :
    Calls Try.prog 11 #[.int .u64 t] w fun e w' => e = .returned (.int .u64 (mk (fun i => t.toNat.testBit (8 * (i / 8) + (7 - i % 8))) 64 : Nat)) ∧ w = w' := by
  go_enter Try.func11, Try.ntmps11
  go_wp2_with (go_at_call 24; refine (moved_flip _ _ ht).mono ?_; rintro e w' ⟨rfl, rfl⟩)
  go_ret
  exact ⟨rfl, rfl⟩
end Go.Proofs.Ytibcekdnkdkpiaa
