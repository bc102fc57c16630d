/- Contracts of package tile: a tile cut out of a field. -/
import Derived.Test.YtibcekdnkdkpiaaTileC
namespace Go.Proofs.Ytibcekdnkdkpiaa
open Go.RowKit

def cutBit (F : Nat → Nat) (x y : Nat) : Nat → Bool := fun i => (F (y + i / 8)).testBit (x + i % 8)

theorem cut_step (n x k : Nat) (f : Nat → Bool) (hn : n < 4294967296) (_hx : x ≤ 16) (hk : k < 8) (hf : ∀ j, j < 8 → f (8 * k + j) = n.testBit (x + j)) :
    bits BinOp.or IntKind.u64 (↑(mk f (8 * k))) (IntKind.u64.wrap (IntKind.u64.wrap (bits BinOp.and IntKind.u32 ((n : Int) / 2 ^ x) 255) * 2 ^ (8 * k))) = ((mk f (8 * (k + 1)) : Nat) : Int) := by
  have e : (n : Int) / 2 ^ x = ((n / 2 ^ x : Nat) : Int) := by simp
  have hle := Nat.div_le_self n (2 ^ x)
  have hl := mk_lt f (8 * k)
  have hc : n / 2 ^ x % 256 < 2 ^ 8 := Nat.mod_lt _ (by decide)
  have h88 : 2 ^ (8 * k + 8) ≤ 2 ^ 64 := Nat.pow_le_pow_right (by decide) (by omega)
  have h8 : 2 ^ (8 * k + 8) = 2 ^ (8 * k) * 256 := by rw [Nat.pow_add]
  have hm : n / 2 ^ x % 256 * 2 ^ (8 * k) < 2 ^ (8 * k + 8) := by rw [h8, Nat.mul_comm]; exact Nat.mul_lt_mul_of_pos_left hc (Nat.pow_pos (by decide))
  have e1 : IntKind.u64.wrap (bits BinOp.and IntKind.u32 ((n : Int) / 2 ^ x) 255) = ((n / 2 ^ x % 256 : Nat) : Int) := by
    rw [e, show (255 : Int) = ((255 : Nat) : Int) from rfl]
    generalize n / 2 ^ x = c at hle
    rw [u32_and_nat _ _ (by omega) (by decide), nat_mask8, IntKind.wrap_u64]
    omega
  have e2 : IntKind.u64.wrap (((n / 2 ^ x % 256 : Nat) : Int) * 2 ^ (8 * k)) = ((n / 2 ^ x % 256 * 2 ^ (8 * k) : Nat) : Int) := by
    rw [show ((n / 2 ^ x % 256 : Nat) : Int) * 2 ^ (8 * k) = ((n / 2 ^ x % 256 * 2 ^ (8 * k) : Nat) : Int) by simp, IntKind.wrap_u64]
    generalize n / 2 ^ x % 256 * 2 ^ (8 * k) = c at hm
    omega
  have hl2 : 2 ^ (8 * k) ≤ 2 ^ (8 * k + 8) := Nat.pow_le_pow_right (by decide) (by omega)
  rw [e1, e2, u64_or_nat _ _ (by omega) (by omega)]
  congr 1
  refine eq_of_bits (n := 8 * k + 8) (Nat.or_lt_two_pow (by omega) hm) (by rw [show 8 * (k + 1) = 8 * k + 8 by omega]; exact mk_lt _ _) fun i hi => ?_
  rw [testBit_mk, Nat.testBit_or, testBit_mk, Nat.testBit_mul_two_pow]
  by_cases hlt : i < 8 * k
  · simp [hlt, show i < 8 * (k + 1) by omega, show ¬ 8 * k ≤ i by omega]
  · have hj := hf (i - 8 * k) (by omega)
    rw [show 8 * k + (i - 8 * k) = i by omega] at hj
    rw [show (256 : Nat) = 2 ^ 8 from rfl, Nat.testBit_mod_two_pow, Nat.testBit_div_two_pow]
    simp [hlt, hj, show i < 8 * (k + 1) by omega, show 8 * k ≤ i by omega, show i - 8 * k < 8 by omega, Nat.add_comm]

set_option maxHeartbeats 400000 in
theorem cut_any (x y fb : Nat) (F : Nat → Nat) (w : World) (hx : x ≤ 16) (hy : y ≤ 16) (hF : IsF w fb F) (hF32 : ∀ j, F j < 4294967296) :
    Calls Try.prog 31 #[.pointer (some ⟨fb, 0, none⟩), .int .i64 (x : Nat), .int .i64 (y : Nat)] w fun e w' => e = .returned (.int .u64 (mk (cutBit F x y) 64 : Nat)) ∧ w = w' := by
  have HF := Lib.hid hF32
  clear hF32
  generalize hf : cutBit F x y = f
  have Hf := Lib.hid hf
  clear hf
  go_enter Try.func31, Try.ntmps31
  go_wp2
  go_loop [7, 9] (fun o i => ∃ k : Nat, k ≤ 8 ∧ i = .int .i64 k ∧ o = .int .u64 (mk f (8 * k) : Nat)) (fun _ i => 8 - (intOf i).toNat)
  case atStart => exact ⟨0, Nat.zero_le _, rfl, rfl⟩
  case round =>
    obtain ⟨k, hk, rfl, rfl⟩ := hrel
    by_cases hlt : k < 8
    · have hcell := hF.cell (j := y + k) (by omega)
      go_wp2
      go_round
      case rel =>
        exact ⟨k + 1, by omega, by go_num, by rw [cut_step (F (y + k)) x k f (HF.out _) hx hlt (fun j hj => by rw [← Hf.out]; unfold cutBit; congr 1 <;> first | (congr 1; omega) | omega)]⟩
      case measure => simp [intOf]; omega
    · go_wp2
      go_ret
      exact ⟨ret_intk (by rw [show k = 8 by omega]), rfl⟩
end Go.Proofs.Ytibcekdnkdkpiaa
