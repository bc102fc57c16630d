/- The lower bits of a number that is no less than nothing, as Go reckons them. -/
import Derived.Laws.Bits128
import Derived.IntWalk
namespace Go.Proofs.Ytmabgfdibbidcaa
open Go Go.RowKit

theorem i64_and_nat (x y : Nat) (hx : x < 9223372036854775808) (hy : y < 9223372036854775808) : bits .and .i64 (x : Int) (y : Int) = ((x &&& y : Nat) : Int) := by
  have ha : x &&& y < 9223372036854775808 := Nat.lt_of_le_of_lt Nat.and_le_left hx
  have hb : (BitVec.ofInt 64 (x : Int) &&& BitVec.ofInt 64 (y : Int)).toNat = x &&& y := by
    rw [BitVec.toNat_and, BitVec.toNat_ofInt, BitVec.toNat_ofInt]
    have e1 : ((x : Int) % ((2 ^ 64 : Nat) : Int)).toNat = x := by omega
    have e2 : ((y : Int) % ((2 ^ 64 : Nat) : Int)).toNat = y := by omega
    rw [e1, e2]
  show IntKind.i64.wrap ((BitVec.ofInt 64 (x : Int) &&& BitVec.ofInt 64 (y : Int)).toNat : Nat) = _
  rw [hb]
  exact IntWalk.i64_in _ (by omega)
theorem mask_nat (x h : Nat) (hx : x < 9223372036854775808) (hh : h ≤ 39) : bits .and .i64 (x : Int) (IntKind.i64.wrap (IntKind.i64.wrap (2 ^ h) - 1)) = ((x % 2 ^ h : Nat) : Int) := by
  have hp : 2 ^ h ≤ 2 ^ 39 := Nat.pow_le_pow_right (by decide) hh
  have h1 : 1 ≤ 2 ^ h := Nat.pow_pos (by decide)
  have e : (2 : Int) ^ h = ((2 ^ h : Nat) : Int) := by simp
  rw [← Nat.and_two_pow_sub_one_eq_mod, e]
  generalize 2 ^ h = m at *
  rw [IntWalk.i64_in (m : Int) (by omega), IntWalk.i64_in _ (by omega), show (m : Int) - 1 = ((m - 1 : Nat) : Int) by omega]
  exact i64_and_nat x (m - 1) hx (by omega)
end Go.Proofs.Ytmabgfdibbidcaa
