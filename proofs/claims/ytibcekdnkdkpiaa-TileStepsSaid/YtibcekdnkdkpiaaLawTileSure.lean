/- quiltlaw09's 'sure': it is true, whatever the world. -/
import Derived.Test.YtibcekdnkdkpiaaTileH
namespace Go.Proofs.Ytibcekdnkdkpiaa
open Go.RowKit

theorem N64.u64 {n : Nat} (h : N64 n) : U64 (n : Int) := ⟨by omega, by unfold N64 at h; omega⟩
theorem mk_n64 (f : Nat → Bool) : N64 (mk f 64) := mk_lt f 64
theorem growT_n64 (b l : Int) (n a1 a2 a3 a4 : Nat) : N64 (growT b l n a1 a2 a3 a4) := mk_lt _ 64
theorem middleT_n64 (a1 a2 a3 a4 : Nat) : N64 (middleT a1 a2 a3 a4) := mk_lt _ 64
def turnT (t : Nat) : Nat := mk (fun i => t.testBit (8 * (7 - i % 8) + i / 8)) 64
def flipT (t : Nat) : Nat := mk (fun i => t.testBit (8 * (i / 8) + (7 - i % 8))) 64
theorem turnT_n64 (t : Nat) : N64 (turnT t) := mk_lt _ 64
theorem flipT_n64 (t : Nat) : N64 (flipT t) := mk_lt _ 64
theorem turn_at (t : Nat) (w : World) (ht : N64 t) :
    Calls Try.prog 10 #[.int .u64 (t : Nat)] w fun e w' => e = .returned (.int .u64 (turnT t : Nat)) ∧ w = w' := turn_any _ _ ht.u64
theorem flip_at (t : Nat) (w : World) (ht : N64 t) :
    Calls Try.prog 11 #[.int .u64 (t : Nat)] w fun e w' => e = .returned (.int .u64 (flipT t : Nat)) ∧ w = w' := flip_any _ _ ht.u64
theorem count_at (t : Nat) (w : World) (ht : N64 t) :
    Calls Try.prog 12 #[.int .u64 (t : Nat)] w fun e w' => e = .returned (.int .i64 (popc t : Nat)) ∧ w = w' := tcount _ _ ht.u64

/-- A tile with its cell number k so. -/
def setN (t k : Nat) (b : Bool) : Nat := mk (fun i => if i = k then b else t.testBit i) 64
theorem setN_n64 (t k : Nat) (b : Bool) : N64 (setN t k b) := mk_lt _ 64
theorem tget_at (t k : Nat) (w : World) (ht : N64 t) (hk : k < 64) :
    Calls Try.prog 16 #[.int .u64 (t : Nat), .int .i64 ((k : Int) % 8), .int .i64 ((k : Int) / 8)] w fun e w' => e = .returned (.tuple #[.bool (t.testBit k), .nilIface]) ∧ w = w' := by
  have h := tget_in (t : Int) ((k : Int) % 8) ((k : Int) / 8) w ⟨by omega, by omega, by omega, by omega⟩ ht.u64
  rw [Int.toNat_natCast, show 8 * ((k : Int) / 8).toNat + ((k : Int) % 8).toNat = k by omega] at h
  exact h
theorem tset_at (t k : Nat) (b : Bool) (w : World) (ht : N64 t) (hk : k < 64) :
    Calls Try.prog 17 #[.int .u64 (t : Nat), .int .i64 ((k : Int) % 8), .int .i64 ((k : Int) / 8), .bool b] w fun e w' => e = .returned (.tuple #[.int .u64 (setN t k b : Nat), .nilIface]) ∧ w = w' := by
  have h := tset_in (t : Int) ((k : Int) % 8) ((k : Int) / 8) b w ⟨by omega, by omega, by omega, by omega⟩ ht.u64
  unfold tset at h
  rw [Int.toNat_natCast, show 8 * ((k : Int) / 8).toNat + ((k : Int) % 8).toNat = k by omega] at h
  exact h

theorem blink : popc (growT 8 12 1 123145302310912 0 0 0) = 3 := by decide +kernel
theorem corner : turnT (flipT 1) = 9223372036854775808 := by decide +kernel

set_option maxHeartbeats 1000000 in
theorem sure09 (w : World) : Calls Try.prog 14 #[] w fun e w' => e = .returned (.bool true) ∧ Below w.heap.size w w' := by
  have hm : May 8 12 := by decide
  have hz : N64 0 := by unfold N64; omega
  have h1 : N64 1 := by unfold N64; omega
  have h7 : N64 123145302310912 := by unfold N64; omega
  have eb := blink
  have ec := corner
  go_enter Try.func14, Try.ntmps14
  go_wp2_with (first
    | (go_at_call 15; refine (grow_ok 8 12 1 123145302310912 0 0 0 _ hm (by omega) h7 hz hz hz).mono ?_; rintro e w1 ⟨rfl, hb1⟩)
    | (go_at_call 12; refine (count_at _ _ (growT_n64 ..)).mono ?_; rintro e w2 ⟨rfl, rfl⟩)
    | (go_at_call 11; refine (flip_at 1 _ h1).mono ?_; rintro e w2 ⟨rfl, rfl⟩)
    | (go_at_call 10; refine (turn_at _ _ (flipT_n64 _)).mono ?_; rintro e w2 ⟨rfl, rfl⟩))
  go_ret
  exact ⟨rfl, below_box _ hb1⟩
end Go.Proofs.Ytibcekdnkdkpiaa
