/- Contracts of the small functions of package tile: a cell is none; one cell told, and set. -/
import Derived.Test.YtmabgfdibbidcaaBase
import Derived.Test.YtmabgfdibbidcaaBits
namespace Go.Proofs.Ytmabgfdibbidcaa
open Go.RowKit

/-- x, y is a cell of a tile. -/
def InT (x y : Int) : Prop := 0 ≤ x ∧ x < 8 ∧ 0 ≤ y ∧ y < 8
/-- A number of 64 bits. -/
def U64 (t : Int) : Prop := 0 ≤ t ∧ t < 18446744073709551616

theorem ret_bool {a b : Bool} (h : a = b) : Ending.returned (.bool a) = .returned (.bool b) := by rw [h]
theorem ret_intk {k : IntKind} {a b : Int} (h : a = b) : Ending.returned (.int k a) = .returned (.int k b) := by rw [h]
theorem ret_be {a b : Bool} {v : Value} (h : a = b) : Ending.returned (.tuple #[.bool a, v]) = .returned (.tuple #[.bool b, v]) := by rw [h]
theorem ret_ie {k : IntKind} {a b : Int} {v : Value} (h : a = b) : Ending.returned (.tuple #[.int k a, v]) = .returned (.tuple #[.int k b, v]) := by rw [h]

set_option maxHeartbeats 400000 in
theorem away_in (x y : Int) (w : World) (h : InT x y) :
    Calls Try.prog 47 #[.int .i64 x, .int .i64 y] w fun e w' => e = .returned (.bool false) ∧ w = w' := by
  obtain ⟨h1, h2, h3, h4⟩ := h
  go_enter Try.func47, Try.ntmps47
  go_wp2
  go_ret
  exact ⟨ret_bool (by simp; omega), rfl⟩

set_option maxHeartbeats 400000 in
theorem away_out (x y : Int) (w : World) (h : ¬ InT x y) :
    Calls Try.prog 47 #[.int .i64 x, .int .i64 y] w fun e w' => e = .returned (.bool true) ∧ w = w' := by
  have h' : x < 0 ∨ 8 ≤ x ∨ y < 0 ∨ 8 ≤ y := by unfold InT at h; omega
  clear h
  have H := Lib.hid h'
  clear h'
  go_enter Try.func47, Try.ntmps47
  go_wp2
  all_goals go_ret
  all_goals (refine ⟨ret_bool ?_, rfl⟩; have h := H.out; simp; try omega)

set_option maxHeartbeats 400000 in
theorem tget_in (t x y : Int) (w : World) (h : InT x y) (ht : U64 t) :
    Calls Try.prog 21 #[.int .u64 t, .int .i64 x, .int .i64 y] w fun e w' => e = .returned (.tuple #[.bool (t.toNat.testBit (8 * y.toNat + x.toNat)), .nilIface]) ∧ w = w' := by
  have h' := h
  obtain ⟨h1, h2, h3, h4⟩ := h'
  go_enter Try.func21, Try.ntmps21
  go_wp2_with (go_at_call 47; refine (away_in _ _ _ h).mono ?_; rintro e w' ⟨rfl, rfl⟩)
  go_ret2
  refine ⟨ret_be ?_, rfl⟩
  obtain ⟨t0, t1⟩ := ht
  obtain ⟨t, rfl⟩ := Int.eq_ofNat_of_zero_le t0
  have e : (8 * y + x).toNat = 8 * y.toNat + x.toNat := by omega
  rw [e]
  generalize 8 * y.toNat + x.toNat = k
  have e : (t : Int) / 2 ^ k = ((t / 2 ^ k : Nat) : Int) := by simp
  have hle := Nat.div_le_self t (2 ^ k)
  rw [e, Int.toNat_natCast, Nat.testBit_eq_decide_div_mod_eq]
  generalize t / 2 ^ k = c at hle
  rw [u64_and _ _ (by omega) (by omega) (by decide) (by decide)]
  have : (1 : Int).toNat = 1 := by decide
  rw [this, nat_mask1, Bool.eq_iff_iff]
  simp
  omega

set_option maxHeartbeats 400000 in
theorem tget_out (t x y : Int) (w : World) (h : ¬ InT x y) :
    Calls Try.prog 21 #[.int .u64 t, .int .i64 x, .int .i64 y] w fun e w' => e = .returned (.tuple #[.bool false, errv 4]) ∧ w = w' := by
  go_enter Try.func21, Try.ntmps21
  go_wp2_with (go_at_call 47; refine (away_out _ _ _ h).mono ?_; rintro e w' ⟨rfl, rfl⟩)
  go_ret2
  exact ⟨rfl, rfl⟩

set_option maxHeartbeats 400000 in
theorem tset_out (t x y : Int) (b : Bool) (w : World) (h : ¬ InT x y) :
    Calls Try.prog 48 #[.int .u64 t, .int .i64 x, .int .i64 y, .bool b] w fun e w' => e = .returned (.tuple #[.int .u64 0, errv 4]) ∧ w = w' := by
  go_enter Try.func48, Try.ntmps48
  go_wp2_with (go_at_call 47; refine (away_out _ _ _ h).mono ?_; rintro e w' ⟨rfl, rfl⟩)
  go_ret2
  exact ⟨rfl, rfl⟩

/-- A tile with one cell that lives, or not. -/
def tset (t x y : Int) (b : Bool) : Int := ((mk (fun i => if i = 8 * y.toNat + x.toNat then b else t.toNat.testBit i) 64 : Nat) : Int)

theorem tset_u64 (t x y : Int) (b : Bool) : U64 (tset t x y b) := by
  unfold tset U64
  have := mk_lt (fun i => if i = 8 * y.toNat + x.toNat then b else t.toNat.testBit i) 64
  omega

theorem set_true {t x y : Int} (h : InT x y) (ht : U64 t) : bits .or .u64 t (IntKind.u64.wrap (2 ^ (8 * y + x).toNat)) = tset t x y true := by
  obtain ⟨h1, h2, h3, h4⟩ := h
  obtain ⟨t0, t1⟩ := ht
  obtain ⟨t, rfl⟩ := Int.eq_ofNat_of_zero_le t0
  have e : (8 * y + x).toNat = 8 * y.toNat + x.toNat := by omega
  unfold tset
  rw [e, Int.toNat_natCast]
  have hk : 8 * y.toNat + x.toNat < 64 := by omega
  generalize 8 * y.toNat + x.toNat = k at hk
  have hp : 2 ^ k < 18446744073709551616 := show 2 ^ k < 2 ^ 64 from Nat.pow_lt_pow_right (by decide) hk
  rw [wrap_pow hk, u64_or_nat _ _ (by omega) hp]
  congr 1
  refine eq_of_bits (n := 64) (Nat.or_lt_two_pow (by omega) (by omega)) (mk_lt _ _) fun i hi => ?_
  rw [testBit_mk, Nat.testBit_or, Nat.testBit_two_pow]
  by_cases e : i = k
  · subst e; simp [hi]
  · have : ¬ k = i := fun h => e h.symm
    simp [hi, e, this]

theorem set_false {t x y : Int} (h : InT x y) (ht : U64 t) : bits .andNot .u64 t (IntKind.u64.wrap (2 ^ (8 * y + x).toNat)) = tset t x y false := by
  obtain ⟨h1, h2, h3, h4⟩ := h
  obtain ⟨t0, t1⟩ := ht
  obtain ⟨t, rfl⟩ := Int.eq_ofNat_of_zero_le t0
  have e : (8 * y + x).toNat = 8 * y.toNat + x.toNat := by omega
  unfold tset
  rw [e, Int.toNat_natCast]
  have hk : 8 * y.toNat + x.toNat < 64 := by omega
  generalize 8 * y.toNat + x.toNat = k at hk
  have hp : 2 ^ k < 18446744073709551616 := show 2 ^ k < 2 ^ 64 from Nat.pow_lt_pow_right (by decide) hk
  rw [wrap_pow hk, u64_andNot_nat _ _ (by omega) hp]
  congr 1
  refine eq_of_bits (n := 64) (Nat.lt_of_le_of_lt Nat.and_le_left (by omega)) (mk_lt _ _) fun i hi => ?_
  rw [testBit_mk, Nat.testBit_and, show 18446744073709551615 - 2 ^ k = 2 ^ 64 - (2 ^ k + 1) by omega, Nat.testBit_two_pow_sub_succ (by omega), Nat.testBit_two_pow]
  by_cases e : i = k
  · subst e; simp [hi]
  · have : ¬ k = i := fun h => e h.symm
    simp [hi, e, this]

set_option maxHeartbeats 400000 in
theorem tset_in (t x y : Int) (b : Bool) (w : World) (h : InT x y) (ht : U64 t) :
    Calls Try.prog 48 #[.int .u64 t, .int .i64 x, .int .i64 y, .bool b] w fun e w' => e = .returned (.tuple #[.int .u64 (tset t x y b), .nilIface]) ∧ w = w' := by
  have h' := h
  obtain ⟨h1, h2, h3, h4⟩ := h'
  cases b
  · go_enter Try.func48, Try.ntmps48
    go_wp2_with (go_at_call 47; refine (away_in _ _ _ h).mono ?_; rintro e w' ⟨rfl, rfl⟩)
    go_ret2
    exact ⟨ret_ie (set_false h ht), rfl⟩
  · go_enter Try.func48, Try.ntmps48
    go_wp2_with (go_at_call 47; refine (away_in _ _ _ h).mono ?_; rintro e w' ⟨rfl, rfl⟩)
    go_ret2
    exact ⟨ret_ie (set_true h ht), rfl⟩

theorem ones_eq (t : Nat) (h : t < 18446744073709551616) : ∀ x, x = ((s3 t : Nat) : Int) →
    bits .and .i64 (wrap64 (IntKind.u64.wrap (IntKind.u64.wrap (IntKind.u64.wrap (x + x / 256) + IntKind.u64.wrap (x + x / 256) / 65536) + IntKind.u64.wrap (IntKind.u64.wrap (x + x / 256) + IntKind.u64.wrap (x + x / 256) / 65536) / 4294967296))) 127 = ((popc t : Nat) : Int) := by
  rintro x rfl
  obtain ⟨h3, hp⟩ := s6_pop t h
  rw [w4 _ h3, w5 _ h3, w6 _ h3, and127, hp]

set_option maxHeartbeats 400000 in
theorem ones64 (t : Int) (w : World) (ht : U64 t) :
    Calls Try.prog 45 #[.int .u64 t] w fun e w' => e = .returned (.int .i64 (popc t.toNat : Nat)) ∧ w = w' := by
  obtain ⟨t0, t1⟩ := ht
  obtain ⟨t, rfl⟩ := Int.eq_ofNat_of_zero_le t0
  have H := Lib.hid t1
  clear t1
  go_enter Try.func45, Try.ntmps45
  go_wp2
  go_ret
  refine ⟨ret_intk ?_, rfl⟩
  have h : t < 18446744073709551616 := by have := H.out; omega
  exact ones_eq t h _ (by rw [w1 t h, w2, w3])

set_option maxHeartbeats 400000 in
theorem tcount (t : Int) (w : World) (ht : U64 t) :
    Calls Try.prog 17 #[.int .u64 t] w fun e w' => e = .returned (.int .i64 (popc t.toNat : Nat)) ∧ w = w' := by
  go_enter Try.func17, Try.ntmps17
  go_wp2_with (go_at_call 45; refine (ones64 _ _ ht).mono ?_; rintro e w' ⟨rfl, rfl⟩)
  go_ret
  exact ⟨rfl, rfl⟩
end Go.Proofs.Ytmabgfdibbidcaa
