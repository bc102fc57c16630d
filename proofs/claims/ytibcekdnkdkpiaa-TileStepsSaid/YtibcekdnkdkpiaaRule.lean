/- Contracts of package rule: a rule that may be, and whether a cell lives next. -/
import Derived.Test.YtibcekdnkdkpiaaBase
namespace Go.Proofs.Ytibcekdnkdkpiaa
open Go.RowKit

/-- A rule may be. -/
def May (b l : Int) : Prop := (0 ≤ b ∧ b < 512 ∧ b % 2 = 0) ∧ 0 ≤ l ∧ l < 512
instance (b l : Int) : Decidable (May b l) := by unfold May; infer_instance
/-- A number of 16 bits. -/
def U16 (b : Int) : Prop := 0 ≤ b ∧ b < 65536
/-- Bit n of a number. -/
def bitAt (b n : Int) : Bool := b.toNat.testBit n.toNat
theorem May.u16b {b l : Int} (h : May b l) : U16 b := ⟨h.1.1, by have := h.1.2.1; omega⟩
theorem May.u16l {b l : Int} (h : May b l) : U16 l := ⟨h.2.1, by have := h.2.2; omega⟩

theorem andNot511 {b : Int} (h : U16 b) : bits .andNot .u16 b 511 = b / 512 * 512 := by
  obtain ⟨h0, h1⟩ := h
  rw [u16_andNot _ _ h0 h1 (by decide) (by decide)]
  have : (65535 - (511 : Int).toNat) = 65024 := by decide
  rw [this, nat_hi16_9]
  omega
theorem and1_u16 {b : Int} (h : U16 b) : bits .and .u16 b 1 = b % 2 := by
  obtain ⟨h0, h1⟩ := h
  rw [u16_and _ _ h0 h1 (by decide) (by decide)]
  have : (1 : Int).toNat = 1 := by decide
  rw [this, nat_mask1]
  omega
theorem bit_u16 {b n : Int} (h : U16 b) : (bits .and .u16 (b / 2 ^ n.toNat) 1 == 1) = bitAt b n := by
  obtain ⟨h0, h1⟩ := h
  obtain ⟨b, rfl⟩ := Int.eq_ofNat_of_zero_le h0
  have e : (b : Int) / 2 ^ n.toNat = ((b / 2 ^ n.toNat : Nat) : Int) := by simp
  have hle := Nat.div_le_self b (2 ^ n.toNat)
  unfold bitAt
  rw [e, Int.toNat_natCast, Nat.testBit_eq_decide_div_mod_eq]
  generalize b / 2 ^ n.toNat = c at hle
  rw [and1_u16 ⟨by omega, by omega⟩, Bool.eq_iff_iff]
  simp
  omega

set_option maxHeartbeats 400000 in
theorem check_ok (b l : Int) (w : World) (h : May b l) :
    Calls Try.prog 28 #[.agg #[.int .u16 b, .int .u16 l]] w fun e w' => e = .returned .nilIface ∧ Below w.heap.size w w' := by
  have e1 : bits .andNot .u16 b 511 = 0 := by rw [andNot511 h.u16b]; have := h.1; omega
  have e2 : bits .andNot .u16 l 511 = 0 := by rw [andNot511 h.u16l]; have := h.2; omega
  have e3 : bits .and .u16 b 1 = 0 := by rw [and1_u16 h.u16b]; have := h.1; omega
  go_enter Try.func28, Try.ntmps28
  go_wp2
  go_ret
  exact ⟨rfl, (Below.refl _ _).alloc (Nat.le_refl _) _⟩

set_option maxHeartbeats 400000 in
theorem check_bad (b l : Int) (w : World) (hb : U16 b) (hl : U16 l) (h : ¬ May b l) :
    Calls Try.prog 28 #[.agg #[.int .u16 b, .int .u16 l]] w fun e w' => e = .returned (errv 11) ∧ Below w.heap.size w w' := by
  by_cases h1 : b < 512
  · have e1 : bits .andNot .u16 b 511 = 0 := by rw [andNot511 hb]; have := hb.1; omega
    by_cases h2 : l < 512
    · have e2 : bits .andNot .u16 l 511 = 0 := by rw [andNot511 hl]; have := hl.1; omega
      have e3 : bits .and .u16 b 1 = 1 := by rw [and1_u16 hb]; have := hb.1; have := hl.1; unfold May at h; omega
      clear h h1 h2
      go_enter Try.func28, Try.ntmps28
      go_wp2
      go_ret
      exact ⟨rfl, (Below.refl _ _).alloc (Nat.le_refl _) _⟩
    · have e2 : ¬ bits .andNot .u16 l 511 = 0 := by rw [andNot511 hl]; omega
      clear h h1 h2
      go_enter Try.func28, Try.ntmps28
      go_wp2
      go_ret
      exact ⟨rfl, (Below.refl _ _).alloc (Nat.le_refl _) _⟩
  · have e1 : ¬ bits .andNot .u16 b 511 = 0 := by rw [andNot511 hb]; omega
    clear h h1
    go_enter Try.func28, Try.ntmps28
    go_wp2
    go_ret
    exact ⟨rfl, (Below.refl _ _).alloc (Nat.le_refl _) _⟩

theorem below_box {w w' : World} (o : Obj) (hb : Below (w.alloc o).heap.size (w.alloc o) w') : Below w.heap.size w w' :=
  ((Below.refl _ _).alloc (Nat.le_refl _) _).trans (hb.mono (by simp))

set_option maxHeartbeats 400000 in
theorem rnext_ok (b l n : Int) (lives : Bool) (w : World) (h : May b l) (h0 : 0 ≤ n) (h1 : n ≤ 8) :
    Calls Try.prog 23 #[.agg #[.int .u16 b, .int .u16 l], .bool lives, .int .i64 n] w fun e w' => e = .returned (.tuple #[.bool (bitAt (if lives then l else b) n), .nilIface]) ∧ Below w.heap.size w w' := by
  have hb := h.1.1
  have hl := h.2.1
  have HB := bit_u16 (n := n) h.u16b
  have HL := bit_u16 (n := n) h.u16l
  cases lives
  · go_enter Try.func23, Try.ntmps23
    go_wp2_with (go_at_call 28; refine (check_ok _ _ _ h).mono ?_; rintro e w' ⟨rfl, hb1⟩; obtain ⟨hc, hf⟩ := bcell hb1)
    go_ret2
    exact ⟨rfl, below_box _ hb1⟩
  · go_enter Try.func23, Try.ntmps23
    go_wp2_with (go_at_call 28; refine (check_ok _ _ _ h).mono ?_; rintro e w' ⟨rfl, hb1⟩; obtain ⟨hc, hf⟩ := bcell hb1)
    go_ret2
    exact ⟨rfl, below_box _ hb1⟩

set_option maxHeartbeats 400000 in
theorem rnext_rule (b l n : Int) (lives : Bool) (w : World) (hb : U16 b) (hl : U16 l) (h : ¬ May b l) :
    Calls Try.prog 23 #[.agg #[.int .u16 b, .int .u16 l], .bool lives, .int .i64 n] w fun e w' => e = .returned (.tuple #[.bool false, errv 11]) ∧ Below w.heap.size w w' := by
  go_enter Try.func23, Try.ntmps23
  go_wp2_with (go_at_call 28; refine (check_bad _ _ _ hb hl h).mono ?_; rintro e w' ⟨rfl, hb1⟩; obtain ⟨hc, hf⟩ := bcell hb1; unfold errv)
  go_ret2
  exact ⟨rfl, below_box _ hb1⟩

set_option maxHeartbeats 400000 in
theorem rnext_arg (b l n : Int) (lives : Bool) (w : World) (h : May b l) (hn : n < 0 ∨ 8 < n) :
    Calls Try.prog 23 #[.agg #[.int .u16 b, .int .u16 l], .bool lives, .int .i64 n] w fun e w' => e = .returned (.tuple #[.bool false, errv 1]) ∧ Below w.heap.size w w' := by
  rcases hn with hn | hn
  · go_enter Try.func23, Try.ntmps23
    go_wp2_with (go_at_call 28; refine (check_ok _ _ _ h).mono ?_; rintro e w' ⟨rfl, hb1⟩; obtain ⟨hc, hf⟩ := bcell hb1)
    go_ret2
    exact ⟨rfl, below_box _ hb1⟩
  · have hn' : ¬ n < 0 := by omega
    go_enter Try.func23, Try.ntmps23
    go_wp2_with (go_at_call 28; refine (check_ok _ _ _ h).mono ?_; rintro e w' ⟨rfl, hb1⟩; obtain ⟨hc, hf⟩ := bcell hb1)
    go_ret2
    exact ⟨rfl, below_box _ hb1⟩
end Go.Proofs.Ytibcekdnkdkpiaa
