/- Plain laws of generations: what 'Grow' and 'Next' answer, cell by cell. -/
import Derived.Test.YtibcekdnkdkpiaaLawTileSure
namespace Go.Proofs.Ytibcekdnkdkpiaa
open Go.RowKit

/-- One for a cell that lives. -/
def one (b : Bool) : Nat := if b then 1 else 0

theorem p3_eq (n : Nat) : p3 n = one (n.testBit 0) + one (n.testBit 1) + one (n.testBit 2) := by
  unfold p3 one
  simp only [pop]
  rw [Nat.zero_add]
theorem bit_mod8 (n i k : Nat) (hk : k < 3) : (n / 2 ^ i % 8).testBit k = n.testBit (i + k) := by
  rw [show (8 : Nat) = 2 ^ 3 from rfl, Nat.testBit_mod_two_pow, Nat.testBit_div_two_pow]
  simp [hk, Nat.add_comm]
theorem bit_and5 (n i k : Nat) : (n / 2 ^ i &&& 5).testBit k = (n.testBit (i + k) && Nat.testBit 5 k) := by
  rw [Nat.testBit_and, Nat.testBit_div_two_pow, Nat.add_comm]
theorem cnt_eq (F : Nat → Nat) (j i : Nat) : cnt F j i =
    one ((F j).testBit i) + one ((F j).testBit (i + 1)) + one ((F j).testBit (i + 2)) +
    (one ((F (j + 2)).testBit i) + one ((F (j + 2)).testBit (i + 1)) + one ((F (j + 2)).testBit (i + 2))) +
    (one ((F (j + 1)).testBit i) + one ((F (j + 1)).testBit (i + 2))) := by
  unfold cnt n1 n2 n3
  rw [p3_eq, p3_eq, p3_eq, bit_mod8 _ _ 0 (by decide), bit_mod8 _ _ 1 (by decide), bit_mod8 _ _ 2 (by decide), bit_mod8 _ _ 0 (by decide), bit_mod8 _ _ 1 (by decide), bit_mod8 _ _ 2 (by decide), bit_and5, bit_and5, bit_and5,
    show Nat.testBit 5 0 = true from by decide, show Nat.testBit 5 1 = false from by decide, show Nat.testBit 5 2 = true from by decide]
  simp [one]

theorem nupto_at (F : Nat → Nat) (b l : Int) (j i : Nat) (hj : j < 22) (hi : i < 22) : (nupto F b l 22 0 (j + 1)).testBit (i + 1) = nbit F b l j i := by
  unfold nupto
  rw [if_neg (by omega), if_pos (by omega)]
  unfold nrow
  rw [testBit_mk]
  simp [show i + 1 < 23 by omega]
theorem nbit_congr (F G : Nat → Nat) (b l : Int) (j i j' i' : Nat) (h0 : (F (j + 1)).testBit (i + 1) = (G (j' + 1)).testBit (i' + 1)) (h : cnt F j i = cnt G j' i') : nbit F b l j i = nbit G b l j' i' := by
  unfold nbit; rw [h0, h]

theorem trow_bit (t j k : Nat) : (trow t j).testBit k = (decide (k < 8) && t.testBit (8 * j + k)) := by
  unfold trow
  rw [show (256 : Nat) = 2 ^ 8 from rfl, Nat.testBit_mod_two_pow, Nat.testBit_div_two_pow, Nat.add_comm]
theorem layF_bit (t x y : Nat) (F : Nat → Nat) (j i : Nat) : (layF t x y F j).testBit i =
    ((F j).testBit i || (decide (y ≤ j ∧ j < y + 8 ∧ x ≤ i ∧ i < x + 8) && t.testBit (8 * (j - y) + (i - x)))) := by
  unfold layF
  by_cases h : y ≤ j ∧ j < y + 8
  · rw [if_pos h, Nat.testBit_or, Nat.testBit_mul_two_pow, trow_bit]
    by_cases hx : x ≤ i
    · by_cases h8 : i < x + 8
      · simp [h.1, h.2, hx, h8, show i - x < 8 by omega]
      · simp [hx, h8, show ¬ i - x < 8 by omega]
    · simp [hx]
  · rw [if_neg h]
    have : ¬ (y ≤ j ∧ j < y + 8 ∧ x ≤ i ∧ i < x + 8) := fun h' => h ⟨h'.1, h'.2.1⟩
    simp [this]
/-- The cell x, y of four tiles. -/
def four4 (a b c d : Nat) (y x : Nat) : Bool :=
  if y < 8 then (if x < 8 then a.testBit (8 * y + x) else decide (x < 16) && b.testBit (8 * y + (x - 8)))
  else decide (y < 16) && (if x < 8 then c.testBit (8 * (y - 8) + x) else decide (x < 16) && d.testBit (8 * (y - 8) + (x - 8)))
theorem fourF_bit (a b c d y x : Nat) : (fourF a b c d y).testBit x = four4 a b c d y x := by
  unfold fourF four4
  rw [layF_bit, layF_bit, layF_bit, layF_bit]
  simp only [zeroF, Nat.zero_testBit, Bool.false_or, Nat.zero_le, true_and, Nat.sub_zero, Nat.zero_add]
  by_cases hy : y < 8
  · by_cases hx : x < 8
    · simp [hy, hx, show ¬ 8 ≤ x by omega, show ¬ 8 ≤ y by omega]
    · by_cases hx2 : x < 16
      · simp [hy, hx, hx2, show 8 ≤ x by omega, show ¬ 8 ≤ y by omega]
      · simp [hy, hx, hx2, show 8 ≤ x by omega, show ¬ 8 ≤ y by omega]
  · by_cases hy2 : y < 16
    · by_cases hx : x < 8
      · simp [hy, hy2, hx, show ¬ 8 ≤ x by omega, show 8 ≤ y by omega]
      · by_cases hx2 : x < 16
        · simp [hy, hy2, hx, hx2, show 8 ≤ x by omega, show 8 ≤ y by omega]
        · simp [hy, hy2, hx, hx2, show 8 ≤ x by omega, show 8 ≤ y by omega]
    · simp [hy, hy2]

/-- Two fields that agree on a window do so a generation on, one cell further in. -/
theorem step_congr (F G : Nat → Nat) (b l : Int) (x0 x1 y0 y1 : Nat) (hx : x1 ≤ 23) (hy : y1 ≤ 23)
    (h : ∀ x y, x0 ≤ x → x ≤ x1 → y0 ≤ y → y ≤ y1 → (F y).testBit x = (G y).testBit x)
    (x y : Nat) (g1 : x0 + 1 ≤ x) (g2 : x + 1 ≤ x1) (g3 : y0 + 1 ≤ y) (g4 : y + 1 ≤ y1) :
    (nupto F b l 22 0 y).testBit x = (nupto G b l 22 0 y).testBit x := by
  obtain ⟨i, rfl⟩ : ∃ i, x = i + 1 := ⟨x - 1, by omega⟩
  obtain ⟨j, rfl⟩ : ∃ j, y = j + 1 := ⟨y - 1, by omega⟩
  rw [nupto_at _ _ _ _ _ (by omega) (by omega), nupto_at _ _ _ _ _ (by omega) (by omega)]
  refine nbit_congr _ _ _ _ _ _ _ _ (h _ _ (by omega) (by omega) (by omega) (by omega)) ?_
  rw [cnt_eq, cnt_eq]
  rw [h i j (by omega) (by omega) (by omega) (by omega), h (i + 1) j (by omega) (by omega) (by omega) (by omega), h (i + 2) j (by omega) (by omega) (by omega) (by omega),
    h i (j + 2) (by omega) (by omega) (by omega) (by omega), h (i + 1) (j + 2) (by omega) (by omega) (by omega) (by omega), h (i + 2) (j + 2) (by omega) (by omega) (by omega) (by omega),
    h i (j + 1) (by omega) (by omega) (by omega) (by omega), h (i + 2) (j + 1) (by omega) (by omega) (by omega) (by omega)]

/-- A quarter turned. -/
theorem step_turn (F G : Nat → Nat) (b l : Int) (k : Nat)
    (h : ∀ x y u, x + u = 15 → k ≤ x → k ≤ u → k ≤ y → y + k ≤ 15 → (G y).testBit x = (F u).testBit y)
    (x y u : Nat) (e : x + u = 15) (g1 : k + 1 ≤ x) (g2 : k + 1 ≤ u) (g3 : k + 1 ≤ y) (g4 : y + (k + 1) ≤ 15) :
    (nupto G b l 22 0 y).testBit x = (nupto F b l 22 0 u).testBit y := by
  obtain ⟨i, rfl⟩ : ∃ i, x = i + 1 := ⟨x - 1, by omega⟩
  obtain ⟨j, rfl⟩ : ∃ j, y = j + 1 := ⟨y - 1, by omega⟩
  obtain ⟨v, rfl⟩ : ∃ v, u = v + 1 := ⟨u - 1, by omega⟩
  rw [nupto_at _ _ _ _ _ (by omega) (by omega), nupto_at _ _ _ _ _ (by omega) (by omega)]
  refine nbit_congr _ _ _ _ _ _ _ _ (h _ _ _ (by omega) (by omega) (by omega) (by omega) (by omega)) ?_
  rw [cnt_eq, cnt_eq]
  rw [h i j (v + 2) (by omega) (by omega) (by omega) (by omega) (by omega), h (i + 1) j (v + 1) (by omega) (by omega) (by omega) (by omega) (by omega), h (i + 2) j v (by omega) (by omega) (by omega) (by omega) (by omega),
    h i (j + 2) (v + 2) (by omega) (by omega) (by omega) (by omega) (by omega), h (i + 1) (j + 2) (v + 1) (by omega) (by omega) (by omega) (by omega) (by omega), h (i + 2) (j + 2) v (by omega) (by omega) (by omega) (by omega) (by omega),
    h i (j + 1) (v + 2) (by omega) (by omega) (by omega) (by omega) (by omega), h (i + 2) (j + 1) v (by omega) (by omega) (by omega) (by omega) (by omega)]
  omega

/-- A field mirrored. -/
theorem step_flip (F G : Nat → Nat) (b l : Int) (k : Nat)
    (h : ∀ x y u, x + u = 15 → k ≤ x → k ≤ u → k ≤ y → y + k ≤ 15 → (G y).testBit x = (F y).testBit u)
    (x y u : Nat) (e : x + u = 15) (g1 : k + 1 ≤ x) (g2 : k + 1 ≤ u) (g3 : k + 1 ≤ y) (g4 : y + (k + 1) ≤ 15) :
    (nupto G b l 22 0 y).testBit x = (nupto F b l 22 0 y).testBit u := by
  obtain ⟨i, rfl⟩ : ∃ i, x = i + 1 := ⟨x - 1, by omega⟩
  obtain ⟨j, rfl⟩ : ∃ j, y = j + 1 := ⟨y - 1, by omega⟩
  obtain ⟨v, rfl⟩ : ∃ v, u = v + 1 := ⟨u - 1, by omega⟩
  rw [nupto_at _ _ _ _ _ (by omega) (by omega), nupto_at _ _ _ _ _ (by omega) (by omega)]
  refine nbit_congr _ _ _ _ _ _ _ _ (h _ _ _ (by omega) (by omega) (by omega) (by omega) (by omega)) ?_
  rw [cnt_eq, cnt_eq]
  rw [h i j (v + 2) (by omega) (by omega) (by omega) (by omega) (by omega), h (i + 1) j (v + 1) (by omega) (by omega) (by omega) (by omega) (by omega), h (i + 2) j v (by omega) (by omega) (by omega) (by omega) (by omega),
    h i (j + 2) (v + 2) (by omega) (by omega) (by omega) (by omega) (by omega), h (i + 1) (j + 2) (v + 1) (by omega) (by omega) (by omega) (by omega) (by omega), h (i + 2) (j + 2) v (by omega) (by omega) (by omega) (by omega) (by omega),
    h i (j + 1) (v + 2) (by omega) (by omega) (by omega) (by omega) (by omega), h (i + 2) (j + 1) v (by omega) (by omega) (by omega) (by omega) (by omega)]
  omega

theorem gen_turn (F G : Nat → Nat) (b l : Int) (h : ∀ x y u, x + u = 15 → y ≤ 15 → (G y).testBit x = (F u).testBit y) :
    ∀ n x y u, x + u = 15 → n ≤ x → n ≤ u → n ≤ y → y + n ≤ 15 → (genF b l n G y).testBit x = (genF b l n F u).testBit y
  | 0 => fun x y u e _ _ _ g => h x y u e (by omega)
  | n + 1 => fun x y u e g1 g2 g3 g4 => step_turn _ _ _ _ n (gen_turn F G b l h n) x y u e g1 g2 g3 g4
theorem gen_flip (F G : Nat → Nat) (b l : Int) (h : ∀ x y u, x + u = 15 → y ≤ 15 → (G y).testBit x = (F y).testBit u) :
    ∀ n x y u, x + u = 15 → n ≤ x → n ≤ u → n ≤ y → y + n ≤ 15 → (genF b l n G y).testBit x = (genF b l n F y).testBit u
  | 0 => fun x y u e _ _ _ g => h x y u e (by omega)
  | n + 1 => fun x y u e g1 g2 g3 g4 => step_flip _ _ _ _ n (gen_flip F G b l h n) x y u e g1 g2 g3 g4

theorem turnT_bit (t i : Nat) (hi : i < 64) : (turnT t).testBit i = t.testBit (8 * (7 - i % 8) + i / 8) := by
  unfold turnT; rw [testBit_mk]; simp [hi]
theorem flipT_bit (t i : Nat) (hi : i < 64) : (flipT t).testBit i = t.testBit (8 * (i / 8) + (7 - i % 8)) := by
  unfold flipT; rw [testBit_mk]; simp [hi]

theorem four_turn (a b c d x y u : Nat) (e : x + u = 15) (hy : y ≤ 15) : (fourF (turnT c) (turnT a) (turnT d) (turnT b) y).testBit x = (fourF a b c d u).testBit y := by
  rw [fourF_bit, fourF_bit]
  unfold four4
  by_cases h1 : y < 8 <;> by_cases h2 : x < 8
  · rw [if_pos h1, if_pos h2, if_neg (by omega), if_pos h1, turnT_bit _ _ (by omega)]
    simp only [show u < 16 by omega, decide_true, Bool.true_and]
    congr 1; omega
  · rw [if_pos h1, if_neg h2, if_pos (by omega), if_pos h1, turnT_bit _ _ (by omega)]
    simp only [show x < 16 by omega, decide_true, Bool.true_and]
    congr 1; omega
  · rw [if_neg h1, if_pos h2, if_neg (by omega), if_neg h1, turnT_bit _ _ (by omega)]
    simp only [show y < 16 by omega, show u < 16 by omega, decide_true, Bool.true_and]
    congr 1; omega
  · rw [if_neg h1, if_neg h2, if_pos (by omega), if_neg h1, turnT_bit _ _ (by omega)]
    simp only [show y < 16 by omega, show x < 16 by omega, decide_true, Bool.true_and]
    congr 1; omega
theorem four_flip (a b c d x y u : Nat) (e : x + u = 15) (hy : y ≤ 15) : (fourF (flipT b) (flipT a) (flipT d) (flipT c) y).testBit x = (fourF a b c d y).testBit u := by
  rw [fourF_bit, fourF_bit]
  unfold four4
  by_cases h1 : y < 8 <;> by_cases h2 : x < 8
  · rw [if_pos h1, if_pos h2, if_pos h1, if_neg (by omega), flipT_bit _ _ (by omega)]
    simp only [show u < 16 by omega, decide_true, Bool.true_and]
    congr 1; omega
  · rw [if_pos h1, if_neg h2, if_pos h1, if_pos (by omega), flipT_bit _ _ (by omega)]
    simp only [show x < 16 by omega, decide_true, Bool.true_and]
    congr 1; omega
  · rw [if_neg h1, if_pos h2, if_neg h1, if_neg (by omega), flipT_bit _ _ (by omega)]
    simp only [show y < 16 by omega, show u < 16 by omega, decide_true, Bool.true_and]
    congr 1; omega
  · rw [if_neg h1, if_neg h2, if_neg h1, if_pos (by omega), flipT_bit _ _ (by omega)]
    simp only [show y < 16 by omega, show x < 16 by omega, decide_true, Bool.true_and]
    congr 1; omega

theorem growT_bit (b l : Int) (n a1 a2 a3 a4 i : Nat) (hi : i < 64) : (growT b l n a1 a2 a3 a4).testBit i = (genF b l n (fourF a1 a2 a3 a4) (4 + i / 8)).testBit (4 + i % 8) := by
  unfold growT cutBit; rw [testBit_mk]; simp [hi]

/-- Four turned tiles, turned about each other, go on as a turned one. -/
theorem grow_turn (b l : Int) (n a1 a2 a3 a4 : Nat) (hn : n ≤ 4) : growT b l n (turnT a3) (turnT a1) (turnT a4) (turnT a2) = turnT (growT b l n a1 a2 a3 a4) := by
  refine eq_of_bits (n := 64) (growT_n64 ..) (turnT_n64 _) fun i hi => ?_
  rw [turnT_bit _ _ hi, growT_bit _ _ _ _ _ _ _ _ hi, growT_bit _ _ _ _ _ _ _ _ (by omega)]
  rw [gen_turn (fourF a1 a2 a3 a4) _ b l (fun x y u e hy => four_turn a1 a2 a3 a4 x y u e hy) n (4 + i % 8) (4 + i / 8) (4 + (7 - i % 8)) (by omega) (by omega) (by omega) (by omega) (by omega)]
  rw [show (8 * (7 - i % 8) + i / 8) / 8 = 7 - i % 8 by omega, show (8 * (7 - i % 8) + i / 8) % 8 = i / 8 by omega]
theorem grow_flip (b l : Int) (n a1 a2 a3 a4 : Nat) (hn : n ≤ 4) : growT b l n (flipT a2) (flipT a1) (flipT a4) (flipT a3) = flipT (growT b l n a1 a2 a3 a4) := by
  refine eq_of_bits (n := 64) (growT_n64 ..) (flipT_n64 _) fun i hi => ?_
  rw [flipT_bit _ _ hi, growT_bit _ _ _ _ _ _ _ _ hi, growT_bit _ _ _ _ _ _ _ _ (by omega)]
  rw [gen_flip (fourF a1 a2 a3 a4) _ b l (fun x y u e hy => four_flip a1 a2 a3 a4 x y u e hy) n (4 + i % 8) (4 + i / 8) (4 + (7 - i % 8)) (by omega) (by omega) (by omega) (by omega) (by omega)]
  rw [show (8 * (i / 8) + (7 - i % 8)) / 8 = i / 8 by omega, show (8 * (i / 8) + (7 - i % 8)) % 8 = 7 - i % 8 by omega]
theorem turn_four (t : Nat) (ht : N64 t) : turnT (turnT (turnT (turnT t))) = t := by
  refine eq_of_bits (n := 64) (turnT_n64 _) ht fun i hi => ?_
  rw [turnT_bit _ _ hi, turnT_bit _ _ (by omega), turnT_bit _ _ (by omega), turnT_bit _ _ (by omega)]
  congr 1; omega
theorem flip_two (t : Nat) (ht : N64 t) : flipT (flipT t) = t := by
  refine eq_of_bits (n := 64) (flipT_n64 _) ht fun i hi => ?_
  rw [flipT_bit _ _ hi, flipT_bit _ _ (by omega)]
  congr 1; omega

theorem pop_swap (f : Nat → Bool) : pop (fun i => f (8 * (7 - i % 8) + i / 8)) 64 = pop f 64 := by
  simp only [pop]
  simp only [Nat.reduceMul, Nat.reduceSub, Nat.reduceMod, Nat.reduceDiv, Nat.reduceAdd]
  have e (c : Bool) (n : Nat) : (n + if c = true then 1 else 0) = n + one c := rfl
  simp only [e]
  omega
theorem popc_turn (t : Nat) : popc (turnT t) = popc t := by
  unfold popc
  rw [pop_congr (g := fun i => t.testBit (8 * (7 - i % 8) + i / 8)) fun i hi => turnT_bit t i hi]
  exact pop_swap fun i => t.testBit i

theorem grow_none : ∀ (n : Nat) (b l : Int), May b l → genF b l n zeroF = zeroF
  | 0, _, _, _ => rfl
  | n + 1, b, l, h => by
    show nupto (genF b l n zeroF) b l 22 0 = zeroF
    rw [grow_none n b l h]
    funext r
    refine Nat.eq_of_testBit_eq fun x => ?_
    have hb : bitAt b 0 = false := by
      unfold bitAt
      rw [show (0 : Int).toNat = 0 from rfl, Nat.testBit_zero]
      have := h.1
      simp
      omega
    unfold nupto
    split
    · rfl
    · rw [if_pos (by omega)]
      unfold nrow
      rw [testBit_mk]
      have hc : nbit zeroF b l (r - 1) (x - 1) = false := by
        unfold nbit
        rw [cnt_eq]
        simpa [zeroF, one] using hb
      simp [hc, zeroF]
theorem four_none : fourF 0 0 0 0 = zeroF := by
  funext y
  refine Nat.eq_of_testBit_eq fun x => ?_
  rw [fourF_bit]
  simp [four4, zeroF]
theorem growT_none (b l : Int) (n : Nat) (h : May b l) : growT b l n 0 0 0 0 = 0 := by
  refine eq_of_bits (n := 64) (growT_n64 ..) (by omega) fun i hi => ?_
  rw [growT_bit _ _ _ _ _ _ _ _ hi, four_none, grow_none n b l h]
  simp [zeroF]

/-- What 'Next' answers. -/
def nextT (b l : Int) (t0 t1 t2 t3 t4 t5 t6 t7 t8 : Nat) : Nat := mk (cutBit (nupto (nineF t0 t1 t2 t3 t4 t5 t6 t7 t8) b l 22 0) 8 8) 64
theorem nextT_n64 (b l : Int) (t0 t1 t2 t3 t4 t5 t6 t7 t8 : Nat) : N64 (nextT b l t0 t1 t2 t3 t4 t5 t6 t7 t8) := mk_lt _ 64
theorem nine_none : nineF 0 0 0 0 0 0 0 0 0 = zeroF := by
  funext y
  refine Nat.eq_of_testBit_eq fun x => ?_
  unfold nineF
  simp [layF_bit, zeroF]
theorem nextT_none (b l : Int) (h : May b l) : nextT b l 0 0 0 0 0 0 0 0 0 = 0 := by
  refine eq_of_bits (n := 64) (nextT_n64 ..) (by omega) fun i hi => ?_
  unfold nextT cutBit
  rw [testBit_mk, nine_none, show nupto zeroF b l 22 0 = zeroF from grow_none 1 b l h]
  simp [zeroF]
theorem nine_four (t0 t1 t2 t3 t4 t5 t6 t7 t8 x y : Nat) (hx : x ≤ 15) (hy : y ≤ 15) : (fourF t0 t1 t3 t4 y).testBit x = (nineF t0 t1 t2 t3 t4 t5 t6 t7 t8 y).testBit x := by
  unfold fourF nineF
  simp only [layF_bit]
  simp [show ¬ 16 ≤ x by omega, show ¬ 16 ≤ y by omega]
/-- One generation on is what 'Next' of nine tiles has. -/
theorem grow_next (b l : Int) (t0 t1 t2 t3 t4 t5 t6 t7 t8 i : Nat) (hi : i < 16) :
    (growT b l 1 t0 t1 t3 t4).testBit (8 * (4 + i / 4) + (4 + i % 4)) = (nextT b l t0 t1 t2 t3 t4 t5 t6 t7 t8).testBit (8 * (i / 4) + i % 4) := by
  rw [growT_bit _ _ _ _ _ _ _ _ (by omega)]
  unfold nextT cutBit
  rw [testBit_mk]
  simp only [show 8 * (i / 4) + i % 4 < 64 by omega, decide_true, Bool.true_and]
  rw [show 4 + (8 * (4 + i / 4) + (4 + i % 4)) / 8 = 8 + (8 * (i / 4) + i % 4) / 8 by omega, show 4 + (8 * (4 + i / 4) + (4 + i % 4)) % 8 = 8 + (8 * (i / 4) + i % 4) % 8 by omega]
  exact step_congr _ _ b l 0 15 0 15 (by decide) (by decide) (fun x y _ hx _ hy => nine_four t0 t1 t2 t3 t4 t5 t6 t7 t8 x y hx hy) _ _ (by omega) (by omega) (by omega) (by omega)
/-- What lies two cells further does not matter for one generation. -/
theorem grow_far (b l : Int) (t s a2 a3 a4 : Nat) (h : ∀ x y, 2 ≤ x → x < 8 → 2 ≤ y → y < 8 → s.testBit (8 * y + x) = t.testBit (8 * y + x)) : growT b l 1 s a2 a3 a4 = growT b l 1 t a2 a3 a4 := by
  refine eq_of_bits (n := 64) (growT_n64 ..) (growT_n64 ..) fun i hi => ?_
  rw [growT_bit _ _ _ _ _ _ _ _ hi, growT_bit _ _ _ _ _ _ _ _ hi]
  refine step_congr _ _ b l 2 15 2 15 (by decide) (by decide) (fun x y h1 h2 h3 h4 => ?_) _ _ (by omega) (by omega) (by omega) (by omega)
  show (fourF s a2 a3 a4 y).testBit x = (fourF t a2 a3 a4 y).testBit x
  rw [fourF_bit, fourF_bit]
  unfold four4
  by_cases hy : y < 8
  · by_cases hx : x < 8
    · rw [if_pos hy, if_pos hx, if_pos hy, if_pos hx, h x y h1 hx h3 hy]
    · rw [if_pos hy, if_neg hx, if_pos hy, if_neg hx]
  · rw [if_neg hy, if_neg hy]
end Go.Proofs.Ytibcekdnkdkpiaa
