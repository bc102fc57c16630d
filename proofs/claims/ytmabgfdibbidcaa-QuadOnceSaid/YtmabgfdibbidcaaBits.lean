/- Plain laws on the bits of numbers: a number made of its bits; how many bits of 64 are set, as Go's OnesCount64 reckons it. -/
import Derived.Laws.BitsAllLaws
import Derived.IntWalk
import Derived.Laws.Bits128
namespace Go.Proofs.Ytmabgfdibbidcaa
open Go.RowKit

/-- The number whose bit i (below n) is f i. -/
def mk (f : Nat → Bool) : Nat → Nat
  | 0 => 0
  | n + 1 => mk f n + (if f n then 2 ^ n else 0)

theorem mk_lt (f : Nat → Bool) (n : Nat) : mk f n < 2 ^ n := by
  induction n with
  | zero => simp [mk]
  | succ n ih =>
    simp only [mk, Nat.pow_succ]
    split <;> omega

theorem testBit_mk (f : Nat → Bool) (n i : Nat) : (mk f n).testBit i = (decide (i < n) && f i) := by
  induction n with
  | zero => simp [mk]
  | succ n ih =>
    have hl := mk_lt f n
    simp only [mk]
    by_cases hf : f n
    · simp only [hf, if_true]
      rw [Nat.add_comm]
      by_cases hi : i = n
      · subst hi
        rw [Nat.testBit_two_pow_add_eq, ih]; simp [hf]
      · by_cases hlt : i < n
        · rw [Nat.testBit_two_pow_add_gt hlt, ih]
          simp [hlt, show i < n + 1 by omega]
        · rw [Nat.testBit_lt_two_pow]
          · simp; omega
          · have : 2 ^ (n+1) ≤ 2 ^ i := Nat.pow_le_pow_right (by omega) (by omega)
            have h2 : 2 ^ (n+1) = 2 ^ n + 2 ^ n := by rw [Nat.pow_succ]; omega
            omega
    · simp only [hf, Bool.false_eq_true, if_false, Nat.add_zero, ih]
      by_cases hi : i = n
      · subst hi; simp [hf]
      · have : (i < n + 1) ↔ (i < n) := by omega
        simp [this]

theorem eq_mk (t n : Nat) (h : t < 2 ^ n) : mk (fun i => t.testBit i) n = t := by
  apply Nat.eq_of_testBit_eq
  intro i
  rw [testBit_mk]
  by_cases hi : i < n
  · simp [hi]
  · rw [Nat.testBit_lt_two_pow (Nat.lt_of_lt_of_le h (Nat.pow_le_pow_right (by omega) (by omega)))]; simp

theorem mk_congr {f g : Nat → Bool} {n : Nat} (h : ∀ i, i < n → f i = g i) : mk f n = mk g n := by
  apply Nat.eq_of_testBit_eq
  intro i
  rw [testBit_mk, testBit_mk]
  by_cases hi : i < n
  · simp [hi, h i hi]
  · simp [hi]

theorem eq_of_bits {a b n : Nat} (ha : a < 2 ^ n) (hb : b < 2 ^ n) (h : ∀ i, i < n → a.testBit i = b.testBit i) : a = b := by
  rw [← eq_mk a n ha, ← eq_mk b n hb]; exact mk_congr h

/-- How many of the first n hold. -/
def pop (f : Nat → Bool) : Nat → Nat
  | 0 => 0
  | n + 1 => pop f n + (if f n then 1 else 0)

theorem pop_le (f : Nat → Bool) (n : Nat) : pop f n ≤ n := by
  induction n with
  | zero => simp [pop]
  | succ n ih => simp only [pop]; split <;> omega

theorem pop_congr {f g : Nat → Bool} {n : Nat} (h : ∀ i, i < n → f i = g i) : pop f n = pop g n := by
  induction n with
  | zero => rfl
  | succ n ih => simp only [pop]; rw [ih (fun i hi => h i (by omega)), h n (by omega)]

theorem pop_add (f : Nat → Bool) (m n : Nat) : pop f (m + n) = pop f m + pop (fun i => f (m + i)) n := by
  induction n with
  | zero => rfl
  | succ n ih => rw [← Nat.add_assoc]; simp only [pop]; rw [ih]; omega

/-- How many of 64 bits are set. -/
def popc (t : Nat) : Nat := pop (fun i => t.testBit i) 64

/-! ### eight bytes -/
def jn : List Nat → Nat
  | [] => 0
  | b :: r => b + 256 * jn r

theorem and_cons {a b c d : Nat} (ha : a < 256) (hc : c < 256) : (a + 256 * b) &&& (c + 256 * d) = (a &&& c) + 256 * (b &&& d) := by
  apply Nat.eq_of_testBit_eq
  intro i
  have hac : a &&& c < 2 ^ 8 := Nat.and_lt_two_pow _ hc
  have e (x y : Nat) : x + 256 * y = 2 ^ 8 * y + x := by omega
  rw [Nat.testBit_and, e, e, e, Nat.testBit_two_pow_mul_add _ ha, Nat.testBit_two_pow_mul_add _ hc, Nat.testBit_two_pow_mul_add _ hac]
  split <;> simp [Nat.testBit_and]

theorem and_jn : ∀ (xs ms : List Nat), xs.length = ms.length → (∀ x ∈ xs, x < 256) → (∀ x ∈ ms, x < 256) → jn xs &&& jn ms = jn (List.zipWith (· &&& ·) xs ms)
  | [], [], _, _, _ => rfl
  | x :: xs, m :: ms, hl, hx, hm => by
    simp only [jn, List.zipWith]
    rw [and_cons (hx x (by simp)) (hm m (by simp)), and_jn xs ms (by simpa using hl) (fun y hy => hx y (by simp [hy])) (fun y hy => hm y (by simp [hy]))]

def f1 (b : Nat) : Nat := (b / 2 &&& 85) + (b &&& 85)
def f2 (b : Nat) : Nat := (b / 4 &&& 51) + (b &&& 51)
def f3 (b : Nat) : Nat := b / 16 + b % 16

theorem f1_all : ∀ b, b < 256 → ∀ c, c < 2 → (b / 2 + 128 * c) &&& 85 = b / 2 &&& 85 := by decide +kernel
theorem f1_le : ∀ b, b < 256 → f1 b ≤ 170 := by decide +kernel
theorem f2_all : ∀ b, b < 256 → ∀ c, c < 4 → (b / 4 + 64 * c) &&& 51 = b / 4 &&& 51 := by decide +kernel
theorem f2_le : ∀ b, b < 256 → f2 (f1 b) ≤ 68 ∧ f2 (f1 b) / 16 ≤ 4 ∧ f2 (f1 b) % 16 ≤ 4 := by decide +kernel
theorem f3_all : ∀ b, b < 256 → ∀ c, c < 16 → ((f2 (f1 b) / 16 + 16 * c + f2 (f1 b)) &&& 15) = f3 (f2 (f1 b)) := by decide +kernel
theorem f3_pop : ∀ b, b < 256 → f3 (f2 (f1 b)) = pop (fun i => b.testBit i) 8 := by decide +kernel

def s1 (t : Nat) : Nat := (t / 2 &&& 6148914691236517205) + (t &&& 6148914691236517205)
def s2 (t : Nat) : Nat := (s1 t / 4 &&& 3689348814741910323) + (s1 t &&& 3689348814741910323)
def s3 (t : Nat) : Nat := (s2 t / 16 + s2 t) &&& 1085102592571150095

theorem jn8 (a b c d e f g h : Nat) : jn [a, b, c, d, e, f, g, h] = a + 256 * (b + 256 * (c + 256 * (d + 256 * (e + 256 * (f + 256 * (g + 256 * h)))))) := by simp [jn]

section
variable {a b c d e f g h : Nat} (ha : a < 256) (hb : b < 256) (hc : c < 256) (hd : d < 256) (he : e < 256) (hf : f < 256) (hg : g < 256) (hh : h < 256)
include ha hb hc hd he hf hg hh

theorem s1_jn : s1 (jn [a, b, c, d, e, f, g, h]) = jn [f1 a, f1 b, f1 c, f1 d, f1 e, f1 f, f1 g, f1 h] := by
  have hm : (6148914691236517205 : Nat) = jn [85, 85, 85, 85, 85, 85, 85, 85] := by decide
  have h2 : jn [a, b, c, d, e, f, g, h] / 2 = jn [a / 2 + 128 * (b % 2), b / 2 + 128 * (c % 2), c / 2 + 128 * (d % 2), d / 2 + 128 * (e % 2), e / 2 + 128 * (f % 2), f / 2 + 128 * (g % 2), g / 2 + 128 * (h % 2), h / 2 + 128 * 0] := by
    rw [jn8, jn8]; omega
  unfold s1
  rw [h2, hm, and_jn _ _ (by rfl) (by simp; omega) (by simp), and_jn _ _ (by rfl) (by simp; omega) (by simp)]
  simp only [List.zipWith]
  rw [f1_all a ha _ (by omega), f1_all b hb _ (by omega), f1_all c hc _ (by omega), f1_all d hd _ (by omega), f1_all e he _ (by omega), f1_all f hf _ (by omega), f1_all g hg _ (by omega), f1_all h hh _ (by omega)]
  rw [jn8, jn8, jn8]
  unfold f1
  omega

theorem s2_jn : s2 (jn [a, b, c, d, e, f, g, h]) = jn [f2 (f1 a), f2 (f1 b), f2 (f1 c), f2 (f1 d), f2 (f1 e), f2 (f1 f), f2 (f1 g), f2 (f1 h)] := by
  have hm : (3689348814741910323 : Nat) = jn [51, 51, 51, 51, 51, 51, 51, 51] := by decide
  unfold s2
  rw [s1_jn ha hb hc hd he hf hg hh]
  have la := f1_le a ha
  have lb := f1_le b hb
  have lc := f1_le c hc
  have ld := f1_le d hd
  have le := f1_le e he
  have lf := f1_le f hf
  have lg := f1_le g hg
  have lh := f1_le h hh
  generalize f1 a = a at *
  generalize f1 b = b at *
  generalize f1 c = c at *
  generalize f1 d = d at *
  generalize f1 e = e at *
  generalize f1 f = f at *
  generalize f1 g = g at *
  generalize f1 h = h at *
  have h2 : jn [a, b, c, d, e, f, g, h] / 4 = jn [a / 4 + 64 * (b % 4), b / 4 + 64 * (c % 4), c / 4 + 64 * (d % 4), d / 4 + 64 * (e % 4), e / 4 + 64 * (f % 4), f / 4 + 64 * (g % 4), g / 4 + 64 * (h % 4), h / 4 + 64 * 0] := by
    rw [jn8, jn8]; omega
  rw [h2, hm, and_jn _ _ (by rfl) (by simp; omega) (by simp), and_jn _ _ (by rfl) (by simp; omega) (by simp)]
  simp only [List.zipWith]
  rw [f2_all a (by omega) _ (by omega), f2_all b (by omega) _ (by omega), f2_all c (by omega) _ (by omega), f2_all d (by omega) _ (by omega), f2_all e (by omega) _ (by omega), f2_all f (by omega) _ (by omega), f2_all g (by omega) _ (by omega), f2_all h (by omega) _ (by omega)]
  rw [jn8, jn8, jn8]
  unfold f2
  omega

theorem s3_jn : s3 (jn [a, b, c, d, e, f, g, h]) = jn [f3 (f2 (f1 a)), f3 (f2 (f1 b)), f3 (f2 (f1 c)), f3 (f2 (f1 d)), f3 (f2 (f1 e)), f3 (f2 (f1 f)), f3 (f2 (f1 g)), f3 (f2 (f1 h))] := by
  have hm : (1085102592571150095 : Nat) = jn [15, 15, 15, 15, 15, 15, 15, 15] := by decide
  unfold s3
  rw [s2_jn ha hb hc hd he hf hg hh]
  have la := f2_le a ha
  have lb := f2_le b hb
  have lc := f2_le c hc
  have ld := f2_le d hd
  have le := f2_le e he
  have lf := f2_le f hf
  have lg := f2_le g hg
  have lh := f2_le h hh
  have qa := f3_all a ha
  have qb := f3_all b hb
  have qc := f3_all c hc
  have qd := f3_all d hd
  have qe := f3_all e he
  have qf := f3_all f hf
  have qg := f3_all g hg
  have qh := f3_all h hh
  generalize f2 (f1 a) = a at *
  generalize f2 (f1 b) = b at *
  generalize f2 (f1 c) = c at *
  generalize f2 (f1 d) = d at *
  generalize f2 (f1 e) = e at *
  generalize f2 (f1 f) = f at *
  generalize f2 (f1 g) = g at *
  generalize f2 (f1 h) = h at *
  have h2 : jn [a, b, c, d, e, f, g, h] / 16 + jn [a, b, c, d, e, f, g, h] = jn [a / 16 + 16 * (b % 16) + a, b / 16 + 16 * (c % 16) + b, c / 16 + 16 * (d % 16) + c, d / 16 + 16 * (e % 16) + d, e / 16 + 16 * (f % 16) + e, f / 16 + 16 * (g % 16) + f, g / 16 + 16 * (h % 16) + g, h / 16 + 16 * 0 + h] := by
    rw [jn8, jn8]; omega
  rw [h2, hm, and_jn _ _ (by rfl) (by simp; omega) (by simp)]
  simp only [List.zipWith]
  rw [qa _ (by omega), qb _ (by omega), qc _ (by omega), qd _ (by omega), qe _ (by omega), qf _ (by omega), qg _ (by omega), qh _ (by omega)]
end

theorem jn_of (t : Nat) (h : t < 18446744073709551616) : t = jn [t % 256, t / 256 % 256, t / 65536 % 256, t / 16777216 % 256, t / 4294967296 % 256, t / 1099511627776 % 256, t / 281474976710656 % 256, t / 72057594037927936] := by
  rw [jn8]; omega

theorem pop_jn : ∀ (xs : List Nat), (∀ x ∈ xs, x < 256) → pop (fun i => (jn xs).testBit i) (8 * xs.length) = (xs.map fun b => pop (fun i => b.testBit i) 8).sum
  | [], _ => by simp [pop]
  | x :: xs, h => by
    have hx : x < 2 ^ 8 := h x (by simp)
    have e (y : Nat) : x + 256 * y = 2 ^ 8 * y + x := by omega
    rw [List.length_cons, show 8 * (xs.length + 1) = 8 + 8 * xs.length by omega, pop_add, List.map_cons, List.sum_cons, ← pop_jn xs (fun y hy => h y (by simp [hy]))]
    simp only [jn, e]
    congr 1
    · exact pop_congr fun i hi => by rw [Nat.testBit_two_pow_mul_add _ hx]; simp [hi]
    · exact pop_congr fun i hi => by rw [Nat.testBit_two_pow_mul_add _ hx, if_neg (by omega)]; congr 1; omega

def s4 (x : Nat) : Nat := x + x / 256
def s5 (x : Nat) : Nat := s4 x + s4 x / 65536
def s6 (x : Nat) : Nat := s5 x + s5 x / 4294967296

theorem s1_lt (t : Nat) : s1 t < 18446744073709551616 := by
  unfold s1
  have h1 : t / 2 &&& 6148914691236517205 ≤ 6148914691236517205 := Nat.and_le_right
  have h2 : t &&& 6148914691236517205 ≤ 6148914691236517205 := Nat.and_le_right
  omega
theorem s2_lt (t : Nat) : s2 t ≤ 7378697629483820646 := by
  unfold s2
  have h1 : s1 t / 4 &&& 3689348814741910323 ≤ 3689348814741910323 := Nat.and_le_right
  have h2 : s1 t &&& 3689348814741910323 ≤ 3689348814741910323 := Nat.and_le_right
  omega

theorem s6_pop (t : Nat) (h : t < 18446744073709551616) : s3 t ≤ 1085102592571150095 ∧ s6 (s3 t) % 128 = popc t := by
  refine ⟨Nat.and_le_right, ?_⟩
  have e := jn_of t h
  have hp := pop_jn [t % 256, t / 256 % 256, t / 65536 % 256, t / 16777216 % 256, t / 4294967296 % 256, t / 1099511627776 % 256, t / 281474976710656 % 256, t / 72057594037927936] (by simp; omega)
  unfold popc
  have h0 : t % 256 < 256 := by omega
  have h1 : t / 256 % 256 < 256 := by omega
  have h2 : t / 65536 % 256 < 256 := by omega
  have h3 : t / 16777216 % 256 < 256 := by omega
  have h4 : t / 4294967296 % 256 < 256 := by omega
  have h5 : t / 1099511627776 % 256 < 256 := by omega
  have h6 : t / 281474976710656 % 256 < 256 := by omega
  have h7 : t / 72057594037927936 < 256 := by omega
  generalize t % 256 = a0 at *
  generalize t / 256 % 256 = a1 at *
  generalize t / 65536 % 256 = a2 at *
  generalize t / 16777216 % 256 = a3 at *
  generalize t / 4294967296 % 256 = a4 at *
  generalize t / 1099511627776 % 256 = a5 at *
  generalize t / 281474976710656 % 256 = a6 at *
  generalize t / 72057594037927936 = a7 at *
  subst e
  simp only [List.length_cons, List.length_nil, List.map_cons, List.map_nil, List.sum_cons, List.sum_nil] at hp
  rw [show (64 : Nat) = 8 * (0 + 1 + 1 + 1 + 1 + 1 + 1 + 1 + 1) from rfl, hp, s3_jn h0 h1 h2 h3 h4 h5 h6 h7, f3_pop _ h0, f3_pop _ h1, f3_pop _ h2, f3_pop _ h3, f3_pop _ h4, f3_pop _ h5, f3_pop _ h6, f3_pop _ h7]
  have P0 := pop_le (fun i => a0.testBit i) 8
  have P1 := pop_le (fun i => a1.testBit i) 8
  have P2 := pop_le (fun i => a2.testBit i) 8
  have P3 := pop_le (fun i => a3.testBit i) 8
  have P4 := pop_le (fun i => a4.testBit i) 8
  have P5 := pop_le (fun i => a5.testBit i) 8
  have P6 := pop_le (fun i => a6.testBit i) 8
  have P7 := pop_le (fun i => a7.testBit i) 8
  generalize pop (fun i => a0.testBit i) 8 = p0 at *
  generalize pop (fun i => a1.testBit i) 8 = p1 at *
  generalize pop (fun i => a2.testBit i) 8 = p2 at *
  generalize pop (fun i => a3.testBit i) 8 = p3 at *
  generalize pop (fun i => a4.testBit i) 8 = p4 at *
  generalize pop (fun i => a5.testBit i) 8 = p5 at *
  generalize pop (fun i => a6.testBit i) 8 = p6 at *
  generalize pop (fun i => a7.testBit i) 8 = p7 at *
  have e4 : s4 (jn [p0, p1, p2, p3, p4, p5, p6, p7]) = jn [p0 + p1, p1 + p2, p2 + p3, p3 + p4, p4 + p5, p5 + p6, p6 + p7, p7] := by
    have : jn [p0, p1, p2, p3, p4, p5, p6, p7] / 256 = jn [p1, p2, p3, p4, p5, p6, p7, 0] := by rw [jn8, jn8]; omega
    unfold s4
    rw [this, jn8, jn8, jn8]; omega
  have e5 : s5 (jn [p0, p1, p2, p3, p4, p5, p6, p7]) = jn [p0 + p1 + (p2 + p3), p1 + p2 + (p3 + p4), p2 + p3 + (p4 + p5), p3 + p4 + (p5 + p6), p4 + p5 + (p6 + p7), p5 + p6 + p7, p6 + p7, p7] := by
    unfold s5
    rw [e4]
    have : jn [p0 + p1, p1 + p2, p2 + p3, p3 + p4, p4 + p5, p5 + p6, p6 + p7, p7] / 65536 = jn [p2 + p3, p3 + p4, p4 + p5, p5 + p6, p6 + p7, p7, 0, 0] := by rw [jn8, jn8]; omega
    rw [this, jn8, jn8, jn8]; omega
  unfold s6
  rw [e5]
  have : jn [p0 + p1 + (p2 + p3), p1 + p2 + (p3 + p4), p2 + p3 + (p4 + p5), p3 + p4 + (p5 + p6), p4 + p5 + (p6 + p7), p5 + p6 + p7, p6 + p7, p7] / 4294967296 = jn [p4 + p5 + (p6 + p7), p5 + p6 + p7, p6 + p7, p7, 0, 0, 0, 0] := by rw [jn8, jn8]; omega
  rw [this, jn8, jn8]
  omega

/-! ### as the walk spells it -/
theorem w1 (t : Nat) (h : t < 18446744073709551616) : IntKind.u64.wrap (bits .and .u64 ((t : Int) / 2) 6148914691236517205 + bits .and .u64 (t : Int) 6148914691236517205) = ((s1 t : Nat) : Int) := by
  rw [show (t : Int) / 2 = ((t / 2 : Nat) : Int) by omega, show (6148914691236517205 : Int) = ((6148914691236517205 : Nat) : Int) from rfl, u64_and_nat _ _ (by omega) (by decide), u64_and_nat _ _ h (by decide), IntKind.wrap_u64]
  have := s1_lt t
  unfold s1 at *
  omega
theorem w2 (t : Nat) : IntKind.u64.wrap (bits .and .u64 ((s1 t : Int) / 4) 3689348814741910323 + bits .and .u64 (s1 t : Int) 3689348814741910323) = ((s2 t : Nat) : Int) := by
  have h := s1_lt t
  rw [show (s1 t : Int) / 4 = ((s1 t / 4 : Nat) : Int) by omega, show (3689348814741910323 : Int) = ((3689348814741910323 : Nat) : Int) from rfl, u64_and_nat _ _ (by omega) (by decide), u64_and_nat _ _ h (by decide), IntKind.wrap_u64]
  have := s2_lt t
  unfold s2 at *
  omega
theorem w3 (t : Nat) : bits .and .u64 (IntKind.u64.wrap ((s2 t : Int) / 16 + (s2 t : Int))) 1085102592571150095 = ((s3 t : Nat) : Int) := by
  have h := s2_lt t
  rw [IntKind.wrap_u64, show ((s2 t : Int) / 16 + (s2 t : Int)) % 18446744073709551616 = ((s2 t / 16 + s2 t : Nat) : Int) by omega, show (1085102592571150095 : Int) = ((1085102592571150095 : Nat) : Int) from rfl, u64_and_nat _ _ (by omega) (by decide)]
  rfl
theorem w4 (x : Nat) (h : x ≤ 1085102592571150095) : IntKind.u64.wrap ((x : Int) + (x : Int) / 256) = ((s4 x : Nat) : Int) := by
  rw [IntKind.wrap_u64]; unfold s4; omega
theorem w5 (x : Nat) (h : x ≤ 1085102592571150095) : IntKind.u64.wrap ((s4 x : Int) + (s4 x : Int) / 65536) = ((s5 x : Nat) : Int) := by
  rw [IntKind.wrap_u64]; unfold s5 s4; omega
theorem w6 (x : Nat) (_h : x ≤ 1085102592571150095) : IntKind.u64.wrap ((s5 x : Int) + (s5 x : Int) / 4294967296) = ((s6 x : Nat) : Int) := by
  rw [IntKind.wrap_u64]; unfold s6 s5 s4; omega
theorem and127 (n : Nat) : bits .and .i64 (wrap64 (n : Int)) 127 = ((n % 128 : Nat) : Int) := by
  rw [i64_and127]
  unfold wrap64
  omega
theorem wrap_pow {k : Nat} (hk : k < 64) : IntKind.u64.wrap (2 ^ k) = ((2 ^ k : Nat) : Int) := by
  have hp : 2 ^ k < 2 ^ 64 := Nat.pow_lt_pow_right (by decide) hk
  have e : ((2 : Int) ^ k) = ((2 ^ k : Nat) : Int) := (Int.natCast_pow 2 k).symm
  rw [IntKind.wrap_u64, e]
  generalize 2 ^ k = n at hp
  omega
end Go.Proofs.Ytmabgfdibbidcaa
