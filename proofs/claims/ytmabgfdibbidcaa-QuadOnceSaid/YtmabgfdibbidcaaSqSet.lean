/- Squares as plain lists: which cells live; a cell set; two squares with the same cells are one. -/
import Derived.Test.YtmabgfdibbidcaaSq
namespace Go.Proofs.Ytmabgfdibbidcaa

/-- The act that finds what is there. -/
theorem addL_again {R : Nat} {L : List Sq} {q : Sq} {id : Nat} (h : L.Nodup) (hq : at? L id = some q) : addL R L q = (L, id, 0) := by
  have hm : q ∈ L := by
    cases id with
    | zero => simp [at?] at hq
    | succ k => exact List.mem_of_getElem? hq
  unfold addL
  rw [if_pos hm, at?_inj h (idxOf_at hm) hq]
theorem Made.trans {R : Nat} {L : List Sq} {n m : Nat} {r s : List Sq × Nat × Nat} {p q : Sq} (h1 : Made R L n r p) (_h0 : r.2.2 = 0) (h2 : Made R r.1 m s q) : Made R L (n + m) s q :=
  ⟨h2.wf, h1.ext.trans h2.ext, by have := h1.len; have := h2.len; omega, fun h => h2.room (h1.room h), fun h => h2.fits (by have := h1.len; omega), h2.good, h2.bad⟩
theorem Made.more {R : Nat} {L : List Sq} {n m : Nat} {r : List Sq × Nat × Nat} {q : Sq} (h : Made R L n r q) (hm : n ≤ m) : Made R L m r q :=
  ⟨h.wf, h.ext, by have := h.len; omega, h.room, fun h' => h.fits (by omega), h.good, h.bad⟩

/-- The square's four are of the level below. -/
theorem WF.kid {L : List Sq} (h : WF L) {k n : Nat} {q : Sq} (hq : at? L k = some q) (hl : q.lv = n + 1 + 3) (i : Nat) : ∃ r, at? L (kidOf q i) = some r ∧ r.lv = n + 3 := by
  rcases h.at hq with h' | ⟨_, _, _, h4, h5, h6, h7⟩
  · omega
  · have key : ∀ j, KidOK L (k - 1) q.lv j → ∃ r, at? L j = some r ∧ r.lv = n + 3 := fun j hj => by
      obtain ⟨r, h1, h2⟩ := hj.2
      exact ⟨r, h1, by omega⟩
    match i with
    | 0 => exact key _ h4
    | 1 => exact key _ h5
    | 2 => exact key _ h6
    | _ + 3 => exact key _ h7
/-- .. and come ahead of it. -/
theorem WF.kid_lt {L : List Sq} (h : WF L) {k n : Nat} {q : Sq} (hq : at? L k = some q) (hl : q.lv = n + 1 + 3) (i : Nat) : kidOf q i < k := by
  have := at?_pos hq
  rcases h.at hq with h' | ⟨_, _, _, h4, h5, h6, h7⟩
  · omega
  · match i with
    | 0 => have := h4.1; show q.ka < k; omega
    | 1 => have := h5.1; show q.kb < k; omega
    | 2 => have := h6.1; show q.kc < k; omega
    | _ + 3 => have := h7.1; show q.kd < k; omega
theorem WF.tile {L : List Sq} (h : WF L) {k : Nat} {q : Sq} (hq : at? L k = some q) (hl : q.lv = 3) : q = leafSq q.tl ∧ q.tl < 18446744073709551616 := by
  rcases h.at hq with h' | h'
  · exact ⟨Sq.eq h'.1 rfl h'.2.2.1 h'.2.2.2.1 h'.2.2.2.2.1 h'.2.2.2.2.2, h'.2.1⟩
  · omega
theorem WF.node {L : List Sq} (h : WF L) {k n : Nat} {q : Sq} (hq : at? L k = some q) (hl : q.lv = n + 1 + 3) : q = nodeSq (n + 1 + 3) q.ka q.kb q.kc q.kd := by
  rcases h.at hq with h' | h'
  · omega
  · exact Sq.eq hl h'.2.2.1 rfl rfl rfl rfl

/-- Does a cell of a square of level n + 3 live? -/
def alv (L : List Sq) : Nat → Nat → Nat → Nat → Bool
  | 0, id, x, y => match at? L id with
    | some q => q.tl.testBit (8 * y + x)
    | none => false
  | n + 1, id, x, y => match at? L id with
    | some q => alv L n (kidOf q (x / 2 ^ (n + 3) + 2 * (y / 2 ^ (n + 3)))) (x % 2 ^ (n + 3)) (y % 2 ^ (n + 3))
    | none => false
theorem alv_leaf {L : List Sq} {id : Nat} {q : Sq} (h : at? L id = some q) (x y : Nat) : alv L 0 id x y = q.tl.testBit (8 * y + x) := by simp [alv, h]
theorem alv_node {L : List Sq} {id : Nat} {q : Sq} (h : at? L id = some q) (n x y : Nat) : alv L (n + 1) id x y = alv L n (kidOf q (x / 2 ^ (n + 3) + 2 * (y / 2 ^ (n + 3)))) (x % 2 ^ (n + 3)) (y % 2 ^ (n + 3)) := by simp [alv, h]
theorem alv_ext {L M : List Sq} (h : WF L) (hx : Ext L M) : ∀ (n id : Nat) (q : Sq) (x y : Nat), at? L id = some q → q.lv = n + 3 → alv M n id x y = alv L n id x y
  | 0, id, q, x, y, hq, _ => by rw [alv_leaf hq, alv_leaf (hx.at hq)]
  | n + 1, id, q, x, y, hq, hl => by
    rw [alv_node hq, alv_node (hx.at hq)]
    obtain ⟨r, h1, h2⟩ := h.kid hq hl (x / 2 ^ (n + 3) + 2 * (y / 2 ^ (n + 3)))
    exact alv_ext h hx n _ r _ _ h1 h2

theorem two_pow_succ (n : Nat) : 2 ^ (n + 1 + 3) = 2 * 2 ^ (n + 3) := by rw [show n + 1 + 3 = (n + 3) + 1 by omega, Nat.pow_succ]; omega
theorem half_pos (n : Nat) : 0 < 2 ^ (n + 3) := Nat.pow_pos (by decide)
theorem div_half {n x : Nat} (h : x < 2 ^ (n + 1 + 3)) : x / 2 ^ (n + 3) < 2 := Nat.div_lt_of_lt_mul (by rw [two_pow_succ] at h; omega)
theorem mod_half (n x : Nat) : x % 2 ^ (n + 3) < 2 ^ (n + 3) := Nat.mod_lt _ (half_pos n)

/-- Two squares of a level that have the same cells are one. -/
theorem same_cells {L : List Sq} (h : WF L) : ∀ (n i k : Nat) (p q : Sq), at? L i = some p → at? L k = some q → p.lv = n + 3 → q.lv = n + 3 →
    (∀ x y, x < 2 ^ (n + 3) → y < 2 ^ (n + 3) → alv L n i x y = alv L n k x y) → i = k
  | 0, i, k, p, q, hp, hq, lp, lq, hc => by
    obtain ⟨e1, b1⟩ := h.tile hp lp
    obtain ⟨e2, b2⟩ := h.tile hq lq
    have e : p.tl = q.tl := by
      refine eq_of_bits (n := 64) b1 b2 fun j hj => ?_
      have := hc (j % 8) (j / 8) (by omega) (by omega)
      rw [alv_leaf hp, alv_leaf hq, show 8 * (j / 8) + j % 8 = j by omega] at this
      exact this
    rw [e, ← e2] at e1
    rw [e1] at hp
    exact at?_inj h.nodup hp hq
  | n + 1, i, k, p, q, hp, hq, lp, lq, hc => by
    have hpos := half_pos n
    have key : ∀ bx by', bx < 2 → by' < 2 → kidOf p (bx + 2 * by') = kidOf q (bx + 2 * by') := by
      intro bx by' hbx hby
      obtain ⟨r, r1, r2⟩ := h.kid hp lp (bx + 2 * by')
      obtain ⟨s, s1, s2⟩ := h.kid hq lq (bx + 2 * by')
      refine same_cells h n _ _ r s r1 s1 r2 s2 fun x y hx hy => ?_
      have lim : ∀ b z, b < 2 → z < 2 ^ (n + 3) → z + b * 2 ^ (n + 3) < 2 ^ (n + 1 + 3) := fun b z hb hz => by
        rw [two_pow_succ]
        have : b * 2 ^ (n + 3) ≤ 1 * 2 ^ (n + 3) := Nat.mul_le_mul_right _ (by omega)
        omega
      have := hc (x + bx * 2 ^ (n + 3)) (y + by' * 2 ^ (n + 3)) (lim _ _ hbx hx) (lim _ _ hby hy)
      rw [alv_node hp, alv_node hq] at this
      simp only [Nat.add_mul_div_right _ _ hpos, Nat.add_mul_mod_self_right, Nat.div_eq_of_lt hx, Nat.div_eq_of_lt hy, Nat.mod_eq_of_lt hx, Nat.mod_eq_of_lt hy, Nat.zero_add] at this
      exact this
    have k0 : p.ka = q.ka := key 0 0 (by omega) (by omega)
    have k1 : p.kb = q.kb := key 1 0 (by omega) (by omega)
    have k2 : p.kc = q.kc := key 0 1 (by omega) (by omega)
    have k3 : p.kd = q.kd := key 1 1 (by omega) (by omega)
    have e1 := h.node hp lp
    rw [k0, k1, k2, k3, ← h.node hq lq] at e1
    rw [e1] at hp
    exact at?_inj h.nodup hp hq

theorem tsetN_lt (t x y : Nat) (v : Bool) : tsetN t x y v < 18446744073709551616 := mk_lt _ 64
theorem tsetN_bit (t x y : Nat) (v : Bool) (i : Nat) (hi : i < 64) : (tsetN t x y v).testBit i = if i = 8 * y + x then v else t.testBit i := by
  unfold tsetN
  rw [testBit_mk]
  simp [hi]
theorem pop_one (f g : Nat → Bool) (k : Nat) (h : ∀ i, i ≠ k → g i = f i) : ∀ n, pop g n ≤ pop f n + (if k < n then 1 else 0)
  | 0 => by simp [pop]
  | n + 1 => by
    have ih := pop_one f g k h n
    simp only [pop]
    by_cases e : n = k
    · subst e
      simp at ih ⊢
      split <;> split <;> omega
    · rw [h n e]
      by_cases hk : k < n
      · simp only [hk, if_true, show k < n + 1 by omega] at ih ⊢
        omega
      · simp only [hk, if_false, show ¬ k < n + 1 by omega] at ih ⊢
        omega
theorem tsetN_pop (t x y : Nat) (v : Bool) : popc (tsetN t x y v) ≤ popc t + 1 := by
  unfold popc
  have h := pop_one (fun i => t.testBit i) (fun i => if i = 8 * y + x then v else t.testBit i) (8 * y + x) (fun i hi => by simp [hi]) 64
  have e : pop (fun i => (tsetN t x y v).testBit i) 64 = pop (fun i => if i = 8 * y + x then v else t.testBit i) 64 := pop_congr fun i hi => by rw [tsetN_bit _ _ _ _ _ hi]
  rw [e]
  split at h <;> omega

/-- A cell set: what becomes of it. -/
structure SetOK (R : Nat) (L : List Sq) (n id x y : Nat) (v : Bool) (r : List Sq × Nat × Nat) (q : Sq) : Prop where
  made : Made R L (n + 1) r q
  lv : q.lv = n + 3
  cells : r.2.2 = 0 → ∀ x' y', x' < 2 ^ (n + 3) → y' < 2 ^ (n + 3) → alv r.1 n r.2.1 x' y' = if x' = x ∧ y' = y then v else alv L n id x' y'
  cnt : r.2.2 = 0 → cnt r.1 r.2.1 ≤ cnt L id + 1

theorem div_mod_eq {h x x' : Nat} : x' = x ↔ x' / h = x / h ∧ x' % h = x % h := by
  constructor
  · rintro rfl; exact ⟨rfl, rfl⟩
  · rintro ⟨h1, h2⟩
    have a := Nat.div_add_mod x h
    have b := Nat.div_add_mod x' h
    rw [h1, h2] at b
    omega
theorem two_eq {a b c d : Nat} (ha : a < 2) (hb : b < 2) (hc : c < 2) (hd : d < 2) (h : a + 2 * b = c + 2 * d) : c = a ∧ d = b := by omega
theorem kidOf_node (lv a b c d i : Nat) : kidOf (nodeSq lv a b c d) i = if i = 0 then a else if i = 1 then b else if i = 2 then c else d := by
  match i with
  | 0 => rfl
  | 1 => rfl
  | 2 => rfl
  | _ + 3 => rfl

theorem setL_spec (R : Nat) : ∀ (n : Nat) (L : List Sq) (id : Nat) (q : Sq) (x y : Nat) (v : Bool), WF L → at? L id = some q → q.lv = n + 3 → x < 2 ^ (n + 3) → y < 2 ^ (n + 3) →
    ∃ q', SetOK R L n id x y v (setL R n L id x y v) q'
  | 0, L, id, q, x, y, v, h, hq, hl, hx, hy => by
    have e : setL R 0 L id x y v = leafL R L (tsetN q.tl x y v) := by simp [setL, hq]
    rw [e]
    have hm := leafL_made (R := R) h (tsetN_lt q.tl x y v)
    refine ⟨leafSq (tsetN q.tl x y v), hm, rfl, fun h0 x' y' hx' hy' => ?_, fun h0 => ?_⟩
    · rw [alv_leaf (hm.good h0), alv_leaf hq]
      have hx8 : x < 8 := hx
      have hx8' : x' < 8 := hx'
      have hy8' : y' < 8 := hy'
      show (tsetN q.tl x y v).testBit _ = _
      rw [tsetN_bit _ _ _ _ _ (by omega)]
      by_cases h1 : x' = x ∧ y' = y
      · rw [if_pos h1, if_pos (by omega)]
      · rw [if_neg h1, if_neg (by omega)]
    · rw [cnt_leaf (hm.good h0) rfl, cnt_leaf hq hl]
      exact tsetN_pop _ _ _ _
  | n + 1, L, id, q, x, y, v, h, hq, hl, hx, hy => by
    have hdx := div_half hx
    have hdy := div_half hy
    obtain ⟨i, hi⟩ : ∃ i, i = x / 2 ^ (n + 3) + 2 * (y / 2 ^ (n + 3)) := ⟨_, rfl⟩
    have hi4 : i < 4 := by omega
    obtain ⟨r, hr⟩ : ∃ r, r = setL R n L (kidOf q i) (x % 2 ^ (n + 3)) (y % 2 ^ (n + 3)) v := ⟨_, rfl⟩
    obtain ⟨qk, k1, k2⟩ := h.kid hq hl i
    obtain ⟨q1, s1⟩ := setL_spec R n L (kidOf q i) qk (x % 2 ^ (n + 3)) (y % 2 ^ (n + 3)) v h k1 k2 (mod_half n x) (mod_half n y)
    rw [← hr] at s1
    have hM := s1.made
    have e : setL R (n + 1) L id x y v = if r.2.2 = 0 then nodeL R r.1 (if i = 0 then r.2.1 else q.ka) (if i = 1 then r.2.1 else q.kb) (if i = 2 then r.2.1 else q.kc) (if i = 3 then r.2.1 else q.kd) else (r.1, 0, r.2.2) := by
      simp only [setL, hq]
      rw [← hi, ← hr]
    rw [e]
    have hlv := (h.lv hq).2
    by_cases h0 : r.2.2 = 0
    · rw [if_pos h0]
      have hg := hM.good h0
      have at4 : ∀ (j k : Nat), (∃ p, at? L k = some p ∧ p.lv = n + 3) → ∃ p, at? r.1 (if i = j then r.2.1 else k) = some p ∧ p.lv = n + 3 := fun j k hk => by
        by_cases e : i = j
        · rw [if_pos e]; exact ⟨q1, hg, s1.lv⟩
        · rw [if_neg e]; obtain ⟨p, p1, p2⟩ := hk; exact ⟨p, hM.ext.at p1, p2⟩
      obtain ⟨pa, a1, a2⟩ := at4 0 q.ka (h.kid hq hl 0)
      obtain ⟨pb, b1, b2⟩ := at4 1 q.kb (h.kid hq hl 1)
      obtain ⟨pc, c1, c2⟩ := at4 2 q.kc (h.kid hq hl 2)
      obtain ⟨pd, d1, d2⟩ := at4 3 q.kd (h.kid hq hl 3)
      have hN := nodeL_made (R := R) hM.wf a1 b1 c1 d1 a2 b2 c2 d2 (by omega)
      have hall := hM.trans h0 hN
      refine ⟨_, hall.more (by omega), by show n + 3 + 1 = _; omega, fun h00 x' y' hx' hy' => ?_, fun h00 => ?_⟩
      · have hdx' := div_half hx'
        have hdy' := div_half hy'
        rw [alv_node (hN.good h00), alv_node hq, kidOf_node]
        have kid_eq : (if x' / 2 ^ (n + 3) + 2 * (y' / 2 ^ (n + 3)) = 0 then (if i = 0 then r.2.1 else q.ka) else if x' / 2 ^ (n + 3) + 2 * (y' / 2 ^ (n + 3)) = 1 then (if i = 1 then r.2.1 else q.kb) else if x' / 2 ^ (n + 3) + 2 * (y' / 2 ^ (n + 3)) = 2 then (if i = 2 then r.2.1 else q.kc) else (if i = 3 then r.2.1 else q.kd)) = if i = x' / 2 ^ (n + 3) + 2 * (y' / 2 ^ (n + 3)) then r.2.1 else kidOf q (x' / 2 ^ (n + 3) + 2 * (y' / 2 ^ (n + 3))) := by
          generalize hj : x' / 2 ^ (n + 3) + 2 * (y' / 2 ^ (n + 3)) = j
          have : j < 4 := by omega
          match j, this with
          | 0, _ => simp [kidOf]
          | 1, _ => simp [kidOf]
          | 2, _ => simp [kidOf]
          | 3, _ => simp [kidOf]
        rw [kid_eq]
        by_cases hj : i = x' / 2 ^ (n + 3) + 2 * (y' / 2 ^ (n + 3))
        · rw [if_pos hj, ← hj, alv_ext hM.wf hN.ext n _ q1 _ _ hg s1.lv, s1.cells h0 _ _ (mod_half _ _) (mod_half _ _)]
          have ex := div_mod_eq (h := 2 ^ (n + 3)) (x := x) (x' := x')
          have ey := div_mod_eq (h := 2 ^ (n + 3)) (x := y) (x' := y')
          have hd : x' / 2 ^ (n + 3) = x / 2 ^ (n + 3) ∧ y' / 2 ^ (n + 3) = y / 2 ^ (n + 3) := two_eq hdx hdy hdx' hdy' (hi.symm.trans hj)
          by_cases hb : x' % 2 ^ (n + 3) = x % 2 ^ (n + 3) ∧ y' % 2 ^ (n + 3) = y % 2 ^ (n + 3)
          · rw [if_pos hb, if_pos ⟨ex.2 ⟨hd.1, hb.1⟩, ey.2 ⟨hd.2, hb.2⟩⟩]
          · rw [if_neg hb, if_neg (fun hh => hb ⟨(ex.1 hh.1).2, (ey.1 hh.2).2⟩)]
        · rw [if_neg hj]
          obtain ⟨p, p1, p2⟩ := h.kid hq hl (x' / 2 ^ (n + 3) + 2 * (y' / 2 ^ (n + 3)))
          rw [alv_ext h (hM.ext.trans hN.ext) n _ p _ _ p1 p2, if_neg]
          rintro ⟨rfl, rfl⟩
          exact hj hi
      · rw [cnt_node hN.wf (hN.good h00) (by show n + 3 + 1 ≠ 3; omega), cnt_node h hq (by omega)]
        have hc := s1.cnt h0
        have ck : ∀ j k, (∃ p, at? L k = some p ∧ p.lv = n + 3) → (i = j → k = kidOf q i) → Go.Proofs.Ytmabgfdibbidcaa.cnt (nodeL R r.1 (if i = 0 then r.2.1 else q.ka) (if i = 1 then r.2.1 else q.kb) (if i = 2 then r.2.1 else q.kc) (if i = 3 then r.2.1 else q.kd)).1 (if i = j then r.2.1 else k) ≤ Go.Proofs.Ytmabgfdibbidcaa.cnt L k + if i = j then 1 else 0 := fun j k hk he => by
          by_cases e : i = j
          · rw [if_pos e, if_pos e, cnt_ext hN.ext hg, he e]; exact hc
          · obtain ⟨p, p1, p2⟩ := hk
            rw [if_neg e, if_neg e, cnt_ext (hM.ext.trans hN.ext) p1]
            omega
        have m0 := ck 0 q.ka (h.kid hq hl 0) (fun e => by rw [e]; rfl)
        have m1 := ck 1 q.kb (h.kid hq hl 1) (fun e => by rw [e]; rfl)
        have m2 := ck 2 q.kc (h.kid hq hl 2) (fun e => by rw [e]; rfl)
        have m3 := ck 3 q.kd (h.kid hq hl 3) (fun e => by rw [e]; rfl)
        simp only [nodeSq]
        rw [sat4_eq, sat4_eq]
        by_cases i0 : i = 0
        · simp only [i0] at m0 m1 m2 m3 ⊢; simp at m0 m1 m2 m3 ⊢; omega
        · by_cases i1 : i = 1
          · simp only [i1] at m0 m1 m2 m3 ⊢; simp at m0 m1 m2 m3 ⊢; omega
          · by_cases i2 : i = 2
            · simp only [i2] at m0 m1 m2 m3 ⊢; simp at m0 m1 m2 m3 ⊢; omega
            · have i3 : i = 3 := by omega
              simp only [i3] at m0 m1 m2 m3 ⊢; simp at m0 m1 m2 m3 ⊢; omega
    · rw [if_neg h0]
      have hb := hM.bad h0
      exact ⟨nodeSq (n + 1 + 3) 0 0 0 0, ⟨hM.wf, hM.ext, by have := hM.len; show r.1.length ≤ _; omega, hM.room, fun hh => absurd (hM.fits (by omega)) h0, fun hh => absurd hh h0, fun _ => ⟨hb.1, rfl⟩⟩, rfl, fun hh => absurd hh h0, fun hh => absurd hh h0⟩

/-! ### the empty square of a level -/
theorem emptyL_spec (R : Nat) (L : List Sq) (h : WF L) : ∀ n, n ≤ 37 → ∃ q, Made R L (n + 1) (emptyL R L n) q ∧ q.lv = n + 3 ∧
    ((emptyL R L n).2.2 = 0 → (∀ x y, alv (emptyL R L n).1 n (emptyL R L n).2.1 x y = false) ∧ cnt (emptyL R L n).1 (emptyL R L n).2.1 = 0)
  | 0, _ => by
    have hm := leafL_made (R := R) (t := 0) h (by omega)
    refine ⟨leafSq 0, hm, rfl, fun h0 => ⟨fun x y => ?_, ?_⟩⟩
    · show alv (leafL R L 0).1 0 (leafL R L 0).2.1 x y = _
      rw [alv_leaf (hm.good h0)]; simp [leafSq]
    · show cnt (leafL R L 0).1 (leafL R L 0).2.1 = _
      rw [cnt_leaf (hm.good h0) rfl]; decide +kernel
  | n + 1, hn => by
    obtain ⟨q, hm, hl, hc⟩ := emptyL_spec R L h n (by omega)
    unfold emptyL
    generalize emptyL R L n = r at hm hc ⊢
    by_cases h0 : r.2.2 = 0
    · rw [if_pos h0]
      have hg := hm.good h0
      have hN := nodeL_made (R := R) hm.wf hg hg hg hg hl hl hl hl (by omega)
      refine ⟨_, hm.trans h0 hN, by show n + 3 + 1 = _; omega, fun h00 => ⟨fun x y => ?_, ?_⟩⟩
      · rw [alv_node (hN.good h00), kidOf_node]
        simp only [ite_self]
        rw [alv_ext hm.wf hN.ext n _ q _ _ hg hl]
        exact (hc h0).1 _ _
      · rw [cnt_node hN.wf (hN.good h00) (by show n + 3 + 1 ≠ 3; omega)]
        simp only [nodeSq]
        rw [cnt_ext hN.ext hg, (hc h0).2]
        decide
    · rw [if_neg h0]
      have hb := hm.bad h0
      exact ⟨nodeSq (n + 1 + 3) 0 0 0 0, ⟨hm.wf, hm.ext, by have := hm.len; omega, hm.room, fun hh => absurd (hm.fits (by omega)) h0, fun hh => absurd hh h0, fun _ => hb⟩, rfl, fun hh => absurd hh h0⟩

/-- The empty square asked again. -/
theorem emptyL_again (R : Nat) (L : List Sq) (h : WF L) : ∀ n, n ≤ 37 → (emptyL R L n).2.2 = 0 → ∀ M, WF M → Ext (emptyL R L n).1 M → emptyL R M n = (M, (emptyL R L n).2.1, 0)
  | 0, _, h0, M, hM, hx => by
    have hm := leafL_made (R := R) (t := 0) h (by omega)
    exact addL_again hM.nodup (hx.at (hm.good h0))
  | n + 1, hn, h0, M, hM, hx => by
    obtain ⟨q, hm, hl, _⟩ := emptyL_spec R L h n (by omega)
    have ih := emptyL_again R L h n (by omega)
    unfold emptyL at h0 hx ⊢
    generalize emptyL R L n = r at hm ih h0 hx ⊢
    by_cases h1 : r.2.2 = 0
    · rw [if_pos h1] at h0 hx ⊢
      have hg := hm.good h1
      have hN := nodeL_made (R := R) hm.wf hg hg hg hg hl hl hl hl (by omega)
      rw [ih h1 M hM (hN.ext.trans hx)]
      have hgM := (hN.ext.trans hx).at hg
      show (if 0 = 0 then nodeL R M r.2.1 r.2.1 r.2.1 r.2.1 else _) = _
      rw [if_pos rfl, nodeL_eq hgM hgM hgM hgM hl hl hl hl (by omega)]
      exact addL_again hM.nodup (hx.at (hN.good h0))
    · rw [if_neg h1] at h0
      exact absurd h0 h1
end Go.Proofs.Ytmabgfdibbidcaa
