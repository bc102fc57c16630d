/- Squares as plain lists: what a store has, and what its acts make of it: no program in sight. -/
import Derived.Test.YtmabgfdibbidcaaBits
namespace Go.Proofs.Ytmabgfdibbidcaa

/-- A square: its level, its tile, its four squares. -/
structure Sq where
  lv : Nat
  tl : Nat
  ka : Nat
  kb : Nat
  kc : Nat
  kd : Nat

theorem Sq.eq {p q : Sq} (h1 : p.lv = q.lv) (h2 : p.tl = q.tl) (h3 : p.ka = q.ka) (h4 : p.kb = q.kb) (h5 : p.kc = q.kc) (h6 : p.kd = q.kd) : p = q := by
  cases p; cases q; simp at h1 h2 h3 h4 h5 h6; subst h1 h2 h3 h4 h5 h6; rfl
instance : DecidableEq Sq := fun p q =>
  if h : p.lv = q.lv ∧ p.tl = q.tl ∧ p.ka = q.ka ∧ p.kb = q.kb ∧ p.kc = q.kc ∧ p.kd = q.kd then isTrue (Sq.eq h.1 h.2.1 h.2.2.1 h.2.2.2.1 h.2.2.2.2.1 h.2.2.2.2.2)
  else isFalse (fun e => h (by subst e; simp))

def leafSq (t : Nat) : Sq := ⟨3, t, 0, 0, 0, 0⟩
def nodeSq (lv a b c d : Nat) : Sq := ⟨lv, 0, a, b, c, d⟩

/-- The square of a number, from 1 on. -/
def at? (L : List Sq) : Nat → Option Sq
  | 0 => none
  | k + 1 => L[k]?
theorem at?_pos {L : List Sq} {k : Nat} {q : Sq} (h : at? L k = some q) : 1 ≤ k := by
  cases k with
  | zero => simp [at?] at h
  | succ k => omega
theorem at?_le {L : List Sq} {k : Nat} {q : Sq} (h : at? L k = some q) : k ≤ L.length := by
  cases k with
  | zero => simp [at?] at h
  | succ k => obtain ⟨h1, _⟩ := List.getElem?_eq_some_iff.1 h; omega
theorem at?_some {L : List Sq} {k : Nat} (h1 : 1 ≤ k) (h2 : k ≤ L.length) : ∃ q, at? L k = some q := by
  obtain ⟨j, rfl⟩ : ∃ j, k = j + 1 := ⟨k - 1, by omega⟩
  exact ⟨L[j], List.getElem?_eq_getElem (by omega)⟩
theorem at?_none {L : List Sq} {k : Nat} (h : k = 0 ∨ L.length < k) : at? L k = none := by
  cases k with
  | zero => rfl
  | succ k => exact List.getElem?_eq_none (by omega)
theorem at?_app {L : List Sq} {k : Nat} {q : Sq} (h : at? L k = some q) (t : List Sq) : at? (L ++ t) k = some q := by
  have hl := at?_le h
  cases k with
  | zero => simp [at?] at h
  | succ k => show (L ++ t)[k]? = _; rw [List.getElem?_append_left (by omega)]; exact h
theorem at?_new (L : List Sq) (q : Sq) : at? (L ++ [q]) (L.length + 1) = some q := by
  show (L ++ [q])[L.length]? = _; simp
theorem nodup_inj {L : List Sq} (h : L.Nodup) {i k : Nat} (hi : i < L.length) (hk : k < L.length) (e : L[i] = L[k]) : i = k := by
  rcases Nat.lt_trichotomy i k with h1 | h1 | h1
  · exact absurd e (List.pairwise_iff_getElem.1 h i k hi hk h1)
  · exact h1
  · exact absurd e.symm (List.pairwise_iff_getElem.1 h k i hk hi h1)
theorem at?_inj {L : List Sq} (hn : L.Nodup) {i k : Nat} {q : Sq} (h1 : at? L i = some q) (h2 : at? L k = some q) : i = k := by
  cases i with
  | zero => simp [at?] at h1
  | succ i =>
    cases k with
    | zero => simp [at?] at h2
    | succ k =>
      obtain ⟨a1, a2⟩ := List.getElem?_eq_some_iff.1 h1
      obtain ⟨b1, b2⟩ := List.getElem?_eq_some_iff.1 h2
      have := nodup_inj hn a1 b1 (a2.trans b2.symm)
      omega

/-- L' is L, and more. -/
def Ext (L L' : List Sq) : Prop := ∃ t, L' = L ++ t
theorem Ext.refl (L : List Sq) : Ext L L := ⟨[], by simp⟩
theorem Ext.trans {L M K : List Sq} (h1 : Ext L M) (h2 : Ext M K) : Ext L K := by
  obtain ⟨t, rfl⟩ := h1
  obtain ⟨u, rfl⟩ := h2
  exact ⟨t ++ u, by simp⟩
theorem Ext.at {L M : List Sq} (h : Ext L M) {k : Nat} {q : Sq} (hq : at? L k = some q) : at? M k = some q := by
  obtain ⟨t, rfl⟩ := h
  exact at?_app hq t
theorem Ext.len {L M : List Sq} (h : Ext L M) : L.length ≤ M.length := by
  obtain ⟨t, rfl⟩ := h
  simp

/-! ### how many cells live -/
def sat (n m : Nat) : Nat := n + min m (4611686018427387904 - n)
def cntQ (M : List Nat) (q : Sq) : Nat :=
  if q.lv = 3 then popc q.tl else sat (sat (sat (sat 0 (M.getD (q.ka - 1) 0)) (M.getD (q.kb - 1) 0)) (M.getD (q.kc - 1) 0)) (M.getD (q.kd - 1) 0)
def cstep (M : List Nat) (q : Sq) : List Nat := M ++ [cntQ M q]
def counts (L : List Sq) : List Nat := L.foldl cstep []
theorem counts_snoc (L : List Sq) (q : Sq) : counts (L ++ [q]) = counts L ++ [cntQ (counts L) q] := by simp [counts, cstep]
theorem cfold_len : ∀ (L : List Sq) (M : List Nat), (L.foldl cstep M).length = M.length + L.length
  | [], M => rfl
  | q :: t, M => by
    simp only [List.foldl_cons, List.length_cons]
    rw [cfold_len t]
    simp [cstep]
    omega
theorem counts_len (L : List Sq) : (counts L).length = L.length := by simp [counts, cfold_len]
theorem cfold_keep : ∀ (L : List Sq) (M : List Nat) (i : Nat), i < M.length → (L.foldl cstep M)[i]? = M[i]?
  | [], M, i, _ => rfl
  | q :: t, M, i, h => by
    rw [List.foldl_cons, cfold_keep t _ i (by simp [cstep]; omega)]
    unfold cstep
    rw [List.getElem?_append_left h]
theorem counts_app (L t : List Sq) (i : Nat) (h : i < L.length) : (counts (L ++ t))[i]? = (counts L)[i]? := by
  unfold counts
  rw [List.foldl_append]
  exact cfold_keep t _ i (by rw [cfold_len]; simpa using h)
/-- How many cells of a square live. -/
def cnt (L : List Sq) (k : Nat) : Nat := (counts L).getD (k - 1) 0
theorem cnt_ext {L M : List Sq} (h : Ext L M) {k : Nat} {q : Sq} (hq : at? L k = some q) : cnt M k = cnt L k := by
  have h1 := at?_pos hq
  have h2 := at?_le hq
  obtain ⟨t, rfl⟩ := h
  unfold cnt
  rw [List.getD_eq_getElem?_getD, List.getD_eq_getElem?_getD, counts_app L t _ (by omega)]
theorem cnt_get {L : List Sq} {k : Nat} {q : Sq} (hq : at? L k = some q) : (counts L)[k - 1]? = some (cnt L k) := by
  have h1 := at?_pos hq
  have h2 := at?_le hq
  unfold cnt
  rw [List.getD_eq_getElem?_getD, List.getElem?_eq_getElem (by rw [counts_len]; omega)]
  rfl

theorem sat_le (n m : Nat) (h : n ≤ 4611686018427387904) : sat n m ≤ 4611686018427387904 := by unfold sat; omega
theorem sat_eq (n m : Nat) (h : n ≤ 4611686018427387904) : sat n m = min (n + m) 4611686018427387904 := by unfold sat; omega
def sat4 (a b c d : Nat) : Nat := sat (sat (sat (sat 0 a) b) c) d
theorem sat4_eq (a b c d : Nat) : sat4 a b c d = min (a + b + c + d) 4611686018427387904 := by
  unfold sat4
  rw [sat_eq _ _ (sat_le _ _ (sat_le _ _ (sat_le _ _ (by omega)))), sat_eq _ _ (sat_le _ _ (sat_le _ _ (by omega))), sat_eq _ _ (sat_le _ _ (by omega)), sat_eq _ _ (by omega)]
  omega

/-! ### squares that may be -/
def KidOK (L : List Sq) (i lv k : Nat) : Prop := k ≤ i ∧ ∃ r, at? L k = some r ∧ r.lv + 1 = lv
def SqOK (L : List Sq) (i : Nat) (q : Sq) : Prop :=
  (q.lv = 3 ∧ q.tl < 18446744073709551616 ∧ q.ka = 0 ∧ q.kb = 0 ∧ q.kc = 0 ∧ q.kd = 0) ∨
  (4 ≤ q.lv ∧ q.lv ≤ 40 ∧ q.tl = 0 ∧ KidOK L i q.lv q.ka ∧ KidOK L i q.lv q.kb ∧ KidOK L i q.lv q.kc ∧ KidOK L i q.lv q.kd)
structure WF (L : List Sq) : Prop where
  nodup : L.Nodup
  ok : ∀ i q, L[i]? = some q → SqOK L i q
theorem KidOK.ext {L M : List Sq} (h : Ext L M) {i lv k : Nat} (hk : KidOK L i lv k) : KidOK M i lv k :=
  ⟨hk.1, let ⟨r, h1, h2⟩ := hk.2; ⟨r, h.at h1, h2⟩⟩
theorem SqOK.ext {L M : List Sq} (h : Ext L M) {i : Nat} {q : Sq} (hq : SqOK L i q) : SqOK M i q := by
  rcases hq with hq | ⟨h1, h2, h3, h4, h5, h6, h7⟩
  · exact .inl hq
  · exact .inr ⟨h1, h2, h3, h4.ext h, h5.ext h, h6.ext h, h7.ext h⟩
theorem WF.nil : WF [] := ⟨by simp, by simp⟩
theorem WF.snoc {L : List Sq} (h : WF L) {q : Sq} (hq : SqOK L L.length q) (hn : q ∉ L) : WF (L ++ [q]) := by
  refine ⟨?_, ?_⟩
  · rw [List.nodup_append]
    refine ⟨h.nodup, by simp, ?_⟩
    intro a ha b hb e
    simp at hb
    subst hb
    subst e
    exact hn ha
  · intro i r hr
    have hx : Ext L (L ++ [q]) := ⟨[q], rfl⟩
    by_cases hi : i < L.length
    · rw [List.getElem?_append_left hi] at hr
      exact (h.ok i r hr).ext hx
    · have hi2 : i = L.length := by
        have := (List.getElem?_eq_some_iff.1 hr).1
        simp at this
        omega
      subst hi2
      simp at hr
      subst hr
      exact hq.ext hx
theorem WF.at {L : List Sq} (h : WF L) {k : Nat} {q : Sq} (hq : at? L k = some q) : SqOK L (k - 1) q := by
  cases k with
  | zero => simp [at?] at hq
  | succ k => exact h.ok k q hq
theorem WF.lv {L : List Sq} (h : WF L) {k : Nat} {q : Sq} (hq : at? L k = some q) : 3 ≤ q.lv ∧ q.lv ≤ 40 := by
  rcases h.at hq with h | h
  · omega
  · omega

theorem counts_take (L : List Sq) (i : Nat) (q : Sq) (h : L[i]? = some q) : (counts L)[i]? = some (cntQ (counts (L.take i)) q) := by
  obtain ⟨h1, h2⟩ := List.getElem?_eq_some_iff.1 h
  have e : L = L.take i ++ [q] ++ L.drop (i + 1) := by
    rw [← h2, List.append_assoc, List.singleton_append, List.getElem_cons_drop, List.take_append_drop]
  have hl : (L.take i).length = i := by simp; omega
  rw [show (counts L)[i]? = (counts (L.take i ++ [q] ++ L.drop (i + 1)))[i]? from by rw [← e]]
  rw [counts_app _ _ _ (by simp; omega), counts_snoc, List.getElem?_append_right (by rw [counts_len, hl]; omega), counts_len, hl]
  simp

theorem cnt_leaf {L : List Sq} {k : Nat} {q : Sq} (hq : at? L k = some q) (h3 : q.lv = 3) : cnt L k = popc q.tl := by
  cases k with
  | zero => simp [at?] at hq
  | succ k =>
    unfold cnt
    rw [List.getD_eq_getElem?_getD, show k + 1 - 1 = k from rfl, counts_take L k q hq]
    simp [cntQ, h3]
theorem cnt_node {L : List Sq} (h : WF L) {k : Nat} {q : Sq} (hq : at? L k = some q) (h3 : q.lv ≠ 3) : cnt L k = sat4 (cnt L q.ka) (cnt L q.kb) (cnt L q.kc) (cnt L q.kd) := by
  cases k with
  | zero => simp [at?] at hq
  | succ k =>
    have key : ∀ j, KidOK L k q.lv j → (counts (L.take k)).getD (j - 1) 0 = cnt L j := by
      intro j hj
      obtain ⟨r, hr, _⟩ := hj.2
      have h1 := at?_pos hr
      have h2 := at?_le hr
      have h4 := hj.1
      have hk : k < L.length := (List.getElem?_eq_some_iff.1 hq).1
      unfold cnt
      rw [List.getD_eq_getElem?_getD, List.getD_eq_getElem?_getD]
      have := counts_app (L.take k) (L.drop k) (j - 1) (by simp; omega)
      rw [List.take_append_drop] at this
      rw [this]
    rcases h.at hq with h' | ⟨_, _, _, h4, h5, h6, h7⟩
    · exact absurd h'.1 h3
    · rw [show k + 1 - 1 = k from rfl] at h4 h5 h6 h7
      rw [← key _ h4, ← key _ h5, ← key _ h6, ← key _ h7]
      conv => lhs; unfold cnt
      rw [List.getD_eq_getElem?_getD, show k + 1 - 1 = k from rfl, counts_take L k q hq]
      simp only [cntQ, if_neg h3, Option.getD_some]
      rfl
theorem cntQ_le (M : List Nat) (q : Sq) : cntQ M q ≤ 4611686018427387904 := by
  unfold cntQ
  split
  · have : popc q.tl ≤ 64 := pop_le _ _
    omega
  · exact sat_le _ _ (sat_le _ _ (sat_le _ _ (sat_le _ _ (by omega))))
theorem cnt_le (L : List Sq) (k : Nat) : cnt L k ≤ 4611686018427387904 := by
  by_cases hk : k - 1 < L.length
  · unfold cnt
    rw [List.getD_eq_getElem?_getD, counts_take L (k - 1) L[k - 1] (List.getElem?_eq_getElem hk)]
    exact cntQ_le _ _
  · unfold cnt
    rw [List.getD_eq_getElem?_getD, List.getElem?_eq_none (by rw [counts_len]; omega)]
    simp

/-! ### acts -/
/-- A square is laid: the list, its number, the error. -/
def addL (R : Nat) (L : List Sq) (q : Sq) : List Sq × Nat × Nat :=
  if q ∈ L then (L, L.idxOf q + 1, 0) else if R ≤ L.length then (L, 0, 6) else (L ++ [q], L.length + 1, 0)
def leafL (R : Nat) (L : List Sq) (t : Nat) : List Sq × Nat × Nat := addL R L (leafSq t)
def nodeL (R : Nat) (L : List Sq) (a b c d : Nat) : List Sq × Nat × Nat :=
  match at? L a, at? L b, at? L c, at? L d with
  | some p, some q, some r, some s => if q.lv = p.lv ∧ r.lv = p.lv ∧ s.lv = p.lv then (if 40 ≤ p.lv then (L, 0, 6) else addL R L (nodeSq (p.lv + 1) a b c d)) else (L, 0, 1)
  | _, _, _, _ => (L, 0, 8)
def emptyL (R : Nat) (L : List Sq) : Nat → List Sq × Nat × Nat
  | 0 => leafL R L 0
  | n + 1 => if (emptyL R L n).2.2 = 0 then nodeL R (emptyL R L n).1 (emptyL R L n).2.1 (emptyL R L n).2.1 (emptyL R L n).2.1 (emptyL R L n).2.1 else emptyL R L n
def kidOf (q : Sq) : Nat → Nat
  | 0 => q.ka
  | 1 => q.kb
  | 2 => q.kc
  | _ => q.kd
def tsetN (t x y : Nat) (v : Bool) : Nat := mk (fun i => if i = 8 * y + x then v else t.testBit i) 64
def setL (R : Nat) : Nat → List Sq → Nat → Nat → Nat → Bool → List Sq × Nat × Nat
  | 0, L, id, x, y, v => leafL R L (tsetN (((at? L id).map Sq.tl).getD 0) x y v)
  | n + 1, L, id, x, y, v =>
    match at? L id with
    | none => (L, 0, 8)
    | some q =>
      let i := x / 2 ^ (n + 3) + 2 * (y / 2 ^ (n + 3))
      let r := setL R n L (kidOf q i) (x % 2 ^ (n + 3)) (y % 2 ^ (n + 3)) v
      if r.2.2 = 0 then nodeL R r.1 (if i = 0 then r.2.1 else q.ka) (if i = 1 then r.2.1 else q.kb) (if i = 2 then r.2.1 else q.kc) (if i = 3 then r.2.1 else q.kd) else (r.1, 0, r.2.2)

/-- What an act leaves: all that was, and what may be; its number's square, or that there was no room. -/
structure Made (R : Nat) (L : List Sq) (n : Nat) (r : List Sq × Nat × Nat) (q : Sq) : Prop where
  wf : WF r.1
  ext : Ext L r.1
  len : r.1.length ≤ L.length + n
  room : L.length ≤ R → r.1.length ≤ R
  fits : L.length + n ≤ R → r.2.2 = 0
  good : r.2.2 = 0 → at? r.1 r.2.1 = some q
  bad : r.2.2 ≠ 0 → r.2.2 = 6 ∧ r.2.1 = 0

theorem idxOf_at {L : List Sq} {q : Sq} (h : q ∈ L) : at? L (L.idxOf q + 1) = some q := by
  show L[L.idxOf q]? = _
  have hl := List.idxOf_lt_length_of_mem h
  rw [List.getElem?_eq_getElem hl]
  simp
theorem addL_made {R : Nat} {L : List Sq} {q : Sq} (h : WF L) (hq : SqOK L L.length q) : Made R L 1 (addL R L q) q := by
  unfold addL
  by_cases hm : q ∈ L
  · rw [if_pos hm]
    exact ⟨h, Ext.refl _, by simp, fun h => h, fun _ => rfl, fun _ => idxOf_at hm, fun h => absurd rfl h⟩
  · rw [if_neg hm]
    by_cases hr : R ≤ L.length
    · rw [if_pos hr]
      exact ⟨h, Ext.refl _, by simp, fun h => h, fun h => by omega, fun h => by simp at h, fun _ => ⟨rfl, rfl⟩⟩
    · rw [if_neg hr]
      exact ⟨h.snoc hq hm, ⟨_, rfl⟩, by simp, fun _ => by simp; omega, fun _ => rfl, fun _ => at?_new _ _, fun h => absurd rfl h⟩
theorem leaf_ok (L : List Sq) (i t : Nat) (ht : t < 18446744073709551616) : SqOK L i (leafSq t) := .inl ⟨rfl, ht, rfl, rfl, rfl, rfl⟩
theorem leafL_made {R : Nat} {L : List Sq} {t : Nat} (h : WF L) (ht : t < 18446744073709551616) : Made R L 1 (leafL R L t) (leafSq t) := addL_made h (leaf_ok _ _ _ ht)
theorem node_ok {L : List Sq} {a b c d m : Nat} {p q r s : Sq} (h : WF L) (ha : at? L a = some p) (hb : at? L b = some q) (hc : at? L c = some r) (hd : at? L d = some s)
    (h1 : p.lv = m) (h2 : q.lv = m) (h3 : r.lv = m) (h4 : s.lv = m) (hm : m < 40) : SqOK L L.length (nodeSq (m + 1) a b c d) := by
  have := (h.lv ha).1
  refine .inr ⟨?_, ?_, rfl, ⟨at?_le ha, p, ha, ?_⟩, ⟨at?_le hb, q, hb, ?_⟩, ⟨at?_le hc, r, hc, ?_⟩, ⟨at?_le hd, s, hd, ?_⟩⟩ <;> simp only [nodeSq] <;> omega
theorem nodeL_eq {R : Nat} {L : List Sq} {a b c d m : Nat} {p q r s : Sq} (ha : at? L a = some p) (hb : at? L b = some q) (hc : at? L c = some r) (hd : at? L d = some s)
    (h1 : p.lv = m) (h2 : q.lv = m) (h3 : r.lv = m) (h4 : s.lv = m) (hm : m < 40) : nodeL R L a b c d = addL R L (nodeSq (m + 1) a b c d) := by
  unfold nodeL
  rw [ha, hb, hc, hd]
  simp only
  rw [if_pos ⟨by omega, by omega, by omega⟩, if_neg (by omega), h1]
theorem nodeL_made {R : Nat} {L : List Sq} {a b c d m : Nat} {p q r s : Sq} (h : WF L) (ha : at? L a = some p) (hb : at? L b = some q) (hc : at? L c = some r) (hd : at? L d = some s)
    (h1 : p.lv = m) (h2 : q.lv = m) (h3 : r.lv = m) (h4 : s.lv = m) (hm : m < 40) : Made R L 1 (nodeL R L a b c d) (nodeSq (m + 1) a b c d) := by
  rw [nodeL_eq ha hb hc hd h1 h2 h3 h4 hm]
  exact addL_made h (node_ok h ha hb hc hd h1 h2 h3 h4 hm)
/-- Four squares, whatever they are: what may be stays. -/
theorem nodeL_any {R : Nat} {L : List Sq} (a b c d : Nat) (h : WF L) : WF (nodeL R L a b c d).1 ∧ Ext L (nodeL R L a b c d).1 ∧ (nodeL R L a b c d).1.length ≤ L.length + 1 ∧ (L.length ≤ R → (nodeL R L a b c d).1.length ≤ R) := by
  have same : ∀ (r : List Sq × Nat × Nat), r.1 = L → WF r.1 ∧ Ext L r.1 ∧ r.1.length ≤ L.length + 1 ∧ (L.length ≤ R → r.1.length ≤ R) := fun r e => by rw [e]; exact ⟨h, Ext.refl _, by omega, fun h => h⟩
  unfold nodeL
  split
  · rename_i p q r s ha hb hc hd
    split
    · rename_i hl
      split
      · exact same _ rfl
      · have := addL_made (R := R) h (node_ok h ha hb hc hd rfl hl.1 hl.2.1 hl.2.2 (by omega))
        exact ⟨this.wf, this.ext, this.len, this.room⟩
    · exact same _ rfl
  · exact same _ rfl
end Go.Proofs.Ytmabgfdibbidcaa
