/- The plain law of quiltlaw11.QuadOnce: cells set in two orders, on one store. -/
import Derived.Test.YtmabgfdibbidcaaStepsB
import Derived.Test.YtmabgfdibbidcaaLawQuadSure
namespace Go.Proofs.Ytmabgfdibbidcaa
open Go.RowKit

/-- A square of a level. -/
def Has (L : List Sq) (m id : Nat) : Prop := ∃ q, at? L id = some q ∧ q.lv = m + 3
theorem Has.ext {L M : List Sq} {m id : Nat} (h : Has L m id) (e : Ext L M) : Has M m id := by obtain ⟨q, h1, h2⟩ := h; exact ⟨q, e.at h1, h2⟩
theorem alv_has {L M : List Sq} (hw : WF L) (e : Ext L M) {m id : Nat} (h : Has L m id) (x y : Nat) : alv M m id x y = alv L m id x y := by
  obtain ⟨q, h1, h2⟩ := h
  exact alv_ext hw e m id q x y h1 h2
theorem cnt_has {L M : List Sq} (e : Ext L M) {m id : Nat} (h : Has L m id) : cnt M id = cnt L id := by
  obtain ⟨q, h1, _⟩ := h
  exact cnt_ext e h1
/-- A cell set: from L's square id to M's square id'. -/
structure SetD (m : Nat) (L M : List Sq) (id id' x y : Nat) (v : Bool) : Prop where
  wf : WF M
  ext : Ext L M
  len : M.length ≤ L.length + (m + 1)
  has : Has M m id'
  cells : ∀ x' y', x' < 2 ^ (m + 3) → y' < 2 ^ (m + 3) → alv M m id' x' y' = if x' = x ∧ y' = y then v else alv L m id x' y'
  cnt : Go.Proofs.Ytmabgfdibbidcaa.cnt M id' ≤ Go.Proofs.Ytmabgfdibbidcaa.cnt L id + 1

theorem set_d {w W : World} {p R : Nat} {L : List Sq} {F : Nat → Prop} {ss : List St} {bs : List (Nat × Obj)} (h : Held w W (⟨p, R, L, F⟩ :: ss) bs) {m id : Nat} (hh : Has L m id) (x y : Nat) (v : Bool) (hx : x < 2 ^ (m + 3)) (hy : y < 2 ^ (m + 3)) (hr : L.length + (m + 1) ≤ R) :
    Calls Try.prog 22 #[.pointer (some ⟨p, 0, none⟩), .int .i64 (id : Nat), .int .i64 (x : Nat), .int .i64 (y : Nat), .bool v] W fun e W' => ∃ M id' F', e = .returned (.tuple #[.int .i64 (id' : Nat), .nilIface]) ∧ Held w W' (⟨p, R, M, F'⟩ :: ss) bs ∧ SetD m L M id id' x y v := by
  obtain ⟨q, hq, hl⟩ := hh
  refine (set_step h hq hl x y v hx hy hr).mono fun e W' ⟨M, id', F', q', h1, h2, h3, h4, h5⟩ => ⟨M, id', F', h1, h2.held, h2.wf, h2.ext, h2.len, ⟨q', h2.sq, h3⟩, h4, h5⟩
theorem get_d {w W : World} {p R : Nat} {L : List Sq} {F : Nat → Prop} {ss : List St} {bs : List (Nat × Obj)} (h : Held w W (⟨p, R, L, F⟩ :: ss) bs) {m id : Nat} (hh : Has L m id) (x y : Nat) (hx : x < 2 ^ (m + 3)) (hy : y < 2 ^ (m + 3)) (b : Bool) (hb : alv L m id x y = b) :
    Calls Try.prog 20 #[.pointer (some ⟨p, 0, none⟩), .int .i64 (id : Nat), .int .i64 (x : Nat), .int .i64 (y : Nat)] W fun e W' => e = .returned (.tuple #[.bool b, .nilIface]) ∧ Held w W' (⟨p, R, L, F⟩ :: ss) bs := by
  obtain ⟨q, hq, hl⟩ := hh
  have := get_step h hq hl x y hx hy
  rwa [hb] at this
theorem count_d {w W : World} {p R : Nat} {L : List Sq} {F : Nat → Prop} {ss : List St} {bs : List (Nat × Obj)} (h : Held w W (⟨p, R, L, F⟩ :: ss) bs) {m id : Nat} (hh : Has L m id) :
    Calls Try.prog 16 #[.pointer (some ⟨p, 0, none⟩), .int .i64 (id : Nat)] W fun e W' => e = .returned (.tuple #[.int .i64 (cnt L id : Nat), .nilIface]) ∧ Held w W' (⟨p, R, L, F⟩ :: ss) bs := by
  obtain ⟨q, hq, hl⟩ := hh
  exact count_step h hq
/-- Set, and back: the square that was; what stood between is another one. -/
theorem set_back {m : Nat} {L M N : List Sq} {c t u x y : Nat} {v : Bool} (hw : WF L) (hc : Has L m c) (hx : x < 2 ^ (m + 3)) (hy : y < 2 ^ (m + 3)) (hv : alv L m c x y = v) (h1 : SetD m L M c t x y (!v)) (h2 : SetD m M N t u x y v) : u = c ∧ t ≠ c := by
  constructor
  · obtain ⟨q, q1, q2⟩ := h2.has
    obtain ⟨r, r1, r2⟩ := (hc.ext h1.ext).ext h2.ext
    refine same_cells h2.wf m u c q r q1 r1 q2 r2 fun x' y' hx' hy' => ?_
    rw [h2.cells x' y' hx' hy', h1.cells x' y' hx' hy', alv_has hw (h1.ext.trans h2.ext) hc]
    by_cases e : x' = x ∧ y' = y
    · rw [if_pos e, e.1, e.2, hv]
    · rw [if_neg e, if_neg e]
  · rintro rfl
    have e1 := h1.cells x y hx hy
    rw [if_pos ⟨rfl, rfl⟩, alv_has hw h1.ext hc, hv] at e1
    cases v <;> simp at e1
/-- What the loop holds. -/
structure Once (m n : Nat) (X Y : Nat → Nat) (i : Nat) (L : List Sq) (base a b : Nat) : Prop where
  wf : WF L
  len : L.length ≤ m + 1 + i * (4 * (m + 1))
  ha : Has L m a
  hb : Has L m b
  h0 : Has L m base
  ca : ∀ x y, x < 2 ^ (m + 3) → y < 2 ^ (m + 3) → (alv L m a x y = true ↔ ∃ j, j < i ∧ X j = x ∧ Y j = y)
  cb : ∀ x y, x < 2 ^ (m + 3) → y < 2 ^ (m + 3) → (alv L m b x y = true ↔ ∃ j, j < i ∧ X (n - 1 - j) = x ∧ Y (n - 1 - j) = y)
  c0 : ∀ x y, alv L m base x y = false
  cnt : Go.Proofs.Ytmabgfdibbidcaa.cnt L a ≤ i
  zero : i = 0 → a = base

theorem lt_succ_or {P : Nat → Prop} (i : Nat) : (∃ j, j < i + 1 ∧ P j) ↔ P i ∨ ∃ j, j < i ∧ P j := by
  constructor
  · rintro ⟨j, h, hp⟩
    by_cases e : j = i
    · subst e; exact .inl hp
    · exact .inr ⟨j, by omega, hp⟩
  · rintro (h | ⟨j, h, hp⟩)
    · exact ⟨i, by omega, h⟩
    · exact ⟨j, by omega, hp⟩
theorem Once.next {m n : Nat} {X Y : Nat → Nat} {i : Nat} {L L1 L2 L3 L4 : List Sq} {base a b c d t u p q : Nat} {v : Bool} (h : Once m n X Y i L base a b)
    (s1 : SetD m L L1 a c (X i) (Y i) true) (s2 : SetD m L1 L2 b d (X (n - 1 - i)) (Y (n - 1 - i)) true) (s3 : SetD m L2 L3 c t p q (!v)) (s4 : SetD m L3 L4 t u p q v) : Once m n X Y (i + 1) L4 base c d := by
  have e24 := s3.ext.trans s4.ext
  have e14 := s2.ext.trans e24
  have e04 := s1.ext.trans e14
  refine ⟨s4.wf, ?_, s1.has.ext e14, s2.has.ext e24, h.h0.ext e04, fun x y hx hy => ?_, fun x y hx hy => ?_, fun x y => ?_, ?_, fun e => by omega⟩
  · have := h.len; have := s1.len; have := s2.len; have := s3.len; have := s4.len
    rw [Nat.add_mul, Nat.one_mul]
    omega
  · rw [alv_has s1.wf e14 s1.has, s1.cells x y hx hy, lt_succ_or]
    by_cases e : x = X i ∧ y = Y i
    · rw [if_pos e]
      exact ⟨fun _ => .inl ⟨e.1.symm, e.2.symm⟩, fun _ => rfl⟩
    · rw [if_neg e, h.ca x y hx hy]
      exact ⟨.inr, fun hh => hh.resolve_left fun ⟨e1, e2⟩ => e ⟨e1.symm, e2.symm⟩⟩
  · rw [alv_has s2.wf e24 s2.has, s2.cells x y hx hy, lt_succ_or (P := fun j => X (n - 1 - j) = x ∧ Y (n - 1 - j) = y)]
    by_cases e : x = X (n - 1 - i) ∧ y = Y (n - 1 - i)
    · rw [if_pos e]
      exact ⟨fun _ => .inl ⟨e.1.symm, e.2.symm⟩, fun _ => rfl⟩
    · rw [if_neg e, alv_has h.wf s1.ext h.hb, h.cb x y hx hy]
      exact ⟨.inr, fun hh => hh.resolve_left fun ⟨e1, e2⟩ => e ⟨e1.symm, e2.symm⟩⟩
  · rw [alv_has h.wf e04 h.h0]
    exact h.c0 x y
  · rw [cnt_has e14 s1.has]
    have := s1.cnt; have := h.cnt
    omega
/-- At the loop's end. -/
theorem Once.end {m n : Nat} {X Y : Nat → Nat} {L : List Sq} {base a b : Nat} (h : Once m n X Y n L base a b) (hX : ∀ j, X j < 2 ^ (m + 3)) (hY : ∀ j, Y j < 2 ^ (m + 3)) : a = b ∧ (a = base ↔ n = 0) := by
  constructor
  · obtain ⟨q, q1, q2⟩ := h.ha
    obtain ⟨r, r1, r2⟩ := h.hb
    refine same_cells h.wf m a b q r q1 r1 q2 r2 fun x y hx hy => ?_
    rw [Bool.eq_iff_iff, h.ca x y hx hy, h.cb x y hx hy]
    constructor
    · rintro ⟨j, hj, e1, e2⟩
      exact ⟨n - 1 - j, by omega, by rw [show n - 1 - (n - 1 - j) = j by omega]; exact e1, by rw [show n - 1 - (n - 1 - j) = j by omega]; exact e2⟩
    · rintro ⟨j, hj, e1, e2⟩
      exact ⟨n - 1 - j, by omega, e1, e2⟩
  · constructor
    · intro e
      match n, h with
      | 0, _ => rfl
      | k + 1, h =>
        exfalso
        have h1 := (h.ca (X 0) (Y 0) (hX 0) (hY 0)).2 ⟨0, by omega, rfl, rfl⟩
        rw [e, h.c0] at h1
        cases h1
    · exact h.zero
end Go.Proofs.Ytmabgfdibbidcaa
