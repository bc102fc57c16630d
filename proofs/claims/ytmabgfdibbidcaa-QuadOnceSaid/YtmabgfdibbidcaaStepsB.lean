/- The acts of a store as steps of a law: a cell told, a cell set, four squares again. -/
import Derived.Test.YtmabgfdibbidcaaSteps
import Derived.Test.YtmabgfdibbidcaaQuadSet
namespace Go.Proofs.Ytmabgfdibbidcaa
open Go.RowKit

theorem get_step {w W : World} {p R : Nat} {L : List Sq} {F : Nat → Prop} {ss : List St} {bs : List (Nat × Obj)} (h : Held w W (⟨p, R, L, F⟩ :: ss) bs) {id : Nat} {q : Sq} {n : Nat} (hq : at? L id = some q) (hl : q.lv = n + 3) (x y : Nat) (hx : x < 2 ^ (n + 3)) (hy : y < 2 ^ (n + 3)) :
    Calls Try.prog 20 #[.pointer (some ⟨p, 0, none⟩), .int .i64 (id : Nat), .int .i64 (x : Nat), .int .i64 (y : Nat)] W fun e W' => e = .returned (.tuple #[.bool (alv L n id x y), .nilIface]) ∧ Held w W' (⟨p, R, L, F⟩ :: ss) bs := by
  obtain ⟨k, rfl⟩ : ∃ k, id = k + 1 := ⟨id - 1, by have := at?_pos hq; omega⟩
  have := get_ok W p R L F k q x y h.head hq (by rw [hl]; exact hx) (by rw [hl]; exact hy)
  unfold alvH at this
  rw [hl, show n + 3 - 3 = n by omega] at this
  exact this.mono fun e W' k => ⟨k.1, h.below k.2⟩
theorem set_step {w W : World} {p R : Nat} {L : List Sq} {F : Nat → Prop} {ss : List St} {bs : List (Nat × Obj)} (h : Held w W (⟨p, R, L, F⟩ :: ss) bs) {id : Nat} {q : Sq} {n : Nat} (hq : at? L id = some q) (hl : q.lv = n + 3) (x y : Nat) (v : Bool) (hx : x < 2 ^ (n + 3)) (hy : y < 2 ^ (n + 3)) (hr : L.length + (n + 1) ≤ R) :
    Calls Try.prog 22 #[.pointer (some ⟨p, 0, none⟩), .int .i64 (id : Nat), .int .i64 (x : Nat), .int .i64 (y : Nat), .bool v] W fun e W' => ∃ L' id' F' q', e = .returned (.tuple #[.int .i64 (id' : Nat), .nilIface]) ∧ Did w W' p R L L' F' ss bs (n + 1) id' q' ∧ q'.lv = n + 3 ∧
      (∀ x' y', x' < 2 ^ (n + 3) → y' < 2 ^ (n + 3) → alv L' n id' x' y' = if x' = x ∧ y' = y then v else alv L n id x' y') ∧ cnt L' id' ≤ cnt L id + 1 := by
  obtain ⟨k, rfl⟩ : ∃ k, id = k + 1 := ⟨id - 1, by have := at?_pos hq; omega⟩
  obtain ⟨q', s⟩ := setL_spec R n L (k + 1) q x y v h.head.wf hq hl hx hy
  have he := s.made.fits hr
  exact (set_ok n W p R L F k q x y v h.head hq hl hx hy).mono fun e W' k => ⟨_, _, _, q', by rw [k.1, he, errv_zero], ⟨h.acted k.2, s.made.wf, s.made.ext, s.made.len, s.made.good he⟩, s.lv, s.cells he, s.cnt he⟩
theorem node_again {w W : World} {p R : Nat} {L : List Sq} {F : Nat → Prop} {ss : List St} {bs : List (Nat × Obj)} (h : Held w W (⟨p, R, L, F⟩ :: ss) bs) {a b c d id m : Nat} {qa qb qc qd : Sq} (ha : at? L a = some qa) (hb : at? L b = some qb) (hc : at? L c = some qc) (hd : at? L d = some qd)
    (h1 : qa.lv = m) (h2 : qb.lv = m) (h3 : qc.lv = m) (h4 : qd.lv = m) (hm : m < 40) (hi : at? L id = some (nodeSq (m + 1) a b c d)) :
    Calls Try.prog 18 #[.pointer (some ⟨p, 0, none⟩), .agg #[.int .i64 (a : Nat), .int .i64 (b : Nat), .int .i64 (c : Nat), .int .i64 (d : Nat)]] W fun e W' => ∃ F', e = .returned (.tuple #[.int .i64 (id : Nat), .nilIface]) ∧ Held w W' (⟨p, R, L, F'⟩ :: ss) bs := by
  have e : nodeL R L a b c d = (L, id, 0) := by
    simp only [nodeL, ha, hb, hc, hd, h1, h2, h3, h4]
    simp [addL_again h.head.wf.nodup hi]
    exact hm
  refine (node_any W p R L F (a : Nat) (b : Nat) (c : Nat) (d : Nat) h.head).mono fun e' W' k => ?_
  simp only [Int.toNat_natCast] at k
  rw [e] at k
  exact ⟨_, by rw [k.1, errv_zero], h.acted k.2⟩
theorem mod_16 (x : Int) : ∃ n : Nat, n < 16 ∧ wrap64 ((IntKind.u64.wrap x).tmod 16) = (n : Int) := by
  have h : IntKind.u64.wrap x = x % 18446744073709551616 := IntKind.wrap_u64 _
  rw [h]
  have h0 : 0 ≤ x % 18446744073709551616 := by omega
  generalize x % 18446744073709551616 = r at h0
  rw [Int.tmod_eq_emod_of_nonneg h0]
  refine ⟨(r % 16).toNat, by omega, ?_⟩
  unfold wrap64
  omega
theorem four_cell {L : List Sq} {id i0 i1 i2 i3 t px py : Nat} (hq : at? L id = some (nodeSq 4 i0 i1 i2 i3)) (i : Nat) (hi : i = px / 8 + 2 * (py / 8)) (hk : at? L (kidOf (nodeSq 4 i0 i1 i2 i3) i) = some (leafSq t)) : alv L 1 id px py = t.testBit (8 * (py % 8) + px % 8) := by
  subst hi
  rw [alv_node hq 0]
  exact alv_leaf hk _ _
/-- A cell turned: another square. -/
theorem turned_ne {L M : List Sq} {n id id' x y : Nat} {v : Bool} {q : Sq} (hw : WF L) (he : Ext L M) (hq : at? L id = some q) (hl : q.lv = n + 3) (h : alv M n id' x y = v) (h0 : alv L n id x y = !v) : id' ≠ id := by
  rintro rfl
  rw [alv_ext hw he n _ q x y hq hl, h0] at h
  cases v <;> simp at h
end Go.Proofs.Ytmabgfdibbidcaa
