/- The walk of quiltlaw11.QuadCounts. -/
import Derived.Test.YtmabgfdibbidcaaLawQuadSure
import Derived.Test.YtmabgfdibbidcaaFrame
namespace Go.Proofs.Ytmabgfdibbidcaa
open Go.RowKit

/-- Squares of all cells: n doublings of the full tile. -/
def fullTile : Nat := 18446744073709551615
/-- The counts are right whatever comes: a square of four of one. -/
theorem pop_all : ∀ n, pop (fun i => fullTile.testBit i) n = n ∨ 64 < n
  | 0 => .inl rfl
  | n + 1 => by
    rcases pop_all n with h | h
    · by_cases hn : n < 64
      · left
        have : fullTile.testBit n = true := by
          have : fullTile = 2 ^ 64 - 1 := by decide
          rw [this, Nat.testBit_two_pow_sub_one]
          simpa using hn
        simp [pop, h, this]
      · right; omega
    · right; omega
theorem popc_full : popc fullTile = 64 := by
  have := pop_all 64
  unfold popc
  omega

structure FullOK (R : Nat) (L : List Sq) (n : Nat) (r : List Sq × Nat × Nat) : Prop where
  wf : WF r.1
  ext : Ext L r.1
  len : r.1.length ≤ L.length + n
  er : r.2.2 = 0
  sq : ∃ q, at? r.1 r.2.1 = some q ∧ q.lv = n + 3 ∧ cnt r.1 r.2.1 = min (4 ^ (n + 3)) 4611686018427387904
def fullL (R : Nat) (L : List Sq) (id : Nat) : Nat → List Sq × Nat × Nat
  | 0 => (L, id, 0)
  | n + 1 => nodeL R (fullL R L id n).1 (fullL R L id n).2.1 (fullL R L id n).2.1 (fullL R L id n).2.1 (fullL R L id n).2.1
theorem pow4 (n : Nat) (c : Nat) (hc : c = min (4 ^ (n + 3)) 4611686018427387904) : sat4 c c c c = min (4 ^ (n + 1 + 3)) 4611686018427387904 := by
  rw [sat4_eq, show 4 ^ (n + 1 + 3) = 4 * 4 ^ (n + 3) by rw [show n + 1 + 3 = (n + 3) + 1 by omega, Nat.pow_succ]; omega]
  omega
theorem fullL_spec (R : Nat) (L : List Sq) (id : Nat) (q : Sq) (h : WF L) (hq : at? L id = some q) (hl : q.lv = 3) (hc : cnt L id = 64) : ∀ n, n ≤ 37 → L.length + n ≤ R → FullOK R L n (fullL R L id n)
  | 0, _, _ => ⟨h, Ext.refl _, by simp [fullL], rfl, q, hq, hl, by show cnt L id = _; rw [hc]; decide⟩
  | n + 1, hn, hR => by
    have ih := fullL_spec R L id q h hq hl hc n (by omega) (by omega)
    obtain ⟨r, h1, h2, h3⟩ := ih.sq
    have hN := nodeL_made (R := R) ih.wf h1 h1 h1 h1 h2 h2 h2 h2 (by omega)
    have he := hN.fits (by have := ih.len; omega)
    refine ⟨hN.wf, ih.ext.trans hN.ext, by have := ih.len; have := hN.len; show (nodeL _ _ _ _ _ _).1.length ≤ _; omega, he, _, hN.good he, by show n + 3 + 1 = _; omega, ?_⟩
    have e : fullL R L id (n + 1) = nodeL R (fullL R L id n).1 (fullL R L id n).2.1 (fullL R L id n).2.1 (fullL R L id n).2.1 (fullL R L id n).2.1 := rfl
    rw [e, cnt_node hN.wf (hN.good he) (by show n + 3 + 1 ≠ 3; omega)]
    simp only [nodeSq]
    rw [cnt_ext hN.ext h1]
    exact pow4 n _ h3
end Go.Proofs.Ytmabgfdibbidcaa
