/- A slice of pairs of integers, opened at every index. -/
import Derived.Deep.Slices
import Derived.OpenShut
import Derived.WideShapes
namespace Go.Proofs.Ytmabgfdibbidcaa
open Go Go.Deep

section
variable {H : Type} {enc : TypeId × Value → H} {P : Program} {w : World} {base : Nat} {spare : Nat → Bool} {held : Bool}
theorem open_pairs {sl arr it : TypeId} (ht : P.underlying sl = some (.slice arr)) (ha : P.underlying arr = some (.array 2 it)) (hi : P.underlying it = some (.int .i64)) (hca : P.cellsOf arr = 2) (hci : P.cellsOf it = 1)
    {a : Option Addr} {len cap fuel : Nat} {x : DataW H × List MemPlace} (h : DataW.trod enc P w base spare held fuel sl [.slice a len cap] = some x) :
    ∃ (bb off : Nat) (Z0 Z1 : Nat → Int), ∀ i, i < len → a = some ⟨bb, off, none⟩ ∧ w.cell? ⟨bb, off + i * 2, none⟩ = some (.int .i64 (Z0 i)) ∧ w.cell? ⟨bb, off + (i * 2 + 1), none⟩ = some (.int .i64 (Z1 i)) := by
  rcases open_slice ht h with ⟨hcs, _⟩ | ⟨a', len', cap', m, n, D, Pl, hcs, _, hl, _, hm, _, hel⟩
  · simp only [List.cons.injEq, Value.slice.injEq, and_true] at hcs
    obtain ⟨_, rfl, _⟩ := hcs
    exact ⟨0, 0, fun _ => 0, fun _ => 0, fun i hi => by omega⟩
  · simp only [List.cons.injEq, Value.slice.injEq, and_true] at hcs
    obtain ⟨rfl, rfl, rfl⟩ := hcs
    have hml : len ≤ m := by rw [hm]; split <;> omega
    have key : ∀ i, i < len → ∃ z0 z1 : Int, w.cell? (a'.add (i * 2)) = some (.int .i64 z0) ∧ w.cell? (a'.add (i * 2 + 1)) = some (.int .i64 z1) := fun i hil => by
      obtain ⟨cs', h1, h2⟩ := hel i (by omega)
      rw [hca] at h1
      obtain ⟨_, hlen, hc⟩ := World.cells?_some h1
      obtain ⟨xs, m', _, _, _, hxl, hxe⟩ := DataW.trod_array ha h2
      rw [hci] at hxe
      match cs', hlen with
      | [c0, c1], _ =>
        match xs, hxl with
        | [y0, y1], _ =>
          obtain ⟨z0, e0, _, _⟩ := DataW.trod_int hi (hxe 0 (by omega))
          obtain ⟨z1, e1, _, _⟩ := DataW.trod_int hi (hxe 1 (by omega))
          simp at e0 e1
          have g0 := hc 0 (by omega)
          have g1 := hc 1 (by omega)
          rw [add_add] at g0 g1
          refine ⟨z0, z1, ?_, ?_⟩
          · rw [Nat.add_zero] at g0
            rw [g0, ← e0]
            rfl
          · rw [g1, ← e1]
            rfl
    by_cases hp : 0 < len
    · obtain ⟨bb, off, spot⟩ := a'
      obtain ⟨z0, _, h0, _⟩ := key 0 hp
      have hspot : spot = none := by simpa [Addr.add] using World.cell?_spot h0
      subst hspot
      refine ⟨bb, off, fun i => if h : i < len then (key i h).choose else 0, fun i => if h : i < len then (key i h).choose_spec.choose else 0, fun i hil => ⟨rfl, ?_, ?_⟩⟩
      · rw [← Go.WideShapes.add_plain]
        simp only [hil, dite_true]
        exact (key i hil).choose_spec.choose_spec.1
      · rw [← Go.WideShapes.add_plain]
        simp only [hil, dite_true]
        exact (key i hil).choose_spec.choose_spec.2
    · exact ⟨0, 0, fun _ => 0, fun _ => 0, fun i hi => by omega⟩
end
end Go.Proofs.Ytmabgfdibbidcaa
