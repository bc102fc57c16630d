/- Contracts of package quad: a square by its number. -/
import Derived.Test.YtmabgfdibbidcaaStore
import Derived.Test.YtmabgfdibbidcaaMem
namespace Go.Proofs.Ytmabgfdibbidcaa
open Go.RowKit

theorem sqT_size : (Try.prog.info? 103).map (·.size) = some 6 := by kernel_rfl

/-- A store's cells, for a walk. -/
theorem StoreAt.cells {w : World} {p R : Nat} {L : List Sq} {lv mv : Value} {kb : Nat} (h : StoreAt w p R L lv mv kb) :
    w.cell? ⟨p, 0, none⟩ = some (.int .i64 (R : Nat)) ∧ w.cell? ⟨p, 1, none⟩ = some lv ∧ w.cell? ⟨p, 2, none⟩ = some mv ∧ w.cell? ⟨p, 3, none⟩ = some (.map (some kb)) := by
  refine ⟨?_, ?_, ?_, ?_⟩ <;> (rw [cell_of_row w p _ _ _ _ h.blk]; rfl)
theorem StoreAt.lv_len {w : World} {p R : Nat} {L : List Sq} {lv mv : Value} {kb : Nat} (h : StoreAt w p R L lv mv kb) : ∃ ao cap, lv = .slice ao L.length cap := by
  rcases h.ls.2 with ⟨h1, h2⟩ | ⟨g, cap, cur, h1, _⟩
  · exact ⟨none, 0, by rw [h1, h2]⟩
  · exact ⟨_, cap, h1⟩
theorem StoreAt.lv_at {w : World} {p R : Nat} {L : List Sq} {lv mv : Value} {kb : Nat} (h : StoreAt w p R L lv mv kb) {k : Nat} {q : Sq} (hq : L[k]? = some q) :
    ∃ g cap, lv = .slice (some ⟨g, 0, none⟩) L.length cap ∧ w.rangeAt g (k * 6) (sqVals q) ∧ g < w.heap.size := by
  have hk := (List.getElem?_eq_some_iff.1 hq).1
  rcases h.ls.2 with ⟨h1, h2⟩ | ⟨g, cap, cur, h1, _, h3, h4, _, h6, h7⟩
  · omega
  · refine ⟨g, cap, h1, fun j v hv => ?_, (Array.getElem?_eq_some_iff.1 h3).1⟩
    have hj : j < 6 := by have := (List.getElem?_eq_some_iff.1 hv).1; simpa [sqVals] using this
    rw [cell_of_row w g _ _ _ _ h3]
    have := cellsL_get L k q hq j hj
    rw [hv, ← h7, List.getElem?_take_of_lt (by omega)] at this
    rw [show k * 6 + j = 6 * k + j by omega]
    simpa using this
theorem StoreAt.mv_at {w : World} {p R : Nat} {L : List Sq} {lv mv : Value} {kb : Nat} (h : StoreAt w p R L lv mv kb) {k : Nat} {q : Sq} (hq : at? L (k + 1) = some q) :
    ∃ g cap, mv = .slice (some ⟨g, 0, none⟩) L.length cap ∧ w.cell? ⟨g, k, none⟩ = some (.int .i64 (cnt L (k + 1) : Nat)) := by
  have hk := at?_le hq
  rcases h.ms.2 with ⟨h1, h2⟩ | ⟨g, cap, cur, h1, _, h3, h4, _, h6, h7⟩
  · omega
  · refine ⟨g, cap, h1, ?_⟩
    rw [cell_of_row w g _ _ _ _ h3]
    have h8 : (manyVals L)[k]? = some (.int .i64 (cnt L (k + 1) : Nat)) := by
      unfold manyVals
      rw [List.getElem?_map]
      have := cnt_get hq
      rw [show k + 1 - 1 = k from rfl] at this
      rw [this]
      rfl
    rw [← h7, List.getElem?_take_of_lt (by omega)] at h8
    simpa using h8

theorem range_six {w : World} {g o : Nat} {q : Sq} (h : w.rangeAt g o (sqVals q)) :
    w.cell? ⟨g, o, none⟩ = some (.int .i64 (q.lv : Nat)) ∧ w.cell? ⟨g, o + 1, none⟩ = some (.int .u64 (q.tl : Nat)) ∧ w.cell? ⟨g, o + 2, none⟩ = some (.int .i64 (q.ka : Nat)) ∧
    w.cell? ⟨g, o + 3, none⟩ = some (.int .i64 (q.kb : Nat)) ∧ w.cell? ⟨g, o + 4, none⟩ = some (.int .i64 (q.kc : Nat)) ∧ w.cell? ⟨g, o + 5, none⟩ = some (.int .i64 (q.kd : Nat)) :=
  ⟨h 0 _ rfl, h 1 _ rfl, h 2 _ rfl, h 3 _ rfl, h 4 _ rfl, h 5 _ rfl⟩
def zeroSq : Value := .agg #[.int .i64 0, .int .u64 0, .int .i64 0, .int .i64 0, .int .i64 0, .int .i64 0]
set_option maxRecDepth 100000 in
set_option maxHeartbeats 1000000 in
theorem at_nil (id : Int) (w : World) :
    Calls Try.prog 44 #[.pointer none, .int .i64 id] w fun e w' => e = .returned (.tuple #[zeroSq, errv 1]) ∧ Below w.heap.size w w' := by
  go_enter Try.func44, Try.ntmps44
  go_wp2
  refine bodyPost_ret (res_row_tmp (p := 4) (u := 5) (ty := 103) rfl _ _ w.heap.size 103 _ (0, 0) _ rfl (heap_alloc_new w _) Try.underlying103 rfl (by kernel_rfl)) rfl ⟨rfl, (Below.refl _ _).alloc (Nat.le_refl _) _⟩

theorem Store.len {w : World} {p R : Nat} {L : List Sq} {F : Nat → Prop} (h : Store w p R L F) : L.length ≤ 65536 := Nat.le_trans h.room h.small

set_option maxRecDepth 100000 in
set_option maxHeartbeats 1000000 in
theorem at_none (w : World) (p R : Nat) (L : List Sq) (F : Nat → Prop) (id : Int) (hs : Store w p R L F) (h0 : id < 1 ∨ (L.length : Int) < id) :
    Calls Try.prog 44 #[.pointer (some ⟨p, 0, none⟩), .int .i64 id] w fun e w' => e = .returned (.tuple #[zeroSq, errv 8]) ∧ Below w.heap.size w w' := by
  have hl := hs.len
  have hp := hs.lt p hs.self
  obtain ⟨lv, mv, kb, hst, _⟩ := hs.at'
  obtain ⟨ao, cap, rfl⟩ := hst.lv_len
  obtain ⟨c0, c1, c2, c3⟩ := hst.cells
  clear hst hs
  by_cases h1 : id < 1
  · clear h0
    go_enter Try.func44, Try.ntmps44
    go_wp2
    refine bodyPost_ret (res_row_tmp (p := 4) (u := 5) (ty := 103) rfl _ _ w.heap.size 103 _ (0, 0) _ rfl (heap_alloc_new w _) Try.underlying103 rfl (by kernel_rfl)) rfl ⟨rfl, (Below.refl _ _).alloc (Nat.le_refl _) _⟩
  · have h2 : (L.length : Int) < id := by omega
    clear h0
    go_enter Try.func44, Try.ntmps44
    go_wp2
    refine bodyPost_ret (res_row_tmp (p := 4) (u := 5) (ty := 103) rfl _ _ w.heap.size 103 _ (0, 0) _ rfl (heap_alloc_new w _) Try.underlying103 rfl (by kernel_rfl)) rfl ⟨rfl, (Below.refl _ _).alloc (Nat.le_refl _) _⟩

set_option maxRecDepth 100000 in
set_option maxHeartbeats 1000000 in
theorem at_ok (w : World) (p R : Nat) (L : List Sq) (F : Nat → Prop) (id : Int) (q : Sq) (hs : Store w p R L F) (h0 : 0 ≤ id) (hq : at? L id.toNat = some q) :
    Calls Try.prog 44 #[.pointer (some ⟨p, 0, none⟩), .int .i64 id] w fun e w' => e = .returned (.tuple #[sqV q, .nilIface]) ∧ Below w.heap.size w w' := by
  have hl := hs.len
  have hp := hs.lt p hs.self
  obtain ⟨lv, mv, kb, hst, _⟩ := hs.at'
  obtain ⟨k, hk⟩ : ∃ k, id.toNat = k + 1 := ⟨id.toNat - 1, by have := at?_pos hq; omega⟩
  have hle := at?_le hq
  rw [hk] at hq hle
  obtain ⟨g, cap, rfl, hr, hg⟩ := hst.lv_at hq
  obtain ⟨c0, c1, c2, c3⟩ := hst.cells
  obtain ⟨e0, e1, e2, e3, e4, e5⟩ := range_six hr
  have i1 : 1 ≤ id := by omega
  have i2 : id ≤ (L.length : Nat) := by omega
  clear hst hs hr
  go_enter Try.func44, Try.ntmps44
  go_wp2
  refine bodyPost_ret (res_row_tmp (p := 4) (u := 5) (ty := 103) rfl _ _ w.heap.size 103 _ (0, 0) _ rfl (heap_alloc_new w _) Try.underlying103 rfl (by kernel_rfl)) rfl ⟨rfl, (Below.refl _ _).alloc (Nat.le_refl _) _⟩
end Go.Proofs.Ytmabgfdibbidcaa
