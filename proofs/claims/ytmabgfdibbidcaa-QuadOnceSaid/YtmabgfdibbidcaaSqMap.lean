/- The map of a store: a square looked up, and written. -/
import Derived.Test.YtmabgfdibbidcaaQuadA
import Derived.DeepKeys5
import Derived.Maps.OwnSet
namespace Go.Proofs.Ytmabgfdibbidcaa
open Go.RowKit Go.MapKept

theorem sqLaid : laidOutB Try.prog = true := by kernel_rfl
theorem sqLaw : WideMaps.KeyLaw Try.prog 103 :=
  deep_law_gate sqLaid (of_decide_eq_true (by kernel_rfl)) (of_decide_eq_true (by kernel_rfl)) (by kernel_rfl) (by rw [Try.underlying103])

/-- Numbers that Go's kinds hold. -/
def SqFits (q : Sq) : Prop := q.lv < 9223372036854775808 ∧ q.tl < 18446744073709551616 ∧ q.ka < 9223372036854775808 ∧ q.kb < 9223372036854775808 ∧ q.kc < 9223372036854775808 ∧ q.kd < 9223372036854775808
theorem wf_nat64 (n : Nat) (h : n < 9223372036854775808) : (Lit.int .i64 (n : Nat)).wf = true := by
  simp [Lit.wf, IntKind.min, IntKind.max, IntKind.bits, IntKind.signed]
  omega
theorem wf_natu64 (n : Nat) (h : n < 18446744073709551616) : (Lit.int .u64 (n : Nat)).wf = true := by
  simp [Lit.wf, IntKind.min, IntKind.max, IntKind.bits, IntKind.signed]
  omega
theorem sqCells : Try.prog.cellsOf 103 = 6 := by kernel_rfl
theorem k_int (d : Nat) (a : Int) (h : (Lit.int .i64 a).wf = true) : Try.prog.keyLits (d + 1) 3 [.int .i64 a] = some [.int .i64 a] := by
  simp only [Program.keyLits, Try.underlying3]
  simp [h]
theorem k_tile (d : Nat) (a : Int) (h : (Lit.int .u64 a).wf = true) : Try.prog.keyLits (d + 1) 32 [.int .u64 a] = some [.int .u64 a] := by
  simp only [Program.keyLits, Try.underlying32]
  simp [h]
theorem intCells : Try.prog.cellsOf 3 = 1 := by kernel_rfl
theorem tileCells : Try.prog.cellsOf 32 = 1 := by kernel_rfl
theorem fourCells : Try.prog.cellsOf 29 = 4 := by kernel_rfl
theorem k_four (n : Nat) (a b c d : Int) (h1 : (Lit.int .i64 a).wf = true) (h2 : (Lit.int .i64 b).wf = true) (h3 : (Lit.int .i64 c).wf = true) (h4 : (Lit.int .i64 d).wf = true) :
    Try.prog.keyLits (n + 2) 29 [.int .i64 a, .int .i64 b, .int .i64 c, .int .i64 d] = some [.int .i64 a, .int .i64 b, .int .i64 c, .int .i64 d] := by
  unfold Program.keyLits
  rw [Try.underlying29]
  simp only [fourCells, intCells]
  have r : List.range 4 = [0, 1, 2, 3] := rfl
  rw [r]
  simp [k_int n, h1, h2, h3, h4]
theorem sqKey (q : Sq) (h : SqFits q) : ∃ l, keyOf Try.prog 103 (sqV q) = some l := by
  obtain ⟨h1, h2, h3, h4, h5, h6⟩ := h
  have w1 := wf_nat64 _ h1
  have w2 := wf_natu64 _ h2
  have w3 := wf_nat64 _ h3
  have w4 := wf_nat64 _ h4
  have w5 := wf_nat64 _ h5
  have w6 := wf_nat64 _ h6
  unfold sqV
  generalize ((q.lv : Nat) : Int) = a at *
  generalize ((q.tl : Nat) : Int) = b at *
  generalize ((q.ka : Nat) : Int) = c at *
  generalize ((q.kb : Nat) : Int) = d at *
  generalize ((q.kc : Nat) : Int) = e at *
  generalize ((q.kd : Nat) : Int) = f at *
  have hk : Try.prog.keyType 103 = true := by kernel_rfl
  have hf : (Value.agg #[.int .i64 a, .int .u64 b, .int .i64 c, .int .i64 d, .int .i64 e, .int .i64 f]).formed Try.prog 103 = true := by kernel_rfl
  have hl : ∃ n, Try.prog.types.size + 1 = n + 3 := ⟨Try.prog.types.size - 2, by
    have : 3 ≤ Try.prog.types.size := of_decide_eq_true (by kernel_rfl)
    omega⟩
  obtain ⟨n, hn⟩ := hl
  have key : Try.prog.keyLits (n + 3) 103 [.int .i64 a, .int .u64 b, .int .i64 c, .int .i64 d, .int .i64 e, .int .i64 f] = some [.int .i64 a, .int .u64 b, .int .i64 c, .int .i64 d, .int .i64 e, .int .i64 f] := by
    unfold Program.keyLits
    rw [Try.underlying103]
    simp only [sqCells]
    simp [k_int (n + 1) a w1, k_tile (n + 1) b w2, k_four n c d e f w3 w4 w5 w6, intCells, tileCells, fourCells]
  unfold keyOf
  rw [Try.underlying103]
  simp only [hk, hf, hn, Bool.and_self, if_true]
  exact ⟨_, by rw [show (Value.agg #[.int .i64 a, .int .u64 b, .int .i64 c, .int .i64 d, .int .i64 e, .int .i64 f]).cells.toList = [.int .i64 a, .int .u64 b, .int .i64 c, .int .i64 d, .int .i64 e, .int .i64 f] from rfl, key]; rfl⟩

theorem WF.fits {L : List Sq} (h : WF L) (hl : L.length ≤ 65536) {i : Nat} {q : Sq} (hq : L[i]? = some q) : SqFits q := by
  have hi := (List.getElem?_eq_some_iff.1 hq).1
  rcases h.ok i q hq with ⟨h1, h2, h3, h4, h5, h6⟩ | ⟨h1, h2, h3, h4, h5, h6, h7⟩
  · exact ⟨by omega, h2, by omega, by omega, by omega, by omega⟩
  · have a1 := h4.1
    have a2 := h5.1
    have a3 := h6.1
    have a4 := h7.1
    exact ⟨by omega, by omega, by omega, by omega, by omega, by omega⟩
theorem entry_mem {L : List Sq} {x : MapEntry} (h : x ∈ (entries L).toList) : ∃ i q, L[i]? = some q ∧ x = entryOf i q := by
  obtain ⟨i, hi⟩ := List.getElem?_of_mem h
  rw [Array.getElem?_toList, entries_get] at hi
  cases hq : L[i]? with
  | none => rw [hq] at hi; cases hi
  | some q => rw [hq] at hi; cases hi; exact ⟨i, q, hq, rfl⟩
theorem entries_keys {L : List Sq} (h : WF L) (hl : L.length ≤ 65536) : ∀ e ∈ (entries L).toList, ∃ l, keyOf Try.prog 103 e.key = some l := by
  intro e he
  obtain ⟨i, q, hq, rfl⟩ := entry_mem he
  exact sqKey q (h.fits hl hq)

theorem sq_lookup_hit (w : World) (kb : Nat) (L : List Sq) (h : WF L) (hl : L.length ≤ 65536) (hb : w.heap[kb]? = some (.map (entries L) L.length)) (i : Nat) (q : Sq) (hq : L[i]? = some q) :
    (Instr.lookup 97 (.map (some kb)) (sqV q) true).run Try.prog w = .ok (.tuple #[.int .i64 ((i + 1 : Nat) : Int), .bool true]) w := by
  obtain ⟨l, hk⟩ := sqKey q (h.fits hl hq)
  rcases sqLaw.find w hk (entries L).toList (entries_keys h hl) with ⟨_, h2⟩ | ⟨j, e0, h1, h2, h3⟩
  · exact absurd rfl (h2 (entryOf i q) (by
      apply List.mem_of_getElem? (i := i)
      rw [Array.getElem?_toList, entries_get, hq]; rfl))
  · rw [Array.getElem?_toList, entries_get] at h2
    cases hr : L[j]? with
    | none => rw [hr] at h2; cases h2
    | some r =>
      rw [hr] at h2
      cases h2
      have e : r = q := sqV_inj h3
      subst e
      have := at?_inj h.nodup (i := i + 1) (k := j + 1) hq hr
      obtain rfl : i = j := by omega
      simp [Instr.lookup, run_underlying Try.underlying97, MapKept.run_getObj_map hb, sqLaw.check w _ hk, h1, Result.andThen, entryOf]
theorem sq_lookup_miss (w : World) (kb : Nat) (L : List Sq) (h : WF L) (hl : L.length ≤ 65536) (hb : w.heap[kb]? = some (.map (entries L) L.length)) (q : Sq) (hq : SqFits q) (hm : q ∉ L) :
    (Instr.lookup 97 (.map (some kb)) (sqV q) true).run Try.prog w = .ok (.tuple #[.int .i64 0, .bool false]) w := by
  obtain ⟨l, hk⟩ := sqKey q hq
  rcases sqLaw.find w hk (entries L).toList (entries_keys h hl) with ⟨h1, _⟩ | ⟨j, e0, h1, h2, h3⟩
  · have hz : (zeroValue 3).run Try.prog w = .ok (.int .i64 0) w := by kernel_rfl
    simp [Instr.lookup, run_underlying Try.underlying97, MapKept.run_getObj_map hb, sqLaw.check w _ hk, h1, hz, Result.andThen]
  · rw [Array.getElem?_toList, entries_get] at h2
    cases hr : L[j]? with
    | none => rw [hr] at h2; cases h2
    | some r =>
      rw [hr] at h2
      cases h2
      have e : r = q := sqV_inj h3
      subst e
      exact absurd (List.mem_of_getElem? hr) hm
/-- A block laid anew. -/
def putB (w : World) (b : Nat) (o : Obj) : World := { w with heap := w.heap.setIfInBounds b o }
theorem sq_update (w : World) (kb : Nat) (L : List Sq) (h : WF L) (hl : L.length ≤ 65536) (hb : w.heap[kb]? = some (.map (entries L) L.length)) (q : Sq) (hq : SqFits q) (hm : q ∉ L) :
    (Instr.mapUpdate 97 (.map (some kb)) (sqV q) (.int .i64 ((L.length + 1 : Nat) : Int))).run Try.prog w = .ok () (putB w kb (.map (entries (L ++ [q])) (L.length + 1))) := by
  obtain ⟨l, hk⟩ := sqKey q hq
  rcases sqLaw.find w hk (entries L).toList (entries_keys h hl) with ⟨h1, _⟩ | ⟨j, e0, h1, h2, h3⟩
  · rw [entries_snoc]
    simp [Instr.mapUpdate, run_underlying Try.underlying97, MapKept.run_getObj_map hb, sqLaw.check w _ hk, h1, MapKept.run_setObj_map _ hb, Result.andThen, putB, entryOf]
  · rw [Array.getElem?_toList, entries_get] at h2
    cases hr : L[j]? with
    | none => rw [hr] at h2; cases h2
    | some r =>
      rw [hr] at h2
      cases h2
      have e : r = q := sqV_inj h3
      subst e
      exact absurd (List.mem_of_getElem? hr) hm
end Go.Proofs.Ytmabgfdibbidcaa
