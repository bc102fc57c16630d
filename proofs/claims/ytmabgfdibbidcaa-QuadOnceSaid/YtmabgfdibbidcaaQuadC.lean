/- Contracts of package quad: a new square laid ('add'): what its two appends and two stores leave. -/
import Derived.Test.YtmabgfdibbidcaaQuadB
import Derived.Lib.ItoaWalk
namespace Go.Proofs.Ytmabgfdibbidcaa
open Go.RowKit

def OneOf (v : Value) (i : Nat) : Prop := v.ownBlock = some i
def TwoOf (v u : Value) (i : Nat) : Prop := v.ownBlock = some i ∨ u.ownBlock = some i
theorem keep_grown {F : Nat → Prop} {W a b : World} {v : Value} (h : Keep F W a) (hg : a.grownBy b v.ownBlock) (hF : ∀ i, v.ownBlock = some i → F i) : Keep F W b :=
  ⟨hg.os.trans h.os, hg.tape.trans h.tape, hg.output.trans h.output, Nat.le_trans h.size hg.size, fun i hi hf => (hg.block i (Nat.lt_of_lt_of_le hi h.size) (fun e => hf (hF i e.symm))).trans (h.block i hi hf)⟩
theorem Keep.cell {F : Nat → Prop} {a b : World} (h : Keep F a b) {x : Addr} (hx : x.block < a.heap.size) (hf : ¬ F x.block) : b.cell? x = a.cell? x := World.cell?_of_block (h.block _ hx hf)
theorem Keep.frozen {F : Nat → Prop} {a b : World} (h : Keep F a b) {x : Addr} (hx : x.block < a.heap.size) (hf : ¬ F x.block) : b.frozen? x = a.frozen? x := World.frozen?_of_block (h.block _ hx hf)

/-- What the statement of the two appends leaves. -/
structure AddMid (W w' : World) (p R : Nat) (L : List Sq) (q : Sq) (lv mv : Value) (kb : Nat) (g1 c1 g2 c2 : Nat) : Prop where
  blk : w'.heap[p]? = some (.cells #[.int .i64 (R : Nat), .slice (some ⟨g1, 0, none⟩) (L.length + 1) c1, .slice (some ⟨g2, 0, none⟩) (L.length + 1) c2, .map (some kb)] 100 (0, 0))
  ls : w'.ownsRow 0 103 6 (.slice (some ⟨g1, 0, none⟩) (L.length + 1) c1) (L.length + 1) (cellsL L ++ sqVals q)
  ms : w'.ownsRow 0 3 1 (.slice (some ⟨g2, 0, none⟩) (L.length + 1) c2) (L.length + 1) (manyVals L ++ [.int .i64 (cntQ (counts L) q : Nat)])
  a1 : lv.ownBlock = some g1 ∨ W.heap.size ≤ g1
  a2 : mv.ownBlock = some g2 ∨ W.heap.size ≤ g2
  ne : g1 ≠ g2
  keep : Keep (fun i => i = p ∨ TwoOf lv mv i) W w'

theorem add_mid {W w2 : World} {p R : Nat} {L : List Sq} {q : Sq} {lv mv : Value} {kb : Nat} {g1 c1 g2 c2 : Nat} (hp : p < W.heap.size)
    (hb : W.heap[p]? = some (.cells #[.int .i64 (R : Nat), lv, mv, .map (some kb)] 100 (0, 0))) (n1 : lv.ownBlock ≠ some p) (n2 : mv.ownBlock ≠ some p)
    (K : Keep (TwoOf lv mv) W w2) (ls : w2.ownsRow 0 103 6 (.slice (some ⟨g1, 0, none⟩) (L.length + 1) c1) (L.length + 1) (cellsL L ++ sqVals q))
    (ms : w2.ownsRow 0 3 1 (.slice (some ⟨g2, 0, none⟩) (L.length + 1) c2) (L.length + 1) (manyVals L ++ [.int .i64 (cntQ (counts L) q : Nat)]))
    (a1 : lv.ownBlock = some g1 ∨ W.heap.size ≤ g1) (a2 : mv.ownBlock = some g2 ∨ W.heap.size ≤ g2) (ne : g1 ≠ g2) :
    AddMid W ((w2.setCell ⟨p, 1, none⟩ (.slice (some ⟨g1, 0, none⟩) (L.length + 1) c1)).setCell ⟨p, 2, none⟩ (.slice (some ⟨g2, 0, none⟩) (L.length + 1) c2)) p R L q lv mv kb g1 c1 g2 c2 := by
  have hb2 : w2.heap[p]? = some (.cells #[.int .i64 (R : Nat), lv, mv, .map (some kb)] 100 (0, 0)) := (K.block p hp (fun h => h.elim n1 n2)).trans hb
  have o1 : g1 ≠ p := fun e => by subst e; rcases a1 with h | h; exact n1 h; omega
  have o2 : g2 ≠ p := fun e => by subst e; rcases a2 with h | h; exact n2 h; omega
  have other : ∀ i v u, i ≠ p → ((w2.setCell ⟨p, 1, none⟩ v).setCell ⟨p, 2, none⟩ u).heap[i]? = w2.heap[i]? := fun i v u hi => (heap_setCell_other _ _ _ _ hi).trans (heap_setCell_other _ _ _ _ hi)
  refine ⟨?_, ?_, ?_, a1, a2, ne, ?_⟩
  · have h1 := heap_setCell_same w2 p 1 _ _ (.slice (some ⟨g1, 0, none⟩) (L.length + 1) c1) hb2
    exact heap_setCell_same _ p 2 _ _ (.slice (some ⟨g2, 0, none⟩) (L.length + 1) c2) h1
  · exact ownsRow_of_block ls fun g hg => other g _ _ (by simp [Value.ownBlock] at hg; omega)
  · exact ownsRow_of_block ms fun g hg => other g _ _ (by simp [Value.ownBlock] at hg; omega)
  · exact ((K.mono fun i h => .inr h).setCell (.inl (.inl rfl)) _).setCell (.inl (.inl rfl)) _

theorem grown_far {a b W : World} {v : Value} (hg : a.grownBy b v.ownBlock) (hv : ∀ g, v.ownBlock = some g → g < W.heap.size) : ∀ k o, W.heap.size ≤ k → a.heap[k]? = some o → b.heap[k]? = some o := fun k o hk h =>
  (hg.block k (Array.getElem?_eq_some_iff.1 h).1 (fun e => by have := hv k e.symm; omega)).trans h
theorem own_ne {v u : Value} (h : v.ownBlock = none ∨ v.ownBlock ≠ u.ownBlock) {g : Nat} (hu : u.ownBlock = some g) : ¬ v.ownBlock = some g := fun e => by
  rcases h with h | h
  · rw [h] at e; cases e
  · exact h (e.trans hu.symm)
theorem last_block (w : World) (o : Obj) (k : Nat) (h : k = w.heap.size) : (w.alloc o).heap[k]? = some o := by subst h; exact heap_alloc_new w o
theorem keep_drew (F : Nat → Prop) (W : World) : Keep F W W.drew := (Keep.refl F W).drew

theorem squareT : (Try.prog.info? 103).map (fun i => (i.zero, i.size, i.bytes)) = some (some (.agg #[.int .i64 0, .int .u64 0, .int .i64 0, .int .i64 0, .int .i64 0, .int .i64 0]), 6, 48) := by kernel_rfl
theorem intT : (Try.prog.info? 3).map (fun i => (i.zero, i.size, i.bytes)) = some (some (.int .i64 0), 1, 8) := by kernel_rfl
theorem sqVals_one (q : Sq) : ∀ u ∈ sqVals q, u.oneCell' = true := by intro u hu; simp [sqVals] at hu; rcases hu with rfl | rfl | rfl | rfl | rfl | rfl <;> rfl
theorem own_map {w : World} {base : Nat} {e : TypeId} {size : Nat} {v : Value} {n : Nat} {xs : List Value} (h : w.ownsRow base e size v n xs) {kb : Nat} {es : Array MapEntry} {c : Nat} (hm : w.heap[kb]? = some (.map es c)) : v.ownBlock ≠ some kb := fun he => by
  rcases h.2 with ⟨rfl, _⟩ | ⟨g, cap, cur, rfl, _, hg, _⟩
  · simp [Value.ownBlock] at he
  · simp [Value.ownBlock] at he
    subst he
    rw [hm] at hg
    cases hg
theorem StoreAt.ne {w : World} {p R : Nat} {L : List Sq} {lv mv : Value} {kb : Nat} (h : StoreAt w p R L lv mv kb) : p ≠ kb ∧ lv.ownBlock ≠ some kb ∧ mv.ownBlock ≠ some kb :=
  ⟨fun e => (by have := h.blk; rw [e, h.mp] at this; cases this), own_map h.ls h.mp, own_map h.ms h.mp⟩
theorem putB_other (w : World) (b : Nat) (o : Obj) (i : Nat) (h : i ≠ b) : (putB w b o).heap[i]? = w.heap[i]? := by
  unfold putB
  simp only [Array.getElem?_setIfInBounds]
  rw [if_neg (by omega)]
theorem putB_same (w : World) (b : Nat) (o : Obj) (h : b < w.heap.size) : (putB w b o).heap[b]? = some o := by
  unfold putB
  simp [h]
theorem putB_size (w : World) (b : Nat) (o : Obj) : (putB w b o).heap.size = w.heap.size := by simp [putB]
theorem heap_drew' (w : World) (i : Nat) : w.drew.heap[i]? = w.heap[i]? := rfl

/-- The store behind a new square. -/
theorem add_done {w W wc : World} {p R : Nat} {L : List Sq} {F : Nat → Prop} {q : Sq} {lv mv : Value} {kb g1 c1 g2 c2 : Nat} (hst : StoreAt w p R L lv mv kb) (hF : ∀ i, Foot p kb lv mv i → F i) (hlt : ∀ i, F i → i < w.heap.size)
    (hB : Below w.heap.size w W) (hz : w.heap.size ≤ W.heap.size) (M : AddMid W wc p R L q lv mv kb g1 c1 g2 c2) (hq : q ∉ L) (hok : SqOK L L.length q) (hr : L.length < R) (wd : World) (hd : wd.heap = wc.heap) (ho : wd.os = wc.os) (ht : wd.tape = wc.tape) (hu : wd.output = wc.output) :
    Acted w (putB wd kb (.map (entries (L ++ [q])) (L.length + 1))) p R (L ++ [q]) F := by
  obtain ⟨n1, n2, n3⟩ := hst.ne
  have hkb : kb < w.heap.size := hlt kb (hF kb (.inr (.inl rfl)))
  have hks := M.keep.size
  have l1 := M.ls.lt g1 rfl
  have l2 := M.ms.lt g2 rfl
  have hp := hlt p (hF p (.inl rfl))
  have b1 : g1 ≠ kb := fun e => by subst e; rcases M.a1 with h | h; exact n2 h; omega
  have b2 : g2 ≠ kb := fun e => by subst e; rcases M.a2 with h | h; exact n3 h; omega
  have o1 : g1 ≠ p := fun e => by subst e; rcases M.a1 with h | h; exact hst.d1 h; omega
  have o2 : g2 ≠ p := fun e => by subst e; rcases M.a2 with h | h; exact hst.d2 h; omega
  have oth : ∀ i, i ≠ kb → (putB wd kb (.map (entries (L ++ [q])) (L.length + 1))).heap[i]? = wc.heap[i]? := fun i hi => (putB_other _ _ _ _ hi).trans (by rw [hd])
  have hsz : (putB wd kb (.map (entries (L ++ [q])) (L.length + 1))).heap.size = wc.heap.size := by rw [putB_size, hd]
  have hlen : (L ++ [q]).length = L.length + 1 := by simp
  have S1 : StoreAt (putB wd kb (.map (entries (L ++ [q])) (L.length + 1))) p R (L ++ [q]) (.slice (some ⟨g1, 0, none⟩) (L.length + 1) c1) (.slice (some ⟨g2, 0, none⟩) (L.length + 1) c2) kb := by
    refine ⟨(oth p n1).trans M.blk, ?_, ?_, ?_, ?_, ?_, ?_, hst.wf.snoc hok hq, by rw [hlen]; exact hr, hst.small⟩
    · rw [hlen, cellsL_snoc]
      exact ownsRow_of_block M.ls fun g hg => oth g (by obtain rfl : g1 = g := by simpa [Value.ownBlock] using hg
                                                        exact b1)
    · rw [hlen, manyVals_snoc]
      exact ownsRow_of_block M.ms fun g hg => oth g (by obtain rfl : g2 = g := by simpa [Value.ownBlock] using hg
                                                        exact b2)
    · rw [hlen]
      exact putB_same _ _ _ (by rw [hd]; omega)
    · simp [Value.ownBlock]; exact o1
    · simp [Value.ownBlock]; exact o2
    · right; simp [Value.ownBlock]; exact M.ne
  have G : ∀ g, (lv.ownBlock = some g ∨ W.heap.size ≤ g) → g < wc.heap.size → Gr F w (putB wd kb (.map (entries (L ++ [q])) (L.length + 1))) g := fun g h hg => by
    rcases h with h | h
    · exact .inl (hF g (.inr (.inr (.inl h))))
    · exact .inr ⟨by omega, by rw [hsz]; exact hg⟩
  have G2 : ∀ g, (mv.ownBlock = some g ∨ W.heap.size ≤ g) → g < wc.heap.size → Gr F w (putB wd kb (.map (entries (L ++ [q])) (L.length + 1))) g := fun g h hg => by
    rcases h with h | h
    · exact .inl (hF g (.inr (.inr (.inr h))))
    · exact .inr ⟨by omega, by rw [hsz]; exact hg⟩
  refine ⟨⟨⟨_, _, kb, S1, fun i hi => ?_⟩, fun i hi => ?_⟩, ?_⟩
  · rcases hi with rfl | rfl | hi | hi
    · exact .inl (hF _ (.inl rfl))
    · exact .inl (hF _ (.inr (.inl rfl)))
    · obtain rfl : g1 = i := by simpa [Value.ownBlock] using hi
      exact G g1 M.a1 l1.2
    · obtain rfl : g2 = i := by simpa [Value.ownBlock] using hi
      exact G2 g2 M.a2 l2.2
  · rcases hi with hi | hi
    · have := hlt i hi
      rw [hsz]
      omega
    · exact hi.2
  · refine ⟨?_, ?_, ?_, by rw [hsz]; omega, fun i hi hf => ?_⟩
    · exact ho.trans (M.keep.os.trans hB.os)
    · exact ht.trans (M.keep.tape.trans hB.tape)
    · exact hu.trans (M.keep.output.trans hB.output)
    · have c1 : i ≠ kb := fun e => hf (e ▸ hF kb (.inr (.inl rfl)))
      rw [oth i c1, M.keep.block i (by omega) (fun h => by
        rcases h with h | h | h
        · exact hf (h ▸ hF p (.inl rfl))
        · exact hf (hF i (.inr (.inr (.inl h))))
        · exact hf (hF i (.inr (.inr (.inr h))))), hB.block i hi]
end Go.Proofs.Ytmabgfdibbidcaa
