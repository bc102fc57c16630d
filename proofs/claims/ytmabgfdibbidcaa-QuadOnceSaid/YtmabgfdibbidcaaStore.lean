/- What a store of squares is in memory; what a call that keeps to its blocks leaves as it was. -/
import Derived.Test.YtmabgfdibbidcaaSqSet
import Derived.Test.YtmabgfdibbidcaaTileA
import Derived.Maps.Own
import Derived.Laws.OwnMore
namespace Go.Proofs.Ytmabgfdibbidcaa
open Go.RowKit

/-- A square as Go's struct. -/
def sqVals (q : Sq) : List Value := [.int .i64 (q.lv : Nat), .int .u64 (q.tl : Nat), .int .i64 (q.ka : Nat), .int .i64 (q.kb : Nat), .int .i64 (q.kc : Nat), .int .i64 (q.kd : Nat)]
def sqV (q : Sq) : Value := .agg #[.int .i64 (q.lv : Nat), .int .u64 (q.tl : Nat), .int .i64 (q.ka : Nat), .int .i64 (q.kb : Nat), .int .i64 (q.kc : Nat), .int .i64 (q.kd : Nat)]
theorem sqV_inj {p q : Sq} (h : sqV p = sqV q) : p = q := by
  unfold sqV at h
  simp only [Value.agg.injEq, Array.mk.injEq, List.cons.injEq, Value.int.injEq, true_and, and_true, Int.natCast_inj] at h
  exact Sq.eq h.1 h.2.1 h.2.2.1 h.2.2.2.1 h.2.2.2.2.1 h.2.2.2.2.2
def entryOf (i : Nat) (q : Sq) : MapEntry := ⟨sqV q, .int .i64 ((i + 1 : Nat) : Int), i⟩
def entries (L : List Sq) : Array MapEntry := (L.mapIdx entryOf).toArray
theorem entries_snoc (L : List Sq) (q : Sq) : entries (L ++ [q]) = (entries L).push (entryOf L.length q) := by
  simp [entries, List.mapIdx_append]
theorem entries_get (L : List Sq) (i : Nat) : (entries L)[i]? = (L[i]?).map (entryOf i) := by simp [entries]
def manyVals (L : List Sq) : List Value := (counts L).map fun (n : Nat) => Value.int .i64 (n : Int)
def cellsL (L : List Sq) : List Value := L.flatMap sqVals
theorem cellsL_len (L : List Sq) : (cellsL L).length = L.length * 6 := by
  induction L with
  | nil => rfl
  | cons q t ih => simp only [cellsL, List.flatMap_cons, List.length_append, List.length_cons] at ih ⊢; rw [ih]; simp [sqVals]; omega
theorem cellsL_get (L : List Sq) (i : Nat) (q : Sq) (h : L[i]? = some q) (j : Nat) (hj : j < 6) : (cellsL L)[6 * i + j]? = (sqVals q)[j]? := by
  induction L generalizing i with
  | nil => simp at h
  | cons p t ih =>
    unfold cellsL at ih ⊢
    rw [List.flatMap_cons]
    cases i with
    | zero =>
      simp at h
      subst h
      rw [List.getElem?_append_left (by simp [sqVals]; omega)]
      simp
    | succ i =>
      simp at h
      rw [List.getElem?_append_right (by simp [sqVals]; omega)]
      have := ih i h
      rw [← this]
      congr 1
      simp [sqVals]
      omega
theorem cellsL_snoc (L : List Sq) (q : Sq) : cellsL (L ++ [q]) = cellsL L ++ sqVals q := by simp [cellsL]
theorem manyVals_snoc (L : List Sq) (q : Sq) : manyVals (L ++ [q]) = manyVals L ++ [.int .i64 (cntQ (counts L) q : Nat)] := by simp [manyVals, counts_snoc]

/-- A store in memory: its room, its squares; where they lie. -/
structure StoreAt (w : World) (p R : Nat) (L : List Sq) (lv mv : Value) (kb : Nat) : Prop where
  blk : w.heap[p]? = some (.cells #[.int .i64 (R : Nat), lv, mv, .map (some kb)] 100 (0, 0))
  ls : w.ownsRow 0 103 6 lv L.length (cellsL L)
  ms : w.ownsRow 0 3 1 mv L.length (manyVals L)
  mp : w.heap[kb]? = some (.map (entries L) L.length)
  d1 : lv.ownBlock ≠ some p
  d2 : mv.ownBlock ≠ some p
  d3 : lv.ownBlock = none ∨ lv.ownBlock ≠ mv.ownBlock
  wf : WF L
  room : L.length ≤ R
  small : R ≤ 65536
def Foot (p kb : Nat) (lv mv : Value) (i : Nat) : Prop := i = p ∨ i = kb ∨ lv.ownBlock = some i ∨ mv.ownBlock = some i
structure Store (w : World) (p R : Nat) (L : List Sq) (F : Nat → Prop) : Prop where
  at' : ∃ lv mv kb, StoreAt w p R L lv mv kb ∧ ∀ i, Foot p kb lv mv i → F i
  lt : ∀ i, F i → i < w.heap.size

/-- Of all blocks that were there only those of F may have turned. -/
structure Keep (F : Nat → Prop) (w w' : World) : Prop where
  os : w'.os = w.os
  tape : w'.tape = w.tape
  output : w'.output = w.output
  size : w.heap.size ≤ w'.heap.size
  block : ∀ i, i < w.heap.size → ¬ F i → w'.heap[i]? = w.heap[i]?
/-- F, and what is new. -/
def Gr (F : Nat → Prop) (w w' : World) (i : Nat) : Prop := F i ∨ (w.heap.size ≤ i ∧ i < w'.heap.size)

theorem Keep.refl (F : Nat → Prop) (w : World) : Keep F w w := ⟨rfl, rfl, rfl, Nat.le_refl _, fun _ _ _ => rfl⟩
theorem Keep.trans {F G : Nat → Prop} {a b c : World} (h : Keep F a b) (k : Keep G b c) (hG : ∀ i, i < a.heap.size → ¬ F i → ¬ G i) : Keep F a c :=
  ⟨k.os.trans h.os, k.tape.trans h.tape, k.output.trans h.output, Nat.le_trans h.size k.size, fun i hi hf => (k.block i (Nat.lt_of_lt_of_le hi h.size) (hG i hi hf)).trans (h.block i hi hf)⟩
theorem Keep.mono {F G : Nat → Prop} {a b : World} (h : Keep F a b) (hG : ∀ i, F i → G i) : Keep G a b :=
  ⟨h.os, h.tape, h.output, h.size, fun i hi hf => h.block i hi (fun e => hf (hG i e))⟩
theorem Keep.of_below {F : Nat → Prop} {B : Nat} {a b : World} (h : Below B a b) (hB : a.heap.size ≤ B) : Keep F a b :=
  ⟨h.os, h.tape, h.output, h.size, fun i hi _ => h.block i (Nat.lt_of_lt_of_le hi hB)⟩
theorem Keep.below {F : Nat → Prop} {B : Nat} {a b : World} (h : Keep F a b) (hF : ∀ i, i < B → ¬ F i) (hB : B ≤ a.heap.size) : Below B a b :=
  ⟨h.os, h.tape, h.output, h.size, fun i hi => h.block i (Nat.lt_of_lt_of_le hi hB) (hF i hi)⟩
theorem Keep.then {F : Nat → Prop} {a b c : World} (h : Keep F a b) (k : Keep (Gr F a b) b c) : Keep F a c :=
  h.trans k fun i hi hf => fun hg => by
    rcases hg with hg | hg
    · exact hf hg
    · omega
theorem Gr.then {F : Nat → Prop} {a b c : World} (h1 : a.heap.size ≤ b.heap.size) (h2 : b.heap.size ≤ c.heap.size) (i : Nat) : Gr (Gr F a b) b c i ↔ Gr F a c i := by
  unfold Gr
  constructor
  · rintro ((h | h) | h)
    · exact .inl h
    · exact .inr ⟨h.1, by omega⟩
    · exact .inr ⟨by omega, h.2⟩
  · rintro (h | h)
    · exact .inl (.inl h)
    · by_cases hb : i < b.heap.size
      · exact .inl (.inr ⟨h.1, hb⟩)
      · exact .inr ⟨by omega, h.2⟩
theorem Keep.alloc {F : Nat → Prop} {a b : World} (h : Keep F a b) (o : Obj) : Keep F a (b.alloc o) :=
  ⟨h.os, h.tape, h.output, by simp; have := h.size; omega, fun i hi hf => (Below.heap_alloc _ _ _ (Nat.lt_of_lt_of_le hi h.size)).trans (h.block i hi hf)⟩
theorem Keep.setRow {F : Nat → Prop} {a b : World} (h : Keep F a b) {g : Nat} (hg : F g ∨ a.heap.size ≤ g) (cs : Array Value) : Keep F a (b.setRow g cs) :=
  ⟨h.os, h.tape, h.output, by rw [size_setRow]; exact h.size, fun i hi hf => (setRow_other b g i cs (fun e => by subst e; rcases hg with hg | hg; exact hf hg; omega)).trans (h.block i hi hf)⟩
theorem Keep.setCell {F : Nat → Prop} {a b : World} (h : Keep F a b) {p : Addr} (hg : F p.block ∨ a.heap.size ≤ p.block) (v : Value) : Keep F a (b.setCell p v) :=
  ⟨h.os, h.tape, h.output, by simp [World.setCell]; exact h.size, fun i hi hf => (heap_setCell_other b p i v (fun e => by subst e; rcases hg with hg | hg; exact hf hg; omega)).trans (h.block i hi hf)⟩
theorem Keep.drew {F : Nat → Prop} {a b : World} (h : Keep F a b) : Keep F a b.drew := ⟨h.os, h.tape, h.output, h.size, h.block⟩

theorem ownsRow_of_block {w w' : World} {base : Nat} {e : TypeId} {size : Nat} {v : Value} {n : Nat} {xs : List Value} (h : w.ownsRow base e size v n xs) (hb : ∀ g, v.ownBlock = some g → w'.heap[g]? = w.heap[g]?) : w'.ownsRow base e size v n xs := by
  refine ⟨h.1, ?_⟩
  rcases h.2 with hn | ⟨g, cap, cur, rfl, h1, hgg, rest⟩
  · exact .inl hn
  · exact .inr ⟨g, cap, cur, rfl, h1, (hb g rfl).trans hgg, rest⟩
theorem StoreAt.of_blocks {w w' : World} {p R : Nat} {L : List Sq} {lv mv : Value} {kb : Nat} (h : StoreAt w p R L lv mv kb) (hb : ∀ i, Foot p kb lv mv i → w'.heap[i]? = w.heap[i]?) : StoreAt w' p R L lv mv kb :=
  ⟨(hb p (.inl rfl)).trans h.blk, ownsRow_of_block h.ls (fun g hg => hb g (.inr (.inr (.inl hg)))), ownsRow_of_block h.ms (fun g hg => hb g (.inr (.inr (.inr hg)))), (hb kb (.inr (.inl rfl))).trans h.mp, h.d1, h.d2, h.d3, h.wf, h.room, h.small⟩
theorem Store.kept {w w' : World} {p R : Nat} {L : List Sq} {F G : Nat → Prop} (h : Store w p R L F) (k : Keep G w w') (hd : ∀ i, F i → ¬ G i) : Store w' p R L F := by
  obtain ⟨lv, mv, kb, hs, hf⟩ := h.at'
  exact ⟨⟨lv, mv, kb, hs.of_blocks fun i hi => k.block i (h.lt i (hf i hi)) (hd i (hf i hi)), hf⟩, fun i hi => Nat.lt_of_lt_of_le (h.lt i hi) k.size⟩
theorem Store.below {w w' : World} {p R : Nat} {L : List Sq} {F : Nat → Prop} (h : Store w p R L F) (k : Below w.heap.size w w') : Store w' p R L F :=
  h.kept (G := fun _ => False) (Keep.of_below k (Nat.le_refl _)) (fun _ _ h => h)
theorem Store.alloc {w : World} {p R : Nat} {L : List Sq} {F : Nat → Prop} (h : Store w p R L F) (o : Obj) : Store (w.alloc o) p R L F := h.below ((Below.refl _ _).alloc (Nat.le_refl _) o)
theorem Store.more {w : World} {p R : Nat} {L : List Sq} {F G : Nat → Prop} (h : Store w p R L F) (hg : ∀ i, F i → G i) (hl : ∀ i, G i → i < w.heap.size) : Store w p R L G := by
  obtain ⟨lv, mv, kb, hs, hf⟩ := h.at'
  exact ⟨⟨lv, mv, kb, hs, fun i hi => hg i (hf i hi)⟩, hl⟩
theorem Store.wf {w : World} {p R : Nat} {L : List Sq} {F : Nat → Prop} (h : Store w p R L F) : WF L := by obtain ⟨_, _, _, hs, _⟩ := h.at'; exact hs.wf
theorem Store.room {w : World} {p R : Nat} {L : List Sq} {F : Nat → Prop} (h : Store w p R L F) : L.length ≤ R := by obtain ⟨_, _, _, hs, _⟩ := h.at'; exact hs.room
theorem Store.small {w : World} {p R : Nat} {L : List Sq} {F : Nat → Prop} (h : Store w p R L F) : R ≤ 65536 := by obtain ⟨_, _, _, hs, _⟩ := h.at'; exact hs.small
theorem Store.self {w : World} {p R : Nat} {L : List Sq} {F : Nat → Prop} (h : Store w p R L F) : F p := by obtain ⟨_, _, _, _, hf⟩ := h.at'; exact hf p (.inl rfl)

/-- What an act of a store leaves: the store with its new list, in its blocks and new ones; all else as it was. -/
structure Acted (w w' : World) (p R : Nat) (L' : List Sq) (F : Nat → Prop) : Prop where
  st : Store w' p R L' (Gr F w w')
  keep : Keep F w w'
theorem Acted.same {w w' : World} {p R : Nat} {L : List Sq} {F : Nat → Prop} (h : Store w p R L F) (k : Below w.heap.size w w') : Acted w w' p R L F :=
  ⟨(h.below k).more (fun _ h => .inl h) (fun i hi => by rcases hi with hi | hi; exact Nat.lt_of_lt_of_le (h.lt i hi) k.size; exact hi.2), Keep.of_below k (Nat.le_refl _)⟩
theorem Acted.then {a b c : World} {p R : Nat} {L M : List Sq} {F : Nat → Prop} (h : Acted a b p R L F) (k : Acted b c p R M (Gr F a b)) : Acted a c p R M F :=
  ⟨k.st.more (fun i hi => (Gr.then h.keep.size k.keep.size i).1 hi) (fun i hi => k.st.lt i ((Gr.then h.keep.size k.keep.size i).2 hi)), h.keep.then k.keep⟩
theorem Acted.before {a b c : World} {p R : Nat} {M : List Sq} {F : Nat → Prop} (h : Below a.heap.size a b) (k : Acted b c p R M F) : Acted a c p R M F :=
  ⟨k.st.more (fun i hi => by rcases hi with hi | hi; exact .inl hi; exact .inr ⟨Nat.le_trans h.size hi.1, hi.2⟩) (fun i hi => by
      rcases hi with hi | hi
      · exact k.st.lt i (.inl hi)
      · exact hi.2),
    ⟨k.keep.os.trans h.os, k.keep.tape.trans h.tape, k.keep.output.trans h.output, Nat.le_trans h.size k.keep.size, fun i hi hf => (k.keep.block i (Nat.lt_of_lt_of_le hi h.size) hf).trans (h.block i hi)⟩⟩
theorem Acted.after {a b c : World} {p R : Nat} {M : List Sq} {F : Nat → Prop} (h : Acted a b p R M F) (k : Below b.heap.size b c) : Acted a c p R M F :=
  h.then (Acted.same h.st k)
theorem Acted.lt {a b : World} {p R : Nat} {M : List Sq} {F : Nat → Prop} (h : Acted a b p R M F) : a.heap.size ≤ b.heap.size := h.keep.size
end Go.Proofs.Ytmabgfdibbidcaa
