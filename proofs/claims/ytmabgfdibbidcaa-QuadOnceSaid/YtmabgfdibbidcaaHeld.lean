/- What a law holds while it calls: its stores, each in its own blocks, and its own boxes. -/
import Derived.Test.YtmabgfdibbidcaaQuadK
namespace Go.Proofs.Ytmabgfdibbidcaa
open Go.RowKit

/-- A store: where, its room, its list, its blocks. -/
structure St where
  p : Nat
  R : Nat
  L : List Sq
  F : Nat → Prop
structure Held (w W : World) (ss : List St) (bs : List (Nat × Obj)) : Prop where
  keep : Below w.heap.size w W
  sts : ∀ s ∈ ss, Store W s.p s.R s.L s.F ∧ ∀ i, s.F i → w.heap.size ≤ i
  blk : ∀ b ∈ bs, W.heap[b.1]? = some b.2 ∧ w.heap.size ≤ b.1 ∧ ∀ s ∈ ss, ¬ s.F b.1
  dis : ss.Pairwise (fun s t => ∀ i, s.F i → ¬ t.F i)

theorem mem_swap {α : Type} {x a b : α} {l : List α} (h : x ∈ a :: b :: l) : x ∈ b :: a :: l := by
  rcases List.mem_cons.1 h with rfl | h
  · simp
  · rcases List.mem_cons.1 h with rfl | h
    · simp
    · simp [h]
theorem heap_lt {W : World} {b : Nat} {o : Obj} (h : W.heap[b]? = some o) : b < W.heap.size := (Array.getElem?_eq_some_iff.1 h).1
theorem Held.start (w : World) : Held w w [] [] := ⟨Below.refl _ _, by simp, by simp, by simp⟩
theorem Held.head {w W : World} {s : St} {ss : List St} {bs : List (Nat × Obj)} (h : Held w W (s :: ss) bs) : Store W s.p s.R s.L s.F := (h.sts s (by simp)).1
theorem Held.second {w W : World} {s t : St} {ss : List St} {bs : List (Nat × Obj)} (h : Held w W (s :: t :: ss) bs) : Store W t.p t.R t.L t.F := (h.sts t (by simp)).1
theorem Held.swap {w W : World} {s t : St} {ss : List St} {bs : List (Nat × Obj)} (h : Held w W (s :: t :: ss) bs) : Held w W (t :: s :: ss) bs := by
  refine ⟨h.keep, fun x hx => h.sts x (mem_swap hx), fun b hb => ⟨(h.blk b hb).1, (h.blk b hb).2.1, fun x hx => (h.blk b hb).2.2 x (mem_swap hx)⟩, ?_⟩
  have h1 := h.dis
  simp only [List.pairwise_cons, List.mem_cons] at h1 ⊢
  refine ⟨fun x hx => ?_, fun x hx => h1.1 x (.inr hx), h1.2.2⟩
  rcases hx with rfl | hx
  · exact fun i hi hj => h1.1 t (.inl rfl) i hj hi
  · exact h1.2.1 x hx
theorem Held.b0 {w W : World} {ss : List St} {b : Nat} {o : Obj} {bs : List (Nat × Obj)} (h : Held w W ss ((b, o) :: bs)) : W.heap[b]? = some o := (h.blk (b, o) (by simp)).1
theorem Held.b1 {w W : World} {ss : List St} {b c : Nat} {o u : Obj} {bs : List (Nat × Obj)} (h : Held w W ss ((b, o) :: (c, u) :: bs)) : W.heap[c]? = some u := (h.blk (c, u) (by simp)).1
theorem Held.b2 {w W : World} {ss : List St} {b c d : Nat} {o u v : Obj} {bs : List (Nat × Obj)} (h : Held w W ss ((b, o) :: (c, u) :: (d, v) :: bs)) : W.heap[d]? = some v := (h.blk (d, v) (by simp)).1
theorem Held.tail {w W : World} {ss : List St} {b : Nat × Obj} {bs : List (Nat × Obj)} (h : Held w W ss (b :: bs)) : Held w W ss bs := ⟨h.keep, h.sts, fun c hc => h.blk c (by simp [hc]), h.dis⟩
theorem Held.swapB {w W : World} {ss : List St} {b c : Nat × Obj} {bs : List (Nat × Obj)} (h : Held w W ss (b :: c :: bs)) : Held w W ss (c :: b :: bs) := ⟨h.keep, h.sts, fun x hx => h.blk x (mem_swap hx), h.dis⟩

theorem Held.below {w W W' : World} {ss : List St} {bs : List (Nat × Obj)} (h : Held w W ss bs) (k : Below W.heap.size W W') : Held w W' ss bs :=
  ⟨h.keep.trans (k.mono h.keep.size), fun s hs => ⟨(h.sts s hs).1.below k, (h.sts s hs).2⟩, fun b hb => ⟨(k.block _ (heap_lt (h.blk b hb).1)).trans (h.blk b hb).1, (h.blk b hb).2⟩, h.dis⟩
theorem Held.alloc {w W : World} {ss : List St} {bs : List (Nat × Obj)} (h : Held w W ss bs) (o : Obj) : Held w (W.alloc o) ss bs := h.below ((Below.refl _ _).alloc (Nat.le_refl _) o)
theorem Held.drewN {w W : World} {ss : List St} {bs : List (Nat × Obj)} (h : Held w W ss bs) (n : Nat) : Held w (W.drewN n) ss bs := h.below (below_drewN (Below.refl _ _) n)
/-- A new box. -/
theorem Held.box {w W : World} {ss : List St} {bs : List (Nat × Obj)} (h : Held w W ss bs) (o : Obj) : Held w (W.alloc o) ss ((W.heap.size, o) :: bs) := by
  have h' := h.alloc o
  refine ⟨h'.keep, h'.sts, fun b hb => ?_, h'.dis⟩
  rcases List.mem_cons.1 hb with rfl | hb
  · exact ⟨heap_alloc_new W o, h.keep.size, fun s hs hF => by have := (h.sts s hs).1.lt _ hF; omega⟩
  · exact h'.blk b hb
/-- An act of the first store. -/
theorem Held.acted {w W W' : World} {p R : Nat} {L L' : List Sq} {F : Nat → Prop} {ss : List St} {bs : List (Nat × Obj)} (h : Held w W (⟨p, R, L, F⟩ :: ss) bs) (k : Acted W W' p R L' F) : Held w W' (⟨p, R, L', Gr F W W'⟩ :: ss) bs := by
  have hF := (h.sts ⟨p, R, L, F⟩ (by simp)).2
  have hd := (List.pairwise_cons.1 h.dis)
  refine ⟨h.keep.trans (k.keep.below (fun i hi hf => by have := hF i hf; omega) h.keep.size), fun s hs => ?_, fun b hb => ⟨?_, (h.blk b hb).2.1, fun s hs => ?_⟩, ?_⟩
  · rcases List.mem_cons.1 hs with rfl | hs
    · refine ⟨k.st, fun i hi => ?_⟩
      rcases hi with hi | hi
      · exact hF i hi
      · have := h.keep.size
        have := hi.1
        omega
    · have h1 := h.sts s (by simp [hs])
      exact ⟨h1.1.kept k.keep fun i hi hf => hd.1 s hs i hf hi, h1.2⟩
  · have h1 := h.blk b hb
    exact (k.keep.block _ (heap_lt h1.1) (h1.2.2 ⟨p, R, L, F⟩ List.mem_cons_self)).trans h1.1
  · have h1 := h.blk b hb
    rcases List.mem_cons.1 hs with rfl | hs
    · intro hf
      rcases hf with hf | hf
      · exact h1.2.2 _ List.mem_cons_self hf
      · have := heap_lt h1.1
        have := hf.1
        omega
    · exact h1.2.2 s (by simp [hs])
  · refine List.pairwise_cons.2 ⟨fun t ht i hi hf => ?_, hd.2⟩
    rcases hi with hi | hi
    · exact hd.1 t ht i hi hf
    · have := (h.sts t (by simp [ht])).1.lt i hf
      have := hi.1
      omega
/-- A box written. -/
theorem Held.put {w W W' : World} {ss : List St} {b : Nat} {o o' : Obj} {bs : List (Nat × Obj)} (h : Held w W ss ((b, o) :: bs)) (hb : ∀ c ∈ bs, c.1 ≠ b) (k : Keep (fun i => i = b) W W') (hs : W'.heap[b]? = some o') : Held w W' ss ((b, o') :: bs) := by
  have h0 := h.blk (b, o) (by simp)
  refine ⟨h.keep.trans (k.below (fun i hi hf => by have := h0.2.1; omega) h.keep.size), fun s hs' => ⟨(h.sts s hs').1.kept k fun i hi hf => by subst hf; exact h0.2.2 s hs' hi, (h.sts s hs').2⟩, fun c hc => ?_, h.dis⟩
  rcases List.mem_cons.1 hc with rfl | hc
  · exact ⟨hs, h0.2⟩
  · have h1 := h.blk c (by simp [hc])
    exact ⟨(k.block _ (heap_lt h1.1) (hb c hc)).trans h1.1, h1.2⟩
theorem Held.setRow {w W : World} {ss : List St} {b : Nat} {cs : Array Value} {t : TypeId} {bs : List (Nat × Obj)} (h : Held w W ss ((b, .cells cs t (0, 0)) :: bs)) (hb : ∀ c ∈ bs, c.1 ≠ b) (cs' : Array Value) : Held w (W.setRow b cs') ss ((b, .cells cs' t (0, 0)) :: bs) :=
  h.put hb ((Keep.refl (fun i => i = b) _).setRow (.inl (rfl : b = b)) cs') (setRow_heap _ _ _ _ _ _ h.b0)
theorem Held.setCell {w W : World} {ss : List St} {b : Nat} {cs : Array Value} {t : TypeId} {bs : List (Nat × Obj)} (h : Held w W ss ((b, .cells cs t (0, 0)) :: bs)) (hb : ∀ c ∈ bs, c.1 ≠ b) (i : Nat) (v : Value) : Held w (W.setCell ⟨b, i, none⟩ v) ss ((b, .cells (cs.setIfInBounds i v) t (0, 0)) :: bs) :=
  h.put hb ((Keep.refl (fun i => i = b) _).setCell (p := ⟨b, i, none⟩) (.inl (rfl : b = b)) v) (heap_setCell_same _ _ _ _ _ _ h.b0)

/-- A new store. -/
theorem new_st (W : World) (R : Nat) (h1 : 1 ≤ R) (h2 : R ≤ 65536) :
    Calls Try.prog 14 #[.int .i64 (R : Nat)] W fun e w' => e = .returned (.tuple #[.pointer (some ⟨W.heap.size + 1, 0, none⟩), .nilIface]) ∧
      Store w' (W.heap.size + 1) R [] (fun i => W.heap.size ≤ i ∧ i < W.heap.size + 2) ∧ Below W.heap.size W w' ∧ w'.heap.size = W.heap.size + 2 :=
  (new_ok W R h1 h2).mono fun e w' h => ⟨h.1, by rw [h.2]; exact new_store W R h2, by rw [h.2]; exact ((Below.refl _ _).alloc (Nat.le_refl _) _).alloc (by simp) _, by rw [h.2]; simp⟩
theorem Held.new {w W W' : World} {ss : List St} {bs : List (Nat × Obj)} {p R : Nat} (h : Held w W ss bs) (hs : Store W' p R [] (fun i => W.heap.size ≤ i ∧ i < W.heap.size + 2)) (k : Below W.heap.size W W') :
    Held w W' (⟨p, R, [], fun i => W.heap.size ≤ i ∧ i < W.heap.size + 2⟩ :: ss) bs := by
  have h' := h.below k
  have hz := h.keep.size
  refine ⟨h'.keep, fun s hs' => ?_, fun b hb => ⟨(h'.blk b hb).1, (h'.blk b hb).2.1, fun s hs' => ?_⟩, List.pairwise_cons.2 ⟨fun t ht i hi hf => ?_, h'.dis⟩⟩
  · rcases List.mem_cons.1 hs' with rfl | hs'
    · exact ⟨hs, fun i hi => by omega⟩
    · exact h'.sts s hs'
  · rcases List.mem_cons.1 hs' with rfl | hs'
    · intro hf
      have := heap_lt (h.blk b hb).1
      simp at hf
      omega
    · exact (h'.blk b hb).2.2 s hs'
  · have := (h.sts t ht).1.lt i hf
    simp at hi
    omega
end Go.Proofs.Ytmabgfdibbidcaa
