/- Contracts of package tile: a tile's rows, and a field into which a tile is laid. -/
import Derived.Test.YtibcekdnkdkpiaaTileB
import Derived.Test.YtibcekdnkdkpiaaFence
namespace Go.Proofs.Ytibcekdnkdkpiaa
open Go.RowKit Go.Shelf
attribute [local go_sem] Oper.semAt_some

/-- Row j of a tile. -/
def trow (t j : Nat) : Nat := t / 2 ^ (8 * j) % 256
theorem trow_lt (t j : Nat) : trow t j < 256 := Nat.mod_lt _ (by decide)
abbrev RP := { p : Nat × Nat // p.1 < 8 ∧ p.2 < 256 }
def rowEnc (p : RP) : Array Value := #[.int .i64 p.1.1, .int .u32 p.1.2]
def rpAt (t j : Nat) : RP := ⟨(j % 8, trow t j), Nat.mod_lt _ (by decide), trow_lt t j⟩
theorem rpAt_lt {t j : Nat} (h : j < 8) : (rpAt t j).1 = (j, trow t j) := by show (j % 8, trow t j) = _; rw [Nat.mod_eq_of_lt (by omega)]
def rowsUpto (t k : Nat) : List RP := (List.range k).map (rpAt t)
theorem rowsUpto_succ (t k : Nat) : rowsUpto t (k + 1) = rowsUpto t k ++ [rpAt t k] := by simp [rowsUpto, List.range_succ]
theorem rowsUpto_length (t k : Nat) : (rowsUpto t k).length = k := by simp [rowsUpto]

theorem trow_eq (t k : Nat) (h : N64 t) : bits .and .u64 ((t : Int) / 2 ^ (8 * k)) 255 % 4294967296 = (trow t k : Int) := by
  have e : (t : Int) / 2 ^ (8 * k) = ((t / 2 ^ (8 * k) : Nat) : Int) := by simp
  have hle := Nat.div_le_self t (2 ^ (8 * k))
  have ht : t < 18446744073709551616 := h
  unfold trow
  rw [e]
  generalize t / 2 ^ (8 * k) = c at hle
  rw [show (255 : Int) = ((255 : Nat) : Int) from rfl, u64_and_nat _ _ (by omega) (by decide), nat_mask8]
  omega

set_option maxRecDepth 100000 in
set_option maxHeartbeats 1000000 in
theorem rows_gives (n t : Nat) (ht : N64 t) (hn : 1 ≤ n) (w : World) :
    Gives Fence.wide n Try.prog 38 #[.int .u64 (t : Nat)] #[] rowEnc (fun xs => xs = rowsUpto t 8) 8 w := by
  intro l J W hW hJ hY h0
  refine callsIn_of_wp Try.func38 rfl trivial ?_ rfl
  simp only [Try.ntmps38, List.size_toArray, List.length_cons, List.length_nil, Nat.reduceAdd, Nat.reduceSub, Array.replicate_succ, Array.replicate_zero, List.push_toArray, List.append_toArray, List.nil_append, List.cons_append]
  gi_wp2
  gi_loopw [5] (fun i wr => ∃ k : Nat, k ≤ 8 ∧ i = .int .i64 k ∧ J (rowsUpto t k) wr) (fun i _ => 8 - (intOf i).toNat)
  case atStart => exact ⟨0, Nat.zero_le _, rfl, h0⟩
  case round =>
    obtain ⟨k, hk, rfl, hJs⟩ := hrel
    by_cases hlt : k < 8
    · obtain ⟨fn, tmps, assign, body, hy, hR⟩ := hY _ (rpAt t k) wr hJs (by rw [rowsUpto_length]; exact hlt)
      unfold rowEnc at hy
      rw [rpAt_lt hlt] at hy
      have hrow := trow_eq t k ht
      gi_wp2
      refine hR.mono ?_
      rintro e W3 ⟨rfl, hJ3⟩
      gi_wp2
      go_roundw
      case rel => exact ⟨k + 1, by omega, by go_num, by rw [rowsUpto_succ]; exact hJ3⟩
      case measure => simp [intOf]; omega
    · obtain rfl : k = 8 := by omega
      gi_wp2
      go_end0
      exact ⟨⟨_, rfl⟩, ⟨_, rfl, hJs⟩⟩


/-- A field's cells, row by row. -/
def fcells (F : Nat → Nat) : Array Value := ((List.range 24).map fun j => Value.int .u32 (F j)).toArray
theorem fcells_size (F : Nat → Nat) : (fcells F).size = 24 := by simp [fcells]
theorem fcells_one (F : Nat → Nat) : (fcells F).all (·.oneCell') = true := by
  rw [Array.all_eq_true_iff_forall_mem]
  intro v hv
  unfold fcells at hv
  simp at hv
  obtain ⟨i, _, rfl⟩ := hv
  rfl
def IsF (W : World) (fb : Nat) (F : Nat → Nat) : Prop := W.heap[fb]? = some (.cells (fcells F) 66 (0, 0))
def upd (F : Nat → Nat) (j v : Nat) : Nat → Nat := fun i => if i = j then v else F i
theorem fcells_set (F : Nat → Nat) (j v : Nat) (hj : j < 24) : (fcells F).setIfInBounds j (.int .u32 v) = fcells (upd F j v) := by
  apply Array.ext_getElem?
  intro i
  unfold fcells upd
  rw [Array.getElem?_setIfInBounds]
  by_cases h : j = i
  · subst h; simp [hj]
  · have h' : ¬ i = j := fun e => h e.symm
    by_cases hi : i < 24
    · simp [h, h', hi]
    · simp [h, hi]
theorem IsF.cell {W : World} {fb : Nat} {F : Nat → Nat} (h : IsF W fb F) {j : Nat} (hj : j < 24) : W.cell? ⟨fb, j, none⟩ = some (.int .u32 (F j)) := by
  have := cell_of_row W fb j _ _ _ h
  rw [this]; simp [fcells, hj]
theorem IsF.frozen {W : World} {fb : Nat} {F : Nat → Nat} (h : IsF W fb F) (j : Nat) : W.frozen? ⟨fb, j, none⟩ = false := by
  unfold IsF at h; simp [World.frozen?, h]
theorem IsF.set {W : World} {fb : Nat} {F : Nat → Nat} (h : IsF W fb F) {j : Nat} (hj : j < 24) (v : Nat) : IsF (W.setCell ⟨fb, j, none⟩ (.int .u32 v)) fb (upd F j v) := by
  unfold IsF
  rw [setCell_eq_setRow W fb j _ _ _ _ h, setRow_heap _ _ _ _ _ _ h, fcells_set F j v hj]
theorem IsF.lt {W : World} {fb : Nat} {F : Nat → Nat} (h : IsF W fb F) : fb < W.heap.size := (Array.getElem?_eq_some_iff.1 h).1
theorem IsF.kept {W W' : World} {fb : Nat} {F : Nat → Nat} {row : Option Nat} (h : IsF W fb F) (hg : W.grownBy W' row) (hne : row ≠ some fb) : IsF W' fb F := by
  have hl := h.lt
  unfold IsF at *
  rw [hg.block fb hl (fun e => hne e.symm)]; exact h

def layStep (x y : Nat) (F : Nat → Nat) (p : RP) : Nat → Nat := upd F (y + p.1.1) (F (y + p.1.1) ||| p.1.2 * 2 ^ x)
def layAll (x y : Nat) (F : Nat → Nat) (l : List RP) : Nat → Nat := l.foldl (layStep x y) F
theorem layAll_snoc (x y : Nat) (F : Nat → Nat) (l : List RP) (p : RP) : layAll x y F (l ++ [p]) = layStep x y (layAll x y F l) p := by simp [layAll]
def layF (t x y : Nat) (F : Nat → Nat) : Nat → Nat := fun j => if y ≤ j ∧ j < y + 8 then F j ||| trow t (j - y) * 2 ^ x else F j
theorem layAll_upto (t x y : Nat) (F : Nat → Nat) : ∀ k, k ≤ 8 → layAll x y F (rowsUpto t k) = fun j => if y ≤ j ∧ j < y + k then F j ||| trow t (j - y) * 2 ^ x else F j := by
  intro k
  induction k with
  | zero => intro _; funext j; simp [rowsUpto, layAll]; omega
  | succ k ih =>
    intro hk
    rw [rowsUpto_succ, layAll_snoc, ih (by omega)]
    funext j
    unfold layStep upd
    rw [rpAt_lt (show k < 8 by omega)]
    by_cases h : j = y + k
    · subst h; simp
    · by_cases h1 : y ≤ j ∧ j < y + k
      · simp [h, h1]; omega
      · have : ¬ (y ≤ j ∧ j < y + (k + 1)) := by omega
        simp [h, h1, this]

theorem layAll_lt (x y : Nat) (hx : x ≤ 16) (F : Nat → Nat) (hF : ∀ j, F j < 4294967296) : ∀ (l : List RP) (j : Nat), layAll x y F l j < 4294967296 := by
  suffices h : ∀ (l : List RP) (F : Nat → Nat), (∀ j, F j < 4294967296) → ∀ j, layAll x y F l j < 4294967296 from fun l j => h l F hF j
  intro l
  induction l with
  | nil => intro F hF j; exact hF j
  | cons p l ih =>
    intro F hF j
    refine ih _ (fun i => ?_) j
    unfold layStep upd
    split
    · have h1 : p.1.2 * 2 ^ x < 2 ^ 32 := by
        have := p.2.2
        have h2 : 2 ^ x ≤ 2 ^ 16 := Nat.pow_le_pow_right (by decide) hx
        calc p.1.2 * 2 ^ x ≤ 256 * 2 ^ 16 := Nat.mul_le_mul (by omega) h2
          _ < 2 ^ 32 := by decide
      exact Nat.or_lt_two_pow (n := 32) (hF _) h1
    · exact hF i

theorem or_shl (G r x : Nat) (hG : G < 4294967296) (hr : r < 256) (hx : x ≤ 16) : bits BinOp.or IntKind.u32 (G : Int) ((r : Int) * 2 ^ x % 4294967296) = ((G ||| r * 2 ^ x : Nat) : Int) := by
  have h2 : 2 ^ x ≤ 2 ^ 16 := Nat.pow_le_pow_right (by decide) hx
  have h1 : r * 2 ^ x ≤ 256 * 2 ^ 16 := Nat.mul_le_mul (by omega) h2
  have e : (r : Int) * 2 ^ x = ((r * 2 ^ x : Nat) : Int) := by simp
  rw [e]
  generalize r * 2 ^ x = c at h1
  rw [show ((c : Nat) : Int) % 4294967296 = (c : Int) by omega, u32_or_nat _ _ hG (by omega)]

theorem below_of_grown {B : Nat} {a b : World} {row : Option Nat} (h : a.grownBy b row) (hB : B ≤ a.heap.size) (hr : ∀ k, row = some k → B ≤ k) : Below B a b := (Below.refl B a).grown h hB hr

set_option maxRecDepth 100000 in
set_option maxHeartbeats 1000000 in
theorem lay_any (t x y fb : Nat) (F : Nat → Nat) (w : World) (ht : N64 t) (hx : x ≤ 16) (hy : y ≤ 16) (hF : IsF w fb F) (hF32 : ∀ j, F j < 4294967296) :
    Calls Try.prog 33 #[.pointer (some ⟨fb, 0, none⟩), .int .u64 (t : Nat), .int .i64 (x : Nat), .int .i64 (y : Nat)] w fun e w' => e = .returned (.tuple #[]) ∧ IsF w' fb (layF t x y F) ∧ w.grownBy w' (some fb) := by
  refine (callsIn_wide (n := 9)).1 ?_
  refine callsIn_of_wp_marks Try.func33 rfl trivial ?_ rfl
  simp only [Try.ntmps33, List.size_toArray, List.length_cons, List.length_nil, Nat.reduceAdd, Nat.reduceSub, Array.replicate_succ, Array.replicate_zero, List.push_toArray, List.append_toArray, List.nil_append, List.cons_append]
  gi_wp2
  obtain ⟨W0, hW0⟩ : ∃ W0 : World, (((w.alloc (Obj.cells #[Value.pointer (some { block := fb, off := 0 })] 78)).alloc (Obj.cells #[Value.int IntKind.i64 (x : Int)] 3)).alloc (Obj.cells #[Value.int IntKind.i64 (y : Int)] 3)) = W0 := ⟨_, rfl⟩
  have hlt := hF.lt
  have c0 : W0.cell? ⟨w.heap.size, 0, none⟩ = some (.pointer (some ⟨fb, 0, none⟩)) := by rw [← hW0]; exact (cell3 w _ _ _ _ _ _).1
  have c1 : W0.cell? ⟨w.heap.size + 1, 0, none⟩ = some (.int .i64 x) := by rw [← hW0]; exact (cell3 w _ _ _ _ _ _).2.1
  have c2 : W0.cell? ⟨w.heap.size + 1 + 1, 0, none⟩ = some (.int .i64 y) := by rw [← hW0]; exact (cell3 w _ _ _ _ _ _).2.2
  have hB0 : Below w.heap.size w W0 := by rw [← hW0]; exact (((Below.refl _ w).alloc (Nat.le_refl _) _).alloc (by simp) _).alloc (by simp; omega) _
  have hs0 : W0.heap.size = w.heap.size + 3 := by rw [← hW0]; simp
  have hF0 : IsF W0 fb F := by unfold IsF at *; rw [hB0.block fb hlt]; exact hF
  rw [hW0]
  refine range_method (gf := 38) (fa := #[.int .u64 (t : Int)]) (lb := #[]) (ps := #[12, 13]) rfl (by decide) rfl trivial (enters_of Try.func38 (by kernel_rfl) rfl) (rows_gives _ t ht (by decide) W0) (Below.refl _ _) (fun _ => rfl)
    (fun pre W => (W.cell? ⟨w.heap.size, 0, none⟩ = some (.pointer (some ⟨fb, 0, none⟩)) ∧ W.cell? ⟨w.heap.size + 1, 0, none⟩ = some (.int .i64 x) ∧ W.cell? ⟨w.heap.size + 1 + 1, 0, none⟩ = some (.int .i64 y)) ∧ IsF W fb (layAll x y F pre) ∧ w.grownBy W (some fb))
    ?hI ⟨⟨c0, c1, c2⟩, hF0, hB0.os, hB0.tape, hB0.output, hB0.size, fun i hi _ => hB0.block i hi⟩
    (fun p => { tmps := #[Value.pointer (some { block := fb, off := 0 }), Value.int IntKind.u64 ↑t, Value.int IntKind.i64 ↑x,
          Value.int IntKind.i64 ↑y, Value.pointer (some { block := w.heap.size, off := 0 }), undef,
          Value.pointer (some { block := w.heap.size + 1, off := 0 }),
          Value.pointer (some { block := w.heap.size + 1 + 1, off := 0 }), .int .i64 p.1.1, .int .u32 p.1.2, Value.int IntKind.u64 ↑t,
          Value.func (Fn.func 38) #[Value.int IntKind.u64 ↑t] #[], .int .i64 p.1.1, .int .u32 p.1.2, undef, undef, undef, undef, undef,
          undef, undef, undef, undef, undef, undef, undef, undef], defers := [] }) ?assign ?body ?done
  case hI =>
    rintro pre A B row ⟨⟨h0, h1, h2⟩, hF', hg'⟩ hg hr
    have hrow : row ≠ some fb := by
      rintro rfl
      have := (hr fb rfl).1
      omega
    refine ⟨⟨?_, ?_, ?_⟩, hF'.kept hg hrow, ?_⟩
    · rw [World.cell?_of_block (hg.block _ (by have := block_lt_of_cell h0; exact this) (fun e => by have := (hr _ e.symm).1; simp at this; omega))]; exact h0
    · rw [World.cell?_of_block (hg.block _ (by have := block_lt_of_cell h1; exact this) (fun e => by have := (hr _ e.symm).1; simp at this; omega))]; exact h1
    · rw [World.cell?_of_block (hg.block _ (by have := block_lt_of_cell h2; exact this) (fun e => by have := (hr _ e.symm).1; simp at this; omega))]; exact h2
    · exact ⟨hg.os.trans hg'.os, hg.tape.trans hg'.tape, hg.output.trans hg'.output, Nat.le_trans hg'.size hg.size, fun i hi hne => (hg.block i (Nat.lt_of_lt_of_le hi hg'.size) (fun e => by have := (hr _ e.symm).1; omega)).trans (hg'.block i hi hne)⟩
  case assign =>
    intro l p W K hK
    unfold rowEnc
    gi_wp2
    exact hK
  case body =>
    clear c0 c1 c2
    rintro l pre ⟨⟨k, r⟩, hk, hr⟩ W ⟨⟨c0, c1, c2⟩, hFW, hgW⟩ _
    have hk' : k < 8 := hk
    have hr' : r < 256 := hr
    have hyk : (y : Int) + k < 24 := by omega
    have hcell := hFW.cell (j := y + k) (by omega)
    have hfro := hFW.frozen (y + k)
    have hs1 : IntKind.i64.wrap ((y : Int) + k) = (y : Int) + k := IntWalk.i64_in _ (by omega)
    have hs2 : 0 ≤ (y : Int) + k := by omega
    have hs3 : ((y : Int) + k).toNat = y + k := by omega
    gi_wp2
    refine plain_region 13 (by kernel_rfl) (by kernel_rfl) (by kernel_rfl) (by rintro ⟨a, w, h⟩; exact h) ?_
    simp only [List.take_succ_cons, List.take_zero, List.drop_succ_cons, List.drop_zero]
    repeat still_step
    try refine wpStill_nil ?_
    change wpList _ _ _ _ _ W.drew
    go_wp2
    have hG := layAll_lt x y hx F hF32 pre (y + k)
    have hv : bits BinOp.or IntKind.u32 (↑(layAll x y F pre (y + k))) ((r : Int) * 2 ^ x % 4294967296) = ((layAll x y F pre (y + k) ||| r * 2 ^ x : Nat) : Int) := or_shl _ _ _ hG hr' hx
    rw [hv]
    have hb (b : Nat) (hb : b ≠ fb) (v : Value) : (W.setCell ⟨fb, y + k, none⟩ v).drew.heap[b]? = W.heap[b]? := Below.heap_setCell W ⟨fb, y + k, none⟩ v b hb
    refine ⟨(KeepsOthers.setCell _ _ _).trans (KeepsOthers.drew _), ⟨?_, ?_, ?_⟩, ?_, ?_⟩
    · rw [World.cell?_of_block (hb _ (by show w.heap.size ≠ fb; omega) _)]; exact c0
    · rw [World.cell?_of_block (hb _ (by show w.heap.size + 1 ≠ fb; omega) _)]; exact c1
    · rw [World.cell?_of_block (hb _ (by show w.heap.size + 1 + 1 ≠ fb; omega) _)]; exact c2
    · rw [layAll_snoc]; exact hFW.set (by omega) _
    · exact ⟨hgW.os, hgW.tape, hgW.output, by show _ ≤ (W.setCell _ _).heap.size; rw [World.size_setCell]; exact hgW.size, fun i hi hne => (hb i (fun e => hne (by rw [e])) _).trans (hgW.block i hi hne)⟩
  case done =>
    rintro D xs W hD rfl ⟨_, hFW, hgW⟩ hK
    gi_wp2
    refine ⟨by simp, .inl ⟨_, _, rfl, run_takeDeferred hK, ?_⟩⟩
    refine ⟨_, results_none rfl _ _ _, rfl, ?_, ?_⟩
    · have h := hFW.kept (grownBy_putObj' W D (.deferred none)) (fun e => by cases e; omega)
      rw [layAll_upto t x y F 8 (by omega)] at h
      exact h
    · have hg := grownBy_putObj' W D (.deferred none)
      exact ⟨hg.os.trans hgW.os, hg.tape.trans hgW.tape, hg.output.trans hgW.output, Nat.le_trans hgW.size hg.size, fun i hi hne => (hg.block i (Nat.lt_of_lt_of_le hi hgW.size) (fun e => by cases e; omega)).trans (hgW.block i hi hne)⟩
end Go.Proofs.Ytibcekdnkdkpiaa
