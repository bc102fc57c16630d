/- Contracts of package tile: four tiles laid; the middle of them; grown by some generations; nine tiles. -/
import Derived.Test.YtibcekdnkdkpiaaTileF
namespace Go.Proofs.Ytibcekdnkdkpiaa
open Go.RowKit

theorem layF_lt (t x y : Nat) (hx : x ≤ 16) (F : Nat → Nat) (hF : ∀ j, F j < 4294967296) : ∀ j, layF t x y F j < 4294967296 := by
  intro j
  have h := layAll_lt x y hx F hF (rowsUpto t 8) j
  rw [layAll_upto t x y F 8 (by omega)] at h
  exact h
def zeroF : Nat → Nat := fun _ => 0
theorem zeroF_lt : ∀ j, zeroF j < 4294967296 := fun _ => by unfold zeroF; omega
def fourF (a b c d : Nat) : Nat → Nat := layF d 8 8 (layF c 0 8 (layF b 8 0 (layF a 0 0 zeroF)))
theorem fourF_lt (a b c d : Nat) : ∀ j, fourF a b c d j < 4294967296 :=
  layF_lt _ _ _ (by omega) _ (layF_lt _ _ _ (by omega) _ (layF_lt _ _ _ (by omega) _ (layF_lt _ _ _ (by omega) _ zeroF_lt)))

set_option maxRecDepth 100000 in
set_option maxHeartbeats 2000000 in
theorem four_any (a b c d : Nat) (w : World) (ha : N64 a) (hb : N64 b) (hc : N64 c) (hd : N64 d) :
    Calls Try.prog 29 #[.agg #[.int .u64 a, .int .u64 b, .int .u64 c, .int .u64 d]] w fun e w' => e = .returned (.agg (fcells (fourF a b c d))) ∧ Below w.heap.size w w' := by
  have i0 : ∀ w, (Instr.index 29 (.agg #[.int .u64 a, .int .u64 b, .int .u64 c, .int .u64 d]) (.int .i64 0)).run Try.prog w = .ok (.int .u64 a) w := fun _ => by kernel_rfl
  have i1 : ∀ w, (Instr.index 29 (.agg #[.int .u64 a, .int .u64 b, .int .u64 c, .int .u64 d]) (.int .i64 1)).run Try.prog w = .ok (.int .u64 b) w := fun _ => by kernel_rfl
  have i2 : ∀ w, (Instr.index 29 (.agg #[.int .u64 a, .int .u64 b, .int .u64 c, .int .u64 d]) (.int .i64 2)).run Try.prog w = .ok (.int .u64 c) w := fun _ => by kernel_rfl
  have i3 : ∀ w, (Instr.index 29 (.agg #[.int .u64 a, .int .u64 b, .int .u64 c, .int .u64 d]) (.int .i64 3)).run Try.prog w = .ok (.int .u64 d) w := fun _ => by kernel_rfl
  go_enter Try.func29, Try.ntmps29
  go_wp2
  go_name_world W0 hW0
  have r0 : IsF W0 (w.heap.size + 1) zeroF := by
    rw [← hW0]
    exact (Below.heap_alloc _ _ _ (by simp)).trans (heap_at_last _ _ _ (by simp))
  have f0 : IsF W0 (w.heap.size + 1 + 1) zeroF := by
    rw [← hW0]
    exact heap_at_last _ _ _ (by simp)
  have hB : Below w.heap.size w W0 := by rw [← hW0]; exact (((Below.refl _ w).alloc (Nat.le_refl _) _).alloc (by simp) _).alloc (by simp; omega) _
  clear hW0
  refine wp_loop_rounds 5 ?_
  rw [rounds_succ]
  go_wp2_with (go_at_call 33; refine (lay_any a 0 0 _ _ _ ha (by decide) (by decide) f0 zeroF_lt).mono ?_; rintro e w1 ⟨rfl, f1, g1⟩)
  have l1 : ∀ j, layF a 0 0 zeroF j < 4294967296 := layF_lt _ _ _ (by omega) _ zeroF_lt
  generalize hF1 : layF a 0 0 zeroF = F1 at f1 l1
  rw [rounds_succ]
  go_wp2_with (go_at_call 33; refine (lay_any b 8 0 _ _ _ hb (by decide) (by decide) f1 l1).mono ?_; rintro e w2 ⟨rfl, f2, g2⟩)
  have l2 : ∀ j, layF b 8 0 F1 j < 4294967296 := layF_lt _ _ _ (by omega) _ l1
  generalize hF2 : layF b 8 0 F1 = F2 at f2 l2
  rw [rounds_succ]
  go_wp2_with (go_at_call 33; refine (lay_any c 0 8 _ _ _ hc (by decide) (by decide) f2 l2).mono ?_; rintro e w3 ⟨rfl, f3, g3⟩)
  have l3 : ∀ j, layF c 0 8 F2 j < 4294967296 := layF_lt _ _ _ (by omega) _ l2
  generalize hF3 : layF c 0 8 F2 = F3 at f3 l3
  rw [rounds_succ]
  go_wp2_with (go_at_call 33; refine (lay_any d 8 8 _ _ _ hd (by decide) (by decide) f3 l3).mono ?_; rintro e w4 ⟨rfl, f4, g4⟩)
  rw [rounds_succ]
  have ne1 : (some (w.heap.size + 1 + 1) : Option Nat) ≠ some (w.heap.size + 1) := by simp
  have r4 : IsF w4 (w.heap.size + 1) zeroF := (((r0.kept g1 ne1).kept g2 ne1).kept g3 ne1).kept g4 ne1
  have B1 := hB.grown g1 hB.size (fun k e => by cases e; omega)
  have B2 := B1.grown g2 B1.size (fun k e => by cases e; omega)
  have B3 := B2.grown g3 B2.size (fun k e => by cases e; omega)
  have B4 := B3.grown g4 B3.size (fun k e => by cases e; omega)
  have hF4 : layF d 8 8 F3 = fourF a b c d := by rw [← hF3, ← hF2, ← hF1]; rfl
  rw [hF4] at f4
  clear r0 f0 f1 f2 f3 g1 g2 g3 g4 hB B1 B2 B3 hF1 hF2 hF3 hF4 l1 l2 l3 ne1
  have hN' : w4.heap[w.heap.size + 1 + 1]? = some (.cells (fcells (fourF a b c d)) 66 (0, 0)) := f4
  have hR' : w4.heap[w.heap.size + 1]? = some (.cells (fcells zeroF) 66 (0, 0)) := r4
  clear f4 r4
  go_wp2_with (first
    | (with_reducible refine wpList_load_row rfl 66 (.tmp 3) rfl (w.heap.size + 1 + 1) rfl 66 (fcells (fourF a b c d)) (0, 0) _ hN' Try.underlying66 rfl (by rw [fcells_size]; kernel_rfl) ?_)
    | (with_reducible refine wpList_store_row rfl 66 (.tmp 2) (.tmp 20) rfl (w.heap.size + 1) rfl 66 (fcells zeroF) (fcells (fourF a b c d)) hR' rfl (by rw [fcells_size]; kernel_rfl) (by rw [fcells_size, fcells_size]) (fcells_one _) ?_))
  refine bodyPost_ret (v := .agg (fcells (fourF a b c d))) ?_ rfl ⟨rfl, ?_⟩
  · exact results_cell_row (p := 2) (ty := 66) rfl _ _ (w.heap.size + 1) 66 _ (0, 0) _ rfl (setRow_heap _ _ _ _ _ _ hR') Try.underlying66 rfl (by rw [fcells_size]; kernel_rfl)
  · exact ⟨B4.os, B4.tape, B4.output, by rw [setRow_size]; exact B4.size, fun k hk => (setRow_other w4 _ k _ (by omega)).trans (B4.block k hk)⟩

/-- The field n generations on. -/
def genF (b l : Int) : Nat → (Nat → Nat) → (Nat → Nat)
  | 0, F => F
  | n + 1, F => nupto (genF b l n F) b l 22 0
theorem nupto_lt (F : Nat → Nat) (b l : Int) (j m : Nat) (hm : m ≤ 22) : ∀ r, nupto F b l j m r < 4294967296 := by
  intro r
  have h (x k : Nat) (hk : k ≤ 22) : nrow F b l x k < 4294967296 := by
    have h1 : nrow F b l x k < 2 ^ (k + 1) := mk_lt _ _
    have h2 : 2 ^ (k + 1) ≤ 2 ^ 32 := Nat.pow_le_pow_right (by decide) (by omega)
    omega
  unfold nupto
  split
  · omega
  · split
    · exact h _ _ (by omega)
    · split
      · exact h _ _ hm
      · omega
theorem genF_lt (b l : Int) (F : Nat → Nat) (hF : ∀ j, F j < 4294967296) : ∀ n j, genF b l n F j < 4294967296
  | 0 => hF
  | n + 1 => nupto_lt _ _ _ _ _ (by omega)

theorem below_setRow' {B : Nat} {a w : World} (h : Below B a w) {g : Nat} (hg : B ≤ g) (cs : Array Value) : Below B a (w.setRow g cs) :=
  ⟨h.os, h.tape, h.output, by rw [setRow_size]; exact h.size, fun k hk => (setRow_other w g k cs (by omega)).trans (h.block k hk)⟩

theorem two_boxes (w : World) (o1 o2 : Obj) {w1 : World} (h : Below ((w.alloc o1).alloc o2).heap.size ((w.alloc o1).alloc o2) w1) :
    w1.heap[w.heap.size]? = some o1 ∧ w1.heap[w.heap.size + 1]? = some o2 ∧ Below w.heap.size w w1 ∧ w.heap.size + 2 ≤ w1.heap.size := by
  have hs := h.size
  simp at hs
  refine ⟨?_, ?_, ?_, by omega⟩
  · rw [h.block _ (by simp; omega), Below.heap_alloc _ _ _ (by simp)]; exact heap_alloc_new w o1
  · rw [h.block _ (by simp)]; exact heap_at_last _ _ _ (by simp)
  · exact (((Below.refl _ w).alloc (Nat.le_refl _) o1).alloc (by simp) o2).trans (h.mono (by simp; omega))
theorem grown_of_below' {w w1 : World} (h : Below w.heap.size w w1) (row : Option Nat) : w.grownBy w1 row := ⟨h.os, h.tape, h.output, h.size, fun i hi _ => h.block i hi⟩
theorem grown_setRow {a w : World} {g : Nat} (h : a.grownBy w (some g)) (cs : Array Value) : a.grownBy (w.setRow g cs) (some g) :=
  ⟨h.os, h.tape, h.output, by rw [setRow_size]; exact h.size, fun i hi hne => (setRow_other w g i cs (fun e => hne (by rw [e]))).trans (h.block i hi hne)⟩

def middleT (a b c d : Nat) : Nat := mk (cutBit (fourF a b c d) 4 4) 64

set_option maxRecDepth 100000 in
set_option maxHeartbeats 2000000 in
theorem middle_any (a b c d : Nat) (w : World) (ha : N64 a) (hb : N64 b) (hc : N64 c) (hd : N64 d) :
    Calls Try.prog 19 #[.agg #[.int .u64 a, .int .u64 b, .int .u64 c, .int .u64 d]] w fun e w' => e = .returned (.int .u64 (middleT a b c d : Nat)) ∧ Below w.heap.size w w' := by
  go_enter Try.func19, Try.ntmps19
  go_wp2_with (first
    | (go_at_call 29; refine (four_any a b c d _ ha hb hc hd).mono ?_; rintro e w1 ⟨rfl, hb1⟩)
    | (with_reducible refine wpList_store_row rfl 66 (.tmp 3) (.tmp 5) rfl w1.heap.size rfl 66 _ (fcells (fourF a b c d)) (heap_alloc_new w1 _) rfl (by rw [fcells_size]; kernel_rfl) (by rw [fcells_size]; kernel_rfl) (fcells_one _) ?_)
    | (go_at_call 31; refine (cut_any 4 4 _ (fourF a b c d) _ (by decide) (by decide) (setRow_heap _ _ _ _ _ _ (heap_alloc_new _ _)) (fourF_lt a b c d)).mono ?_; rintro e w2 ⟨rfl, rfl⟩))
  go_ret
  exact ⟨rfl, below_setRow' ((below_box _ hb1).alloc (below_box _ hb1).size _) (below_box _ hb1).size _⟩

/-- What 'Grow' answers. -/
def growT (b l : Int) (n a c d e : Nat) : Nat := mk (cutBit (genF b l n (fourF a c d e)) 4 4) 64

set_option maxRecDepth 100000 in
set_option maxHeartbeats 2000000 in
theorem grow_ok (b l : Int) (n a1 a2 a3 a4 : Nat) (w : World) (hr : May b l) (hn : n ≤ 4) (h1 : N64 a1) (h2 : N64 a2) (h3 : N64 a3) (h4 : N64 a4) :
    Calls Try.prog 15 #[.agg #[.int .u16 b, .int .u16 l], .agg #[.int .u64 a1, .int .u64 a2, .int .u64 a3, .int .u64 a4], .int .i64 (n : Nat)] w fun e w' => e = .returned (.tuple #[.int .u64 (growT b l n a1 a2 a3 a4 : Nat), .nilIface]) ∧ Below w.heap.size w w' := by
  go_enter Try.func15, Try.ntmps15
  go_wp2_with (first
    | (go_at_call 28; refine (check_ok _ _ _ hr).mono ?_; rintro e w1 ⟨rfl, hb1⟩; obtain ⟨hc1, hf1⟩ := bcell hb1)
    | (go_at_call 29; refine (four_any a1 a2 a3 a4 _ h1 h2 h3 h4).mono ?_; rintro e w2 ⟨rfl, hb2⟩; obtain ⟨hc2, hf2⟩ := bcell hb2)
    | (with_reducible refine wpList_store_row rfl 66 (.tmp 9) (.tmp 23) rfl w2.heap.size rfl 66 _ (fcells (fourF a1 a2 a3 a4)) (heap_alloc_new w2 _) rfl (by rw [fcells_size]; kernel_rfl) (by rw [fcells_size]; kernel_rfl) (fcells_one _) ?_))
  go_name_world W0 hW0
  obtain ⟨q1, q2, hB1, hs1⟩ := two_boxes _ _ _ hb1
  have hl2 := hb2.size
  have fF : IsF W0 w2.heap.size (fourF a1 a2 a3 a4) := by rw [← hW0]; exact setRow_heap _ _ _ _ _ _ (heap_alloc_new w2 _)
  have hB2 : Below w.heap.size w W0 := by
    rw [← hW0]
    have hx := hB1.trans (hb2.mono (by omega))
    exact below_setRow' (hx.alloc hx.size _) hx.size _
  have hR : W0.heap[w.heap.size]? = some (.cells #[Value.int IntKind.u16 b, Value.int IntKind.u16 l] 39 (0, 0)) := by
    rw [← hW0, setRow_other _ _ _ _ (by omega), Below.heap_alloc _ _ _ (by omega), hb2.block _ (by omega)]
    exact q1
  have hlt : w.heap.size < w2.heap.size := by omega
  clear hW0 hb1 hc1 hf1 hb2 hc2 hf2 q1 q2 hB1 hs1 hl2
  generalize w2.heap.size = fb at *
  go_loopw [25] (fun c wr => ∃ k : Nat, k ≤ n ∧ c = .int .i64 (k : Nat) ∧ IsF wr fb (genF b l k (fourF a1 a2 a3 a4)) ∧ W0.grownBy wr (some fb)) (fun c _ => n - (intOf c).toNat)
  case atStart => exact ⟨0, Nat.zero_le _, rfl, fF, World.grownBy.refl _ _⟩
  case round =>
    obtain ⟨k, hk, rfl, hN, hG⟩ := hrel
    have hl0 := fF.lt
    by_cases hkn : k < n
    · have hFb : wr.heap[w.heap.size]? = some (.cells #[Value.int IntKind.u16 b, Value.int IntKind.u16 l] 39 (0, 0)) := by rw [hG.block _ (by omega) (by simp; omega)]; exact hR
      have k0 := cell_of_row wr w.heap.size 0 _ _ _ hFb
      have k1 := cell_of_row wr w.heap.size 1 _ _ _ hFb
      simp only [List.getElem?_toArray, List.getElem?_cons_zero, List.getElem?_cons_succ] at k0 k1
      clear hFb
      have d1 : decide ((k : Int) < (n : Int)) = true := by simp; omega
      have hlf : ∀ j, genF b l k (fourF a1 a2 a3 a4) j < 4294967296 := genF_lt _ _ _ (fourF_lt _ _ _ _) k
      have Hlf := Lib.hid hlf
      clear hlf
      go_wp2_with (first
        | (go_at_call 30; refine (next_any b l fb _ _ hr hN Hlf.out).mono ?_; rintro e w3 ⟨rfl, hb3⟩; have hN3 : w3.heap[fb]? = some (.cells (fcells (genF b l k (fourF a1 a2 a3 a4))) 66 (0, 0)) := hN.later hb3)
        | (with_reducible refine wpList_store_row rfl 66 (.tmp 9) (.tmp 28) rfl fb rfl 66 _ (fcells (nupto (genF b l k (fourF a1 a2 a3 a4)) b l 22 0)) hN3 rfl (by rw [fcells_size]; kernel_rfl) (by rw [fcells_size, fcells_size]) (fcells_one _) ?_))
      go_roundw
      case rel => exact ⟨k + 1, by omega, by go_num, setRow_heap _ _ _ _ _ _ hN3, grown_setRow (hG.trans (grown_of_below' hb3 _)) _⟩
      case measure => simp [intOf]; omega
    · have hkk : k = n := by omega
      subst hkk
      have hlf : ∀ j, genF b l k (fourF a1 a2 a3 a4) j < 4294967296 := genF_lt _ _ _ (fourF_lt _ _ _ _) k
      have Hlf := Lib.hid hlf
      clear hlf
      go_wp2_with (go_at_call 31; refine (cut_any 4 4 _ _ _ (by decide) (by decide) hN Hlf.out).mono ?_; rintro e w4 ⟨rfl, rfl⟩)
      go_ret2
      exact ⟨rfl, hB2.grown hG hB2.size (fun j e => by cases e; omega)⟩
end Go.Proofs.Ytibcekdnkdkpiaa
