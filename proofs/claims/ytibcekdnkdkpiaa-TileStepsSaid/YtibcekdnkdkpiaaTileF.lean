/- Contracts of package tile: a field one generation on. -/
import Derived.Test.YtibcekdnkdkpiaaTileE
import Derived.Lib.ItoaWalk
import Derived.WalkSpells
import Derived.Deep.RegionHeld3
namespace Go.Proofs.Ytibcekdnkdkpiaa
open Go.RowKit

def n1 (F : Nat → Nat) (j i : Nat) : Nat := F j / 2 ^ i % 8
def n2 (F : Nat → Nat) (j i : Nat) : Nat := F (j + 2) / 2 ^ i % 8
def n3 (F : Nat → Nat) (j i : Nat) : Nat := F (j + 1) / 2 ^ i &&& 5
/-- How many neighbours of the cell i + 1, j + 1 live. -/
def cnt (F : Nat → Nat) (j i : Nat) : Nat := p3 (n1 F j i) + p3 (n2 F j i) + p3 (n3 F j i)
/-- Whether the cell i + 1, j + 1 lives next. -/
def nbit (F : Nat → Nat) (b l : Int) (j i : Nat) : Bool := bitAt (if (F (j + 1)).testBit (i + 1) then l else b) (cnt F j i)
def nrow (F : Nat → Nat) (b l : Int) (j m : Nat) : Nat := mk (fun i => decide (1 ≤ i) && nbit F b l j (i - 1)) (m + 1)
/-- The field when j rows are done, and m cells of the next one. -/
def nupto (F : Nat → Nat) (b l : Int) (j m : Nat) : Nat → Nat := fun r => if r = 0 ∨ 23 ≤ r then 0 else if r ≤ j then nrow F b l (r - 1) 22 else if r = j + 1 then nrow F b l j m else 0

theorem n1_lt (F : Nat → Nat) (j i : Nat) : n1 F j i < 8 := Nat.mod_lt _ (by decide)
theorem n2_lt (F : Nat → Nat) (j i : Nat) : n2 F j i < 8 := Nat.mod_lt _ (by decide)
theorem n3_lt (F : Nat → Nat) (j i : Nat) : n3 F j i < 8 := by unfold n3; have : F (j + 1) / 2 ^ i &&& 5 ≤ 5 := Nat.and_le_right; omega
theorem and_small (n i m : Nat) (hn : n < 4294967296) (hm : m < 4294967296) : bits BinOp.and IntKind.u32 ((n : Int) / 2 ^ i) (m : Nat) = ((n / 2 ^ i &&& m : Nat) : Int) := by
  have e : (n : Int) / 2 ^ i = ((n / 2 ^ i : Nat) : Int) := by simp
  have hle := Nat.div_le_self n (2 ^ i)
  rw [e]
  generalize n / 2 ^ i = c at hle
  rw [u32_and_nat _ _ (by omega) hm]
theorem a1_eq (F : Nat → Nat) (j i : Nat) (h : F j < 4294967296) : bits BinOp.and IntKind.u32 ((F j : Int) / 2 ^ i) 7 = (n1 F j i : Int) := by
  unfold n1; rw [← nat_mask3]; exact and_small _ _ 7 h (by decide)
theorem a2_eq (F : Nat → Nat) (j i : Nat) (h : F (j + 2) < 4294967296) : bits BinOp.and IntKind.u32 ((F (j + 2) : Int) / 2 ^ i) 7 = (n2 F j i : Int) := by
  unfold n2; rw [← nat_mask3]; exact and_small _ _ 7 h (by decide)
theorem a3_eq (F : Nat → Nat) (j i : Nat) (h : F (j + 1) < 4294967296) : bits BinOp.and IntKind.u32 ((F (j + 1) : Int) / 2 ^ i) 5 = (n3 F j i : Int) := and_small _ _ 5 h (by decide)

theorem p3_le (n : Nat) : p3 n ≤ 3 := pop_le _ _
theorem cnt_le (F : Nat → Nat) (j i : Nat) : cnt F j i ≤ 8 := by
  have h1 := p3_le (n1 F j i)
  have h2 := p3_le (n2 F j i)
  have h3 : p3 (n3 F j i) ≤ 2 := by
    unfold n3 p3
    simp only [pop]
    have : ¬ (F (j + 1) / 2 ^ i &&& 5).testBit 1 = true := by rw [Nat.testBit_and]; simp [show Nat.testBit 5 1 = false from by decide]
    rw [if_neg this]
    split <;> split <;> omega
  unfold cnt; omega
theorem a4_eq (F : Nat → Nat) (j i : Nat) (h : F (j + 1) < 4294967296) : (bits BinOp.and IntKind.u32 ((F (j + 1) : Int) / 2 ^ (i + 1)) 1 == 1) = (F (j + 1)).testBit (i + 1) := by
  have e := and_small (F (j + 1)) (i + 1) 1 h (by decide)
  rw [nat_mask1] at e
  rw [show ((1 : Nat) : Int) = (1 : Int) from rfl] at e
  rw [e, Nat.testBit_eq_decide_div_mod_eq, Bool.eq_iff_iff]
  generalize F (j + 1) / 2 ^ (i + 1) % 2 = c
  simp
  omega

theorem nupto_zero (F : Nat → Nat) (b l : Int) : nupto F b l 0 0 = fun _ => 0 := by
  funext r
  unfold nupto nrow
  split
  · rfl
  · rw [if_neg (by omega)]
    split
    · simp [mk]
    · rfl
theorem heap_at_last (w : World) (o : Obj) (k : Nat) (h : k = w.heap.size) : (w.alloc o).heap[k]? = some o := by subst h; exact heap_alloc_new w o

/-- Between two rounds of 'next': but for its out field nothing that was laid has turned. -/
structure Stay (w W0 wr : World) : Prop where
  same : ∀ k, k < W0.heap.size → k ≠ w.heap.size + 1 + 1 → wr.heap[k]? = W0.heap[k]?
  size : W0.heap.size ≤ wr.heap.size
  os : wr.os = W0.os
  tape : wr.tape = W0.tape
  output : wr.output = W0.output
theorem Stay.refl (w W0 : World) : Stay w W0 W0 := ⟨fun _ _ _ => rfl, Nat.le_refl _, rfl, rfl, rfl⟩

theorem Stay.later {w W0 wr w' : World} (h : Stay w W0 wr) (hb : Below wr.heap.size wr w') : Stay w W0 w' :=
  ⟨fun k hk hne => (hb.block k (Nat.lt_of_lt_of_le hk h.size)).trans (h.same k hk hne), Nat.le_trans h.size hb.size, hb.os.trans h.os, hb.tape.trans h.tape, hb.output.trans h.output⟩
theorem IsF.later {W W' : World} {fb : Nat} {F : Nat → Nat} (h : IsF W fb F) (hb : Below W.heap.size W W') : IsF W' fb F := by
  have hl := h.lt
  unfold IsF at *
  rw [hb.block fb hl]; exact h

theorem nupto_false (F : Nat → Nat) (b l : Int) (j i : Nat) (h : nbit F b l j i = false) : nupto F b l j (i + 1) = nupto F b l j i := by
  funext r
  unfold nupto
  by_cases h1 : r = 0 ∨ 23 ≤ r
  · rw [if_pos h1, if_pos h1]
  · rw [if_neg h1, if_neg h1]
    by_cases h2 : r ≤ j
    · rw [if_pos h2, if_pos h2]
    · rw [if_neg h2, if_neg h2]
      by_cases h3 : r = j + 1
      · rw [if_pos h3, if_pos h3]
        unfold nrow
        rw [mk]
        simp [h]
      · rw [if_neg h3, if_neg h3]

theorem nupto_true (F : Nat → Nat) (b l : Int) (j i : Nat) (h : nbit F b l j i = true) (hj : j < 22) : upd (nupto F b l j i) (j + 1) (nupto F b l j i (j + 1) + 2 ^ (i + 1)) = nupto F b l j (i + 1) := by
  funext r
  unfold upd nupto
  by_cases h3 : r = j + 1
  · subst h3
    rw [if_pos rfl, if_neg (by omega), if_neg (by omega), if_pos rfl, if_neg (by omega), if_neg (by omega), if_pos rfl]
    unfold nrow
    conv => rhs; rw [mk]
    simp [h]
  · rw [if_neg h3, if_neg h3, if_neg h3]

theorem Stay.set {w W0 wr : World} (h : Stay w W0 wr) (k : Nat) (v : Value) : Stay w W0 (wr.setCell ⟨w.heap.size + 1 + 1, k, none⟩ v).drew :=
  ⟨fun i hi hne => (Below.heap_setCell wr ⟨w.heap.size + 1 + 1, k, none⟩ v i hne).trans (h.same i hi hne), by show _ ≤ (wr.setCell _ _).heap.size; rw [World.size_setCell]; exact h.size, h.os, h.tape, h.output⟩

theorem or_pow (F : Nat → Nat) (b l : Int) (j i : Nat) (hj : j < 22) (hi : i < 22) : bits BinOp.or IntKind.u32 (↑(nupto F b l j i (j + 1))) (2 ^ (i + 1) % 4294967296) = ((nupto F b l j i (j + 1) + 2 ^ (i + 1) : Nat) : Int) := by
  have e : nupto F b l j i (j + 1) = nrow F b l j i := by unfold nupto; rw [if_neg (by omega), if_neg (by omega), if_pos rfl]
  have hl : nrow F b l j i < 2 ^ (i + 1) := mk_lt _ _
  rw [e]
  generalize nrow F b l j i = n at hl
  have h32 : 2 ^ (i + 1) < 2 ^ 32 := Nat.pow_lt_pow_right (by decide) (by omega)
  have e2 : (2 : Int) ^ (i + 1) = ((2 ^ (i + 1) : Nat) : Int) := (Int.natCast_pow 2 (i + 1)).symm
  have hm : 2 ^ (i + 1) % 2 ^ (i + 1) = 0 := Nat.mod_self _
  have hj := nat_join (i + 1) (2 ^ (i + 1)) n hm hl
  rw [e2]
  generalize 2 ^ (i + 1) = c at *
  rw [show ((c : Nat) : Int) % 4294967296 = (c : Int) by omega, u32_or_nat _ _ (by omega) (by omega), Nat.or_comm, hj, Nat.add_comm]

theorem nupto_done (F : Nat → Nat) (b l : Int) (j : Nat) : nupto F b l (j + 1) 0 = nupto F b l j 22 := by
  funext r
  unfold nupto
  by_cases h1 : r = 0 ∨ 23 ≤ r
  · rw [if_pos h1, if_pos h1]
  · rw [if_neg h1, if_neg h1]
    by_cases h2 : r ≤ j
    · rw [if_pos h2, if_pos (by omega)]
    · rw [if_neg h2]
      by_cases h3 : r = j + 1
      · rw [if_pos (by omega), if_pos h3, show r - 1 = j by omega]
      · rw [if_neg (by omega), if_neg h3]
        split
        · unfold nrow; simp [mk]
        · rfl

set_option maxRecDepth 100000 in
set_option maxHeartbeats 4000000 in
theorem next_any (b l : Int) (fb : Nat) (F : Nat → Nat) (w : World) (hr : May b l) (hF : IsF w fb F) (hF32 : ∀ j, F j < 4294967296) :
    Calls Try.prog 30 #[.pointer (some ⟨fb, 0, none⟩), .agg #[.int .u16 b, .int .u16 l]] w fun e w' => e = .returned (.agg (fcells (nupto F b l 22 0))) ∧ Below w.heap.size w w' := by
  have HF := Lib.hid hF32
  clear hF32
  have hlt := hF.lt
  go_enter Try.func30, Try.ntmps30
  go_wp2
  go_name_world W0 hW0
  have f0 : IsF W0 (w.heap.size + 1 + 1) (nupto F b l 0 0) := by
    rw [← hW0, nupto_zero]
    exact heap_at_last _ _ _ (by simp)
  have r0 : IsF W0 (w.heap.size + 1) (fun _ => 0) := by
    rw [← hW0]
    exact (Below.heap_alloc _ _ _ (by simp)).trans (heap_at_last _ _ _ (by simp))
  have b0 : W0.heap[w.heap.size]? = some (.cells #[Value.int IntKind.u16 b, Value.int IntKind.u16 l] 39 (0, 0)) := by
    rw [← hW0]
    exact (Below.heap_alloc _ _ _ (by simp; omega)).trans ((Below.heap_alloc _ _ _ (by simp)).trans (heap_at_last _ _ _ rfl))
  have hB : Below w.heap.size w W0 := by rw [← hW0]; exact (((Below.refl _ w).alloc (Nat.le_refl _) _).alloc (by simp) _).alloc (by simp; omega) _
  have hs0 : W0.heap.size = w.heap.size + 3 := by rw [← hW0]; simp
  clear hW0
  have Hs := Lib.hid hs0
  clear hs0
  go_loopw [6] (fun y wr => ∃ j : Nat, j ≤ 22 ∧ y = .int .i64 ((j : Int) + 1) ∧ IsF wr (w.heap.size + 1 + 1) (nupto F b l j 0) ∧ Stay w W0 wr) (fun y _ => 24 - (intOf y).toNat)
  case atStart => exact ⟨0, by omega, rfl, f0, Stay.refl _ _⟩
  case round =>
    obtain ⟨j, hj, rfl, hN, hS⟩ := hrel
    by_cases hjl : j < 22
    · obtain ⟨wo, rfl⟩ : ∃ wo : World, wo = wr := ⟨_, rfl⟩
      have d1 : decide ((j : Int) + 1 < 23) = true := by simp; omega
      go_wp2
      go_loopw [7] (fun x wr => ∃ i : Nat, i ≤ 22 ∧ x = .int .i64 ((i : Int) + 1) ∧ IsF wr (w.heap.size + 1 + 1) (nupto F b l j i) ∧ Stay w W0 wr) (fun x _ => 24 - (intOf x).toNat)
      case atStart => exact ⟨0, by omega, rfl, hN, hS⟩
      case round =>
        clear hN hS
        obtain ⟨i, hi, rfl, hN, hS⟩ := hrel
        by_cases hil : i < 22
        · have hsz := Hs.out
          have d2 : decide ((i : Int) + 1 < 23) = true := by simp; omega
          have hFr : IsF wr fb F := by unfold IsF at *; rw [hS.same fb (by omega) (by omega), hB.block fb hlt]; exact hF
          have hFb : wr.heap[w.heap.size]? = some (.cells #[Value.int IntKind.u16 b, Value.int IntKind.u16 l] 39 (0, 0)) := by rw [hS.same _ (by omega) (by omega)]; exact b0
          have k0 := cell_of_row wr w.heap.size 0 _ _ _ hFb
          have k1 := cell_of_row wr w.heap.size 1 _ _ _ hFb
          simp only [List.getElem?_toArray, List.getElem?_cons_zero, List.getElem?_cons_succ] at k0 k1
          have c0 := hFr.cell (j := j) (by omega)
          have c1 := hFr.cell (j := j + 1) (by omega)
          have c2 := hFr.cell (j := j + 2) (by omega)
          have co := hN.cell (j := j + 1) (by omega)
          have fo := hN.frozen (j + 1)
          have e1 : IntKind.i64.wrap ((j : Int) + 1 - 1) = (j : Int) := by rw [IntWalk.i64_in _ (by omega)]; omega
          have e2 : IntKind.i64.wrap ((j : Int) + 1 + 1) = (j : Int) + 2 := by rw [IntWalk.i64_in _ (by omega)]; omega
          have e3 : IntKind.i64.wrap ((i : Int) + 1 - 1) = (i : Int) := by rw [IntWalk.i64_in _ (by omega)]; omega
          have b1 : (j : Int) < 24 := by omega
          have b2 : (j : Int) + 1 < 24 := by omega
          have b3 : (j : Int) + 2 < 24 := by omega
          have g1 : 0 ≤ (j : Int) + 1 := by omega
          have g2 : 0 ≤ (j : Int) + 2 := by omega
          have g3 : 0 ≤ (i : Int) + 1 := by omega
          have t1 : ((j : Int) + 1).toNat = j + 1 := by omega
          have t2 : ((j : Int) + 2).toNat = j + 2 := by omega
          have t3 : ((i : Int) + 1).toNat = i + 1 := by omega
          have a1 := a1_eq F j i (HF.out j)
          have a2 := a2_eq F j i (HF.out (j + 2))
          have a3 := a3_eq F j i (HF.out (j + 1))
          clear hsz
          go_wp2_with fail
          have l1 := n1_lt F j i
          have l2 := n2_lt F j i
          have l3 := n3_lt F j i
          have z1 := p3_le (n1 F j i)
          have z2 := p3_le (n2 F j i)
          have z3 := p3_le (n3 F j i)
          have q1 : IntKind.i64.wrap ((p3 (n1 F j i) : Int) + (p3 (n2 F j i) : Int)) = (p3 (n1 F j i) : Int) + (p3 (n2 F j i) : Int) := IntWalk.i64_in _ (by omega)
          have q2 : IntKind.i64.wrap ((p3 (n1 F j i) : Int) + (p3 (n2 F j i) : Int) + (p3 (n3 F j i) : Int)) = (cnt F j i : Int) := by rw [IntWalk.i64_in _ (by omega)]; unfold cnt; omega
          clear z1 z2 z3
          have hc8 := cnt_le F j i
          have a4 := a4_eq F j i (HF.out (j + 1))
          have hnext : ∀ w, Calls Try.prog 23 #[.agg #[.int .u16 b, .int .u16 l], .bool ((F (j + 1)).testBit (i + 1)), .int .i64 (cnt F j i : Nat)] w fun e w' => e = .returned (.tuple #[.bool (nbit F b l j i), .nilIface]) ∧ Below w.heap.size w w' := fun w => rnext_ok b l _ _ w hr (by omega) (by omega)
          obtain ⟨nb, hnb⟩ : ∃ nb, nb = nbit F b l j i := ⟨_, rfl⟩
          rw [← hnb] at hnext
          have Hn := Lib.hid hnext
          have Hb := Lib.hid hnb
          clear hnext hnb
          go_quiet ((go_at_call 37; exact Calls.quiet_of (ones32_any _ (by assumption) _)))
          go_wp2_with fail
          go_name_world w2 hw2
          have k0' : w2.cell? ⟨w.heap.size, 0, none⟩ = some (.int .u16 b) := by rw [← hw2]; exact k0
          have k1' : w2.cell? ⟨w.heap.size, 1, none⟩ = some (.int .u16 l) := by rw [← hw2]; exact k1
          have c1' : w2.cell? ⟨fb, j + 1, none⟩ = some (.int .u32 (F (j + 1))) := by rw [← hw2]; exact c1
          have hS2 : Stay w W0 w2 := by rw [← hw2]; exact ⟨hS.same, hS.size, hS.os, hS.tape, hS.output⟩
          have hN2 : IsF w2 (w.heap.size + 1 + 1) (nupto F b l j i) := by rw [← hw2]; exact hN
          clear hw2 k0 k1 c0 c1 c2 hS hN co fo hFr hFb
          clear a1 a2 a3 l1 l2 l3 q1 q2
          go_region_held3 (fun w' => w'.cell? ⟨w.heap.size, 0, none⟩ = some (.int .u16 b) ∧ w'.cell? ⟨w.heap.size, 1, none⟩ = some (.int .u16 l) ∧ w'.cell? ⟨fb, j + 1, none⟩ = some (.int .u32 (F (j + 1)))) (go_keep)
            (first | (go_at_call 23; refine (Hn.out _).mono ?_; rintro e w3 ⟨rfl, hb3⟩; have s0 := cell_later hb3 (a := ⟨w.heap.size, 0, none⟩) (v := .int .u16 b) (by assumption); have s1 := cell_later hb3 (a := ⟨w.heap.size, 1, none⟩) (v := .int .u16 l) (by assumption); have s2 := cell_later hb3 (a := ⟨fb, j + 1, none⟩) (v := .int .u32 (F (j + 1))) (by assumption)))
          have hb3' : Below w2.heap.size w2 w3 := ⟨hb3.os, hb3.tape, hb3.output, hb3.size, hb3.block⟩
          have hN3 : IsF w3 (w.heap.size + 1 + 1) (nupto F b l j i) := hN2.later hb3'
          have hS3 : Stay w W0 w3 := hS2.later hb3'
          clear hb3 hb3' hS2 hN2 s0 s1 s2 k0' k1' c1' a4 Hn
          have co := hN3.cell (j := j + 1) (by omega)
          have fo := hN3.frozen (j + 1)
          cases nb
          · go_wp2
            go_roundw
            case rel => exact ⟨i + 1, by omega, by go_num, by rw [nupto_false F b l j i Hb.out.symm]; exact hN3, hS3⟩
            case measure => simp [intOf]; omega
          · go_wp2
            go_still_tail 7, (by kernel_rfl)
            change wpList _ _ _ _ _ w3.drew
            go_wp2
            go_roundw
            case rel =>
              rw [or_pow F b l j i hjl hil]
              exact ⟨i + 1, by omega, by go_num, by rw [← nupto_true F b l j i Hb.out.symm hjl]; exact hN3.set (by omega) _, hS3.set _ _⟩
            case measure => simp [intOf]; omega
        · go_wp2
          go_roundw
          case rel => exact ⟨j + 1, by omega, by go_num, by rw [nupto_done, ← show i = 22 by omega]; exact hN, hS⟩
          case measure => simp [intOf]; omega
    · have hsz := Hs.out
      have hR : IsF wr (w.heap.size + 1) (fun _ => 0) := by unfold IsF at *; rw [hS.same _ (by omega) (by omega)]; exact r0
      clear hsz
      have hN' : wr.heap[w.heap.size + 1 + 1]? = some (.cells (fcells (nupto F b l j 0)) 66 (0, 0)) := hN
      have hR' : wr.heap[w.heap.size + 1]? = some (.cells (fcells (fun _ => 0)) 66 (0, 0)) := hR
      go_wp2_with (first
        | (with_reducible refine wpList_load_row rfl 66 (.tmp 5) rfl (w.heap.size + 1 + 1) rfl 66 (fcells (nupto F b l j 0)) (0, 0) _ hN' Try.underlying66 rfl (by rw [fcells_size]; kernel_rfl) ?_)
        | (with_reducible refine wpList_store_row rfl 66 (.tmp 4) (.tmp 80) rfl (w.heap.size + 1) rfl 66 (fcells (fun _ => 0)) (fcells (nupto F b l j 0)) hR' rfl (by rw [fcells_size]; kernel_rfl) (by rw [fcells_size, fcells_size]) (fcells_one _) ?_))
      have hsz := Hs.out
      obtain rfl : j = 22 := by omega
      refine bodyPost_ret (v := .agg (fcells (nupto F b l 22 0))) ?_ rfl ⟨rfl, ?_⟩
      · exact results_cell_row (p := 4) (ty := 66) rfl _ _ (w.heap.size + 1) 66 _ (0, 0) _ rfl (setRow_heap _ _ _ _ _ _ hR') Try.underlying66 rfl (by rw [fcells_size]; kernel_rfl)
      · exact ⟨hS.os.trans hB.os, hS.tape.trans hB.tape, hS.output.trans hB.output, by rw [setRow_size]; exact Nat.le_trans hB.size hS.size, fun k hk => (setRow_other wr _ k _ (by omega)).trans ((hS.same k (by omega) (by omega)).trans (hB.block k hk))⟩
end Go.Proofs.Ytibcekdnkdkpiaa
