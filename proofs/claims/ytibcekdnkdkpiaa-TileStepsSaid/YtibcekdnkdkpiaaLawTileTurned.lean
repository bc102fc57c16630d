/- The walk of quiltlaw09.TileTurned. -/
import Derived.Test.YtibcekdnkdkpiaaGrid
import Derived.Test.YtibcekdnkdkpiaaFrame
import Derived.StillTailTactics
import Derived.BigQuiet
import Derived.Deep.RegionHeld3
namespace Go.Proofs.Ytibcekdnkdkpiaa
open Go.RowKit

theorem may_any (b l : Int) (w : World) (hb : U16 b) (hl : U16 l) :
    Calls Try.prog 13 #[.agg #[.int .u16 b, .int .u16 l]] w fun e w' => e = .returned (.bool (decide (May b l))) ∧ Below w.heap.size w w' := by
  have h0 := hb.1
  have h1 := hl.1
  have ht : b.tmod 2 = b % 2 := Int.tmod_eq_emod_of_nonneg h0
  by_cases c1 : b < 512
  · by_cases c2 : l < 512
    · by_cases c3 : b % 2 = 0
      · have e : decide (May b l) = true := decide_eq_true ⟨⟨h0, c1, c3⟩, h1, c2⟩
        rw [e]
        have c4 : (b % 2 == 0) = true := by simp; omega
        clear ht hb hl
        go_enter Try.func13, Try.ntmps13
        go_wp2
        go_ret
        exact ⟨rfl, (Below.refl _ _).alloc (Nat.le_refl _) _⟩
      · have e : decide (May b l) = false := decide_eq_false fun h => c3 h.1.2.2
        rw [e]
        have c4 : (b % 2 == 0) = false := by simp; omega
        clear ht hb hl
        go_enter Try.func13, Try.ntmps13
        go_wp2
        go_ret
        exact ⟨rfl, (Below.refl _ _).alloc (Nat.le_refl _) _⟩
    · have e : decide (May b l) = false := decide_eq_false fun h => c2 h.2.2
      rw [e]
      clear ht hb hl
      go_enter Try.func13, Try.ntmps13
      go_wp2
      go_ret
      exact ⟨rfl, (Below.refl _ _).alloc (Nat.le_refl _) _⟩
  · have e : decide (May b l) = false := decide_eq_false fun h => c1 h.1.2.1
    rw [e]
    clear ht hb hl
    go_enter Try.func13, Try.ntmps13
    go_wp2
    go_ret
    exact ⟨rfl, (Below.refl _ _).alloc (Nat.le_refl _) _⟩

set_option maxHeartbeats 1000000 in
theorem give_any (a b c d : Int) (w : World) :
    Calls Try.prog 9 #[.agg #[.int .u64 a, .int .u64 b, .int .u64 c, .int .u64 d]] w fun e w' => e = .returned (.agg #[.int .u64 a, .int .u64 b, .int .u64 c, .int .u64 d]) ∧ Below w.heap.size w w' := by
  go_enter Try.func9, Try.ntmps9
  go_wp2
  refine bodyPost_ret (v := .agg #[.int .u64 a, .int .u64 b, .int .u64 c, .int .u64 d]) ?_ rfl ⟨rfl, ?_⟩
  · exact results_cell_row (p := 2) (ty := 29) rfl _ _ (w.heap.size + 1) 29 _ (0, 0) _ rfl (heap_at_last _ _ _ (by simp)) Try.underlying29 rfl (by kernel_rfl)
  · exact ((Below.refl _ _).alloc (Nat.le_refl _) _).alloc (by simp) _

theorem turn_still (t : Nat) (w : World) (ht : N64 t) :
    Calls Try.prog 10 #[.int .u64 (t : Nat)] w fun e w' => e = .returned (.int .u64 (turnT t : Nat)) ∧ w' = w := (turn_at t w ht).mono fun _ _ h => ⟨h.1, h.2.symm⟩
theorem flip_still (t : Nat) (w : World) (ht : N64 t) :
    Calls Try.prog 11 #[.int .u64 (t : Nat)] w fun e w' => e = .returned (.int .u64 (flipT t : Nat)) ∧ w' = w := (flip_at t w ht).mono fun _ _ h => ⟨h.1, h.2.symm⟩

theorem count_still (t : Nat) (w : World) (ht : N64 t) :
    Calls Try.prog 12 #[.int .u64 (t : Nat)] w fun e w' => e = .returned (.int .i64 (popc t : Nat)) ∧ w' = w := (count_at t w ht).mono fun _ _ h => ⟨h.1, h.2.symm⟩
theorem frozen_of_row {W : World} {b : Nat} {cs : Array Value} {t : TypeId} (h : W.heap[b]? = some (.cells cs t (0, 0))) (j : Nat) : W.frozen? ⟨b, j, none⟩ = false := by simp [World.frozen?, h]
/-- How many generations. -/
theorem five_eq (n : Int) : ∃ k : Nat, k ≤ 4 ∧ wrap64 ((IntKind.u64.wrap n).tmod 5) = (k : Int) := by
  have h0 : 0 ≤ IntKind.u64.wrap n := by simp [IntKind.wrap, IntKind.bits, IntKind.signed]; omega
  rw [Int.tmod_eq_emod_of_nonneg h0]
  generalize IntKind.u64.wrap n = m at h0
  refine ⟨(m % 5).toNat, by omega, ?_⟩
  unfold wrap64
  omega

set_option maxRecDepth 100000 in
set_option maxHeartbeats 4000000 in
theorem tileTurned_walk (b l z1 z2 z3 z4 n : Int) (w1 : (Lit.int .u16 b).wf = true) (w2 : (Lit.int .u16 l).wf = true) (w3 : (Lit.int .u64 z1).wf = true) (w4 : (Lit.int .u64 z2).wf = true) (w5 : (Lit.int .u64 z3).wf = true) (w6 : (Lit.int .u64 z4).wf = true) (_w7 : (Lit.int .i64 n).wf = true) (w : World) :
    Calls Try.prog 3 #[.agg #[.int .u16 b, .int .u16 l], .agg #[.int .u64 z1, .int .u64 z2, .int .u64 z3, .int .u64 z4], .int .i64 n] w fun e w' => e = .returned (.bool true) ∧ Below w.heap.size w w' := by
  obtain ⟨t1, rfl, h1⟩ := U64.nat (t := z1) (wf_u64 w3)
  obtain ⟨t2, rfl, h2⟩ := U64.nat (t := z2) (wf_u64 w4)
  obtain ⟨t3, rfl, h3⟩ := U64.nat (t := z3) (wf_u64 w5)
  obtain ⟨t4, rfl, h4⟩ := U64.nat (t := z4) (wf_u64 w6)
  have hb : U16 b := wf_u16 w1
  have hl : U16 l := wf_u16 w2
  clear w1 w2 w3 w4 w5 w6 _w7
  obtain ⟨k, hk, hk5⟩ := five_eq n
  have e1 : ((turnT (turnT (turnT (turnT t1))) : Nat) : Int) = (t1 : Nat) := by rw [turn_four t1 h1]
  have e2 : ((flipT (flipT t1) : Nat) : Int) = (t1 : Nat) := by rw [flip_two t1 h1]
  have e3 : ((popc (turnT t1) : Nat) : Int) = (popc t1 : Nat) := by rw [popc_turn t1]
  go_enter Try.func3, Try.ntmps3
  go_wp2_with (first
    | (go_at_call 9; refine (give_any _ _ _ _ _).mono ?_; rintro e w1 ⟨rfl, hb1⟩))
  obtain ⟨q1, q2, hB1, hs1⟩ := two_boxes _ _ _ hb1
  clear hb1
  go_name_world W hW
  have hB : Below w.heap.size w W := by rw [← hW]; exact hB1.alloc hB1.size _
  have hr : W.heap[w.heap.size]? = some (.cells #[Value.int IntKind.u16 b, Value.int IntKind.u16 l] 24 (0, 0)) := by
    rw [← hW]; exact (Below.heap_alloc w1 _ _ (by omega)).trans q1
  have hx : W.heap[w1.heap.size]? = some (.cells #[Value.int IntKind.u64 (t1 : Nat), Value.int IntKind.u64 (t2 : Nat), Value.int IntKind.u64 (t3 : Nat), Value.int IntKind.u64 (t4 : Nat)] 29 (0, 0)) := by
    rw [← hW]; exact heap_alloc_new w1 _
  clear hW q1 q2 hB1 hs1
  generalize w1.heap.size = xb at *
  have x0 : W.cell? ⟨xb, 0, none⟩ = some (.int .u64 (t1 : Nat)) := cell_of_row W xb 0 _ _ _ hx
  have x1 : W.cell? ⟨xb, 1, none⟩ = some (.int .u64 (t2 : Nat)) := cell_of_row W xb 1 _ _ _ hx
  have x2 : W.cell? ⟨xb, 2, none⟩ = some (.int .u64 (t3 : Nat)) := cell_of_row W xb 2 _ _ _ hx
  have x3 : W.cell? ⟨xb, 3, none⟩ = some (.int .u64 (t4 : Nat)) := cell_of_row W xb 3 _ _ _ hx
  have r0 : W.cell? ⟨w.heap.size, 0, none⟩ = some (.int .u16 b) := cell_of_row W _ 0 _ _ _ hr
  have r1 : W.cell? ⟨w.heap.size, 1, none⟩ = some (.int .u16 l) := cell_of_row W _ 1 _ _ _ hr
  go_quiet (first
    | (go_at_call 10; exact Calls.quiet_of_same (turn_still _ _ (by first | assumption | exact turnT_n64 _)))
    | (go_at_call 11; exact Calls.quiet_of_same (flip_still _ _ (by first | assumption | exact flipT_n64 _)))
    | (go_at_call 12; exact Calls.quiet_of_same (count_still _ _ (by first | assumption | exact turnT_n64 _))))
  have hB' : Below w.heap.size w (W.drewN nq) := ⟨hB.os, hB.tape, hB.output, hB.size, hB.block⟩
  have hx' : (W.drewN nq).heap[xb]? = some (.cells #[Value.int IntKind.u64 (t1 : Nat), Value.int IntKind.u64 (t2 : Nat), Value.int IntKind.u64 (t3 : Nat), Value.int IntKind.u64 (t4 : Nat)] 29 (0, 0)) := hx
  have hr' : (W.drewN nq).heap[w.heap.size]? = some (.cells #[Value.int IntKind.u16 b, Value.int IntKind.u16 l] 24 (0, 0)) := hr
  clear hB hx hr x0 x1 x2 x3 r0 r1 e1 e2 e3
  generalize W.drewN nq = V at *
  have r0 : V.cell? ⟨w.heap.size, 0, none⟩ = some (.int .u16 b) := cell_of_row V _ 0 _ _ _ hr'
  have r1 : V.cell? ⟨w.heap.size, 1, none⟩ = some (.int .u16 l) := cell_of_row V _ 1 _ _ _ hr'
  have lx : xb < V.heap.size := (Array.getElem?_eq_some_iff.1 hx').1
  have lr : w.heap.size < V.heap.size := (Array.getElem?_eq_some_iff.1 hr').1
  by_cases hm : May b l
  · have hmt : decide (May b l) = true := decide_eq_true hm
    go_wp2_with (first
      | (go_at_call 13; refine (may_any _ _ _ hb hl).mono ?_; rintro e w2 ⟨rfl, hb2⟩; rw [hmt]; have hr2 := (hb2.block _ lr).trans hr'; have hx2 := (hb2.block _ lx).trans hx'; have hs2 := hb2.size)
      | (with_reducible refine wpList_load_row rfl 24 (.tmp 3) rfl w.heap.size rfl 24 #[Value.int .u16 b, Value.int .u16 l] (0, 0) _ (by assumption) Try.underlying24 rfl (by kernel_rfl) ?_)
      | (with_reducible refine wpList_load_row rfl 29 (.tmp 8) rfl xb rfl 29 #[Value.int .u64 (t1 : Nat), Value.int .u64 (t2 : Nat), Value.int .u64 (t3 : Nat), Value.int .u64 (t4 : Nat)] (0, 0) _ (by assumption) Try.underlying29 rfl (by kernel_rfl) ?_)
      | (go_at_call 15; refine (grow_ok b l k t1 t2 t3 t4 _ hm hk h1 h2 h3 h4).mono ?_; rintro e w3 ⟨rfl, hb3⟩; have hr3 := (hb3.block _ (by omega)).trans hr2; have hx3 := (hb3.block _ (by omega)).trans hx2; have hs3 := hb3.size))
    have HM := Lib.hid hm
    clear hm
    clear r0 r1
    have x0 : w3.cell? ⟨xb, 0, none⟩ = some (.int .u64 (t1 : Nat)) := cell_of_row w3 xb 0 _ _ _ hx3
    have x1 : w3.cell? ⟨xb, 1, none⟩ = some (.int .u64 (t2 : Nat)) := cell_of_row w3 xb 1 _ _ _ hx3
    have x2 : w3.cell? ⟨xb, 2, none⟩ = some (.int .u64 (t3 : Nat)) := cell_of_row w3 xb 2 _ _ _ hx3
    have x3 : w3.cell? ⟨xb, 3, none⟩ = some (.int .u64 (t4 : Nat)) := cell_of_row w3 xb 3 _ _ _ hx3
    have r0 : w3.cell? ⟨w.heap.size, 0, none⟩ = some (.int .u16 b) := cell_of_row w3 _ 0 _ _ _ hr3
    have r1 : w3.cell? ⟨w.heap.size, 1, none⟩ = some (.int .u16 l) := cell_of_row w3 _ 1 _ _ _ hr3
    go_region_held3 (fun w' => w'.cell? ⟨w.heap.size, 0, none⟩ = some (.int .u16 b) ∧ w'.cell? ⟨w.heap.size, 1, none⟩ = some (.int .u16 l) ∧ w'.cell? ⟨xb, 0, none⟩ = some (.int .u64 (t1 : Nat)) ∧ w'.cell? ⟨xb, 1, none⟩ = some (.int .u64 (t2 : Nat)) ∧ w'.cell? ⟨xb, 2, none⟩ = some (.int .u64 (t3 : Nat)) ∧ w'.cell? ⟨xb, 3, none⟩ = some (.int .u64 (t4 : Nat))) (go_keep)
      (first
        | (go_at_call 10; refine (turn_at _ _ (by assumption)).mono ?_; rintro e w9 ⟨rfl, rfl⟩)
        | (go_at_call 15; refine (grow_ok b l k (turnT t3) (turnT t1) (turnT t4) (turnT t2) _ HM.out hk (turnT_n64 _) (turnT_n64 _) (turnT_n64 _) (turnT_n64 _)).mono ?_; rintro e w4 ⟨rfl, hb4⟩; have s40 := cell_later hb4 (a := ⟨w.heap.size, 0, none⟩) (v := .int .u16 b) (by assumption); have s41 := cell_later hb4 (a := ⟨w.heap.size, 1, none⟩) (v := .int .u16 l) (by assumption); have s42 := cell_later hb4 (a := ⟨xb, 0, none⟩) (v := .int .u64 (t1 : Nat)) (by assumption); have s43 := cell_later hb4 (a := ⟨xb, 1, none⟩) (v := .int .u64 (t2 : Nat)) (by assumption); have s44 := cell_later hb4 (a := ⟨xb, 2, none⟩) (v := .int .u64 (t3 : Nat)) (by assumption); have s45 := cell_later hb4 (a := ⟨xb, 3, none⟩) (v := .int .u64 (t4 : Nat)) (by assumption)))
    have q4 : Below w3.heap.size w3 w4 := ⟨hb4.os, hb4.tape, hb4.output, hb4.size, hb4.block⟩
    clear hb4
    clear x0 x1 x2 x3 r0 r1 hr3 hx3 hr2 hx2 hx' hr'
    go_wp2_with fail
    go_region_held3 (fun w' => w'.cell? ⟨w.heap.size, 0, none⟩ = some (.int .u16 b) ∧ w'.cell? ⟨w.heap.size, 1, none⟩ = some (.int .u16 l) ∧ w'.cell? ⟨xb, 0, none⟩ = some (.int .u64 (t1 : Nat)) ∧ w'.cell? ⟨xb, 1, none⟩ = some (.int .u64 (t2 : Nat)) ∧ w'.cell? ⟨xb, 2, none⟩ = some (.int .u64 (t3 : Nat)) ∧ w'.cell? ⟨xb, 3, none⟩ = some (.int .u64 (t4 : Nat))) (go_keep)
      (first
        | (go_at_call 11; refine (flip_at _ _ (by assumption)).mono ?_; rintro e w9 ⟨rfl, rfl⟩)
        | (go_at_call 15; refine (grow_ok b l k (flipT t2) (flipT t1) (flipT t4) (flipT t3) _ HM.out hk (flipT_n64 _) (flipT_n64 _) (flipT_n64 _) (flipT_n64 _)).mono ?_; rintro e w5 ⟨rfl, hb5⟩; have s50 := cell_later hb5 (a := ⟨w.heap.size, 0, none⟩) (v := .int .u16 b) (by assumption); have s51 := cell_later hb5 (a := ⟨w.heap.size, 1, none⟩) (v := .int .u16 l) (by assumption); have s52 := cell_later hb5 (a := ⟨xb, 0, none⟩) (v := .int .u64 (t1 : Nat)) (by assumption); have s53 := cell_later hb5 (a := ⟨xb, 1, none⟩) (v := .int .u64 (t2 : Nat)) (by assumption); have s54 := cell_later hb5 (a := ⟨xb, 2, none⟩) (v := .int .u64 (t3 : Nat)) (by assumption); have s55 := cell_later hb5 (a := ⟨xb, 3, none⟩) (v := .int .u64 (t4 : Nat)) (by assumption)))
    have q5 : Below w4.heap.size w4 w5 := ⟨hb5.os, hb5.tape, hb5.output, hb5.size, hb5.block⟩
    clear hb5
    clear s40 s41 s42 s43 s44 s45 s50 s51 s52 s53 s54 s55
    have hs4 := q4.size
    have hs5 := q5.size
    have g5 : Below V.heap.size V w5 := (hb2.trans (hb3.mono hs2)).trans ((q4.trans (q5.mono hs4)).mono (by omega))
    clear hb2 hb3 q4 q5
    rw [grow_turn b l k t1 t2 t3 t4 hk, grow_flip b l k t1 t2 t3 t4 hk]
    have HA := growT_n64 b l k t1 t2 t3 t4
    generalize growT b l k t1 t2 t3 t4 = A at *
    go_wp2_with (first
      | (go_at_call 10; refine (turn_at A _ HA).mono ?_; rintro e w6 ⟨rfl, rfl⟩)
      | (go_at_call 11; refine (flip_at A _ HA).mono ?_; rintro e w6 ⟨rfl, rfl⟩)
      | (go_at_call 14; refine (sure09 _).mono ?_; rintro e w6 ⟨rfl, hb6⟩))
    go_ret
    exact ⟨rfl, hB'.trans ((g5.trans (hb6.mono (by omega))).mono hB'.size)⟩
  · have hmt : decide (May b l) = false := decide_eq_false hm
    go_wp2_with (first
     | (go_at_call 13; refine (may_any _ _ _ hb hl).mono ?_; rintro e w2 ⟨rfl, hb2⟩; rw [hmt])
     | (go_at_call 14; refine (sure09 _).mono ?_; rintro e w3 ⟨rfl, hb3⟩))
    go_ret
    exact ⟨rfl, hB'.trans ((hb2.mono hB'.size).trans (hb3.mono (Nat.le_trans hB'.size hb2.size)))⟩
end Go.Proofs.Ytibcekdnkdkpiaa
