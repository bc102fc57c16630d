/- Contracts of package quad: a new square laid ('add'): the walk. -/
import Derived.Test.YtmabgfdibbidcaaQuadC
import Derived.Deep.RegionLaw
import Derived.StillTailTactics
import Derived.Test.YtmabgfdibbidcaaOrders
import Derived.Deep.RegionHeld
import Derived.Deep.DeepCutAuto
namespace Go.Proofs.Ytmabgfdibbidcaa
open Go.RowKit

def MidAt (W : World) (p R : Nat) (L : List Sq) (q : Sq) (lv mv : Value) (kb : Nat) (w' : World) : Prop := ∃ g1 c1 g2 c2, AddMid W w' p R L q lv mv kb g1 c1 g2 c2

set_option maxRecDepth 100000 in
set_option maxHeartbeats 40000000 in
theorem add_new (w : World) (p R : Nat) (L : List Sq) (F : Nat → Prop) (q : Sq) (hs : Store w p R L F) (hq : q ∉ L) (hf : SqFits q) (hok : SqOK L L.length q) (hr : L.length < R) :
    Calls Try.prog 43 #[.pointer (some ⟨p, 0, none⟩), sqV q, .int .i64 (cntQ (counts L) q : Nat)] w fun e w' => e = .returned (.tuple #[.int .i64 ((L.length + 1 : Nat) : Int), .nilIface]) ∧ Acted w w' p R (L ++ [q]) F := by
  have hl := hs.len
  have hsm := hs.small
  have hp := hs.lt p hs.self
  obtain ⟨lv, mv, kb, hst, hF⟩ := hs.at'
  have hkb : kb < w.heap.size := hs.lt kb (hF kb (.inr (.inl rfl)))
  obtain ⟨ao, cap, hlv⟩ := hst.lv_len
  subst hlv
  obtain ⟨c0, c1, c2, c3⟩ := hst.cells
  have hlk : ∀ (o : Obj) n, (Instr.lookup 97 (.map (some kb)) (.agg #[.int .i64 (q.lv : Nat), .int .u64 (q.tl : Nat), .int .i64 (q.ka : Nat), .int .i64 (q.kb : Nat), .int .i64 (q.kc : Nat), .int .i64 (q.kd : Nat)]) true).run Try.prog ((w.alloc o).drewN n) = .ok (.tuple #[.int .i64 0, .bool false]) ((w.alloc o).drewN n) := fun o n =>
    sq_lookup_miss ((w.alloc o).drewN n) kb L hst.wf hl ((Below.heap_alloc w o kb hkb).trans hst.mp) q hf hq
  have hr' : decide ((L.length : Int) < (R : Int)) = true := decide_eq_true (by omega)
  have hr2 : decide ((R : Int) ≤ (L.length : Int)) = false := decide_eq_false (by omega)
  have hcnt : cntQ (counts L) q ≤ 4611686018427387904 := cntQ_le _ _
  obtain ⟨i1, hi1, hz1, hs1, hb1⟩ := info_parts squareT
  obtain ⟨i2, hi2, hz2, hs2, hb2⟩ := info_parts intT
  unfold sqV
  go_enter Try.func43, Try.ntmps43
  go_wp2
  go_quiet (fail)
  go_wp2
  go_quiet (fail)
  go_upto_region 6 with fail
  clear hr' hr2 hlk
  go_name_world W hW
  have hbx : W.heap[w.heap.size]? = some (.cells #[.int .i64 (q.lv : Nat), .int .u64 (q.tl : Nat), .int .i64 (q.ka : Nat), .int .i64 (q.kb : Nat), .int .i64 (q.kc : Nat), .int .i64 (q.kd : Nat)] 103 (0, 0)) := by rw [← hW]; exact heap_alloc_new w _
  have hB : Below w.heap.size w W := by rw [← hW]; exact bel_drewN (bel_drewN ((Below.refl _ _).alloc (Nat.le_refl _) _) _) _
  have hWs : W.heap.size = w.heap.size + 1 := by rw [← hW]; exact World.size_alloc _ _
  have hstW := hst.of_blocks (w' := W) fun i hi => hB.block i (hs.lt i (hF i hi))
  clear hW c0 c1 c2 c3
  go_cut [] (fun wx => MidAt W p R L q (.slice ao L.length cap) mv kb wx)
  case first =>
    obtain ⟨c0, e1, e2, c3⟩ := hstW.cells
    have f1 : ∀ j, W.frozen? ⟨p, j, none⟩ = false := fun j => frozen_of_row W p j _ _ hstW.blk
    have d0 : W.cell? ⟨w.heap.size, 0, none⟩ = some (.int .i64 (q.lv : Nat)) := cell_of_row _ _ 0 _ _ _ hbx
    have d1 : W.cell? ⟨w.heap.size, 1, none⟩ = some (.int .u64 (q.tl : Nat)) := cell_of_row _ _ 1 _ _ _ hbx
    have d2 : W.cell? ⟨w.heap.size, 2, none⟩ = some (.int .i64 (q.ka : Nat)) := cell_of_row _ _ 2 _ _ _ hbx
    have d3 : W.cell? ⟨w.heap.size, 3, none⟩ = some (.int .i64 (q.kb : Nat)) := cell_of_row _ _ 3 _ _ _ hbx
    have d4 : W.cell? ⟨w.heap.size, 4, none⟩ = some (.int .i64 (q.kc : Nat)) := cell_of_row _ _ 4 _ _ _ hbx
    have d5 : W.cell? ⟨w.heap.size, 5, none⟩ = some (.int .i64 (q.kd : Nat)) := cell_of_row _ _ 5 _ _ _ hbx
    have hpW : p < W.heap.size := by omega
    have hbxW : w.heap.size < W.heap.size := by omega
    have hpW1 : p < W.heap.size + 1 := by omega
    have hbxW1 : w.heap.size < W.heap.size + 1 := by omega
    clear hWs
    have n4 : Value.ownBlock (.slice ao L.length cap) ≠ some w.heap.size := fun e => by have := hs.lt _ (hF _ (.inr (.inr (.inl e)))); omega
    have n5 : Value.ownBlock mv ≠ some w.heap.size := fun e => by have := hs.lt _ (hF _ (.inr (.inr (.inr e)))); omega
    have hls : W.ownsRow 0 103 6 (.slice ao L.length cap) L.length (cellsL L) := hstW.ls
    have hms : W.ownsRow 0 3 1 mv L.length (manyVals L) := hstW.ms
    have n1 := hstW.d1
    have n2 := hstW.d2
    have n3 := hstW.d3
    have hblk := hstW.blk
    have hmx : L.length + 1 ≤ maxLen := by unfold maxLen; omega
    have H := Lib.hid hcnt
    clear hstW hst hs hF hB hbx hcnt hq hf hok hr c0 c3
    have v1 := fun g hg => (hls.lt g hg).2
    have v2 := fun g hg => (hms.lt g hg).2
    refine wp_region_any (by kernel_rfl) ?_
    change wpAny _ _ _ _ _ _ _ (World.drew _)
    refine wpAny_take (i := 0) (v := ?_) rfl (by kernel_rfl) (by kernel_rfl) (by kernel_rfl) (fun _ _ _ h => h) (Or.inl ⟨by rfl, ?_⟩) ?_
    rotate_left
    · intro w0
      go_simp
      try with_reducible rfl
    refine wpAny_take (i := 1) (v := ?_) rfl (by kernel_rfl) (by kernel_rfl) (by kernel_rfl) (fun _ _ _ h => h) (Or.inl ⟨by rfl, ?_⟩) ?_
    rotate_left
    · intro w0
      go_simp
      try with_reducible rfl
    refine wpAny_take (i := 2) (v := ?_) rfl (by kernel_rfl) (by kernel_rfl) (by kernel_rfl) (fun _ _ _ h => h) (Or.inl ⟨by rfl, ?_⟩) ?_
    rotate_left
    · intro w0
      go_simp
      try with_reducible rfl
    refine wpAny_take (i := 3) (v := ?_) rfl (by kernel_rfl) (by kernel_rfl) (by kernel_rfl) (fun _ _ _ h => h) (Or.inl ⟨by rfl, ?_⟩) ?_
    rotate_left
    · intro w0
      go_simp
      try with_reducible rfl
    refine wpAny_take (i := 4) (v := ?_) rfl (by kernel_rfl) (by kernel_rfl) (by kernel_rfl) (fun _ _ _ h => h) (Or.inl ⟨by rfl, ?_⟩) ?_
    rotate_left
    · intro w0
      go_simp
      try with_reducible rfl
    refine wpAny_take (i := 9) (v := ?_) rfl (by kernel_rfl) (by kernel_rfl) (by kernel_rfl) (fun _ _ _ h => h) (Or.inl ⟨by rfl, ?_⟩) ?_
    rotate_left
    · intro w0
      go_simp
      try with_reducible rfl
    refine wpAny_take (i := 10) (v := ?_) rfl (by kernel_rfl) (by kernel_rfl) (by kernel_rfl) (fun _ _ _ h => h) (Or.inl ⟨by rfl, ?_⟩) ?_
    rotate_left
    · intro w0
      go_simp
      try with_reducible rfl
    refine wpAny_take (i := 11) (v := ?_) rfl (by kernel_rfl) (by kernel_rfl) (by kernel_rfl) (fun _ _ _ h => h) (Or.inl ⟨by rfl, ?_⟩) ?_
    rotate_left
    · intro w0
      go_simp
      try with_reducible rfl
    refine wpAny_take (i := 13) (v := ?_) rfl (by kernel_rfl) (by kernel_rfl) (by kernel_rfl) (fun _ _ _ h => h) (Or.inl ⟨by rfl, ?_⟩) ?_
    rotate_left
    · intro w0
      go_simp
      try with_reducible rfl
    refine wpG_any (S := fun w0 => w0.cell? ⟨p, 1, none⟩ = some (.slice ao L.length cap) ∧ w0.cell? ⟨p, 2, none⟩ = some mv ∧ w0.cell? ⟨w.heap.size, 0, none⟩ = some (.int .i64 (q.lv : Nat)) ∧ w0.cell? ⟨w.heap.size, 1, none⟩ = some (.int .u64 (q.tl : Nat)) ∧ w0.cell? ⟨w.heap.size, 2, none⟩ = some (.int .i64 (q.ka : Nat)) ∧ w0.cell? ⟨w.heap.size, 3, none⟩ = some (.int .i64 (q.kb : Nat)) ∧ w0.cell? ⟨w.heap.size, 4, none⟩ = some (.int .i64 (q.kc : Nat)) ∧ w0.cell? ⟨w.heap.size, 5, none⟩ = some (.int .i64 (q.kd : Nat))) (n := 16) _ _ _ _ ?_
    have hS0 : _ ∧ _ ∧ _ ∧ _ ∧ _ ∧ _ ∧ _ ∧ _ := ⟨e1, e2, d0, d1, d2, d3, d4, d5⟩
    have hSK : ∀ w0, Keep (TwoOf (.slice ao L.length cap) mv) W w0 → w0.cell? ⟨p, 1, none⟩ = some (.slice ao L.length cap) ∧ w0.cell? ⟨p, 2, none⟩ = some mv ∧ w0.cell? ⟨w.heap.size, 0, none⟩ = some (.int .i64 (q.lv : Nat)) ∧ w0.cell? ⟨w.heap.size, 1, none⟩ = some (.int .u64 (q.tl : Nat)) ∧ w0.cell? ⟨w.heap.size, 2, none⟩ = some (.int .i64 (q.ka : Nat)) ∧ w0.cell? ⟨w.heap.size, 3, none⟩ = some (.int .i64 (q.kb : Nat)) ∧ w0.cell? ⟨w.heap.size, 4, none⟩ = some (.int .i64 (q.kc : Nat)) ∧ w0.cell? ⟨w.heap.size, 5, none⟩ = some (.int .i64 (q.kd : Nat)) := fun w0 k =>
      ⟨(k.cell (x := ⟨p, 1, none⟩) hpW (fun h => h.elim n1 n2)).trans e1, (k.cell (x := ⟨p, 2, none⟩) hpW (fun h => h.elim n1 n2)).trans e2, (k.cell (x := ⟨w.heap.size, 0, none⟩) hbxW (fun h => h.elim n4 n5)).trans d0, (k.cell (x := ⟨w.heap.size, 1, none⟩) hbxW (fun h => h.elim n4 n5)).trans d1,
        (k.cell (x := ⟨w.heap.size, 2, none⟩) hbxW (fun h => h.elim n4 n5)).trans d2, (k.cell (x := ⟨w.heap.size, 3, none⟩) hbxW (fun h => h.elim n4 n5)).trans d3, (k.cell (x := ⟨w.heap.size, 4, none⟩) hbxW (fun h => h.elim n4 n5)).trans d4, (k.cell (x := ⟨w.heap.size, 5, none⟩) hbxW (fun h => h.elim n4 n5)).trans d5⟩
    refine wpG_take (i := 5) (v := ?_) rfl (by kernel_rfl) (by kernel_rfl) (by kernel_rfl) (by kernel_rfl) (by kernel_rfl) (fun _ _ _ h => h) hS0 (Or.inl ⟨by rfl, ?_⟩) ?_
    rotate_left
    · intro w0 hw0
      obtain ⟨y1, y2, y3, y4, y5, y6, y7, y8⟩ := hw0
      go_simp
      try with_reducible rfl
    refine wpG_take (i := 6) (v := ?_) rfl (by kernel_rfl) (by kernel_rfl) (by kernel_rfl) (by kernel_rfl) (by kernel_rfl) (fun _ _ _ h => h) hS0 (Or.inl ⟨by rfl, ?_⟩) ?_
    rotate_left
    · intro w0 hw0
      obtain ⟨y1, y2, y3, y4, y5, y6, y7, y8⟩ := hw0
      go_simp
      try with_reducible rfl
    refine wpG_take (i := 12) (v := ?_) rfl (by kernel_rfl) (by kernel_rfl) (by kernel_rfl) (by kernel_rfl) (by kernel_rfl) (fun _ _ _ h => h) hS0 (Or.inl ⟨by rfl, ?_⟩) ?_
    rotate_left
    · intro w0 hw0
      obtain ⟨y1, y2, y3, y4, y5, y6, y7, y8⟩ := hw0
      go_simp
      try with_reducible rfl
    refine wpG_all (rs := [7, 14]) (by kernel_rfl) (by simp) ?_
    intro i hi
    obtain rfl | rfl : i = 7 ∨ i = 14 := by simpa using hi
    all_goals clear hi
    · refine wpG_step (by rfl) (fun K hK => ?_)
      go_simp
      refine hK _ _ (fun _ => hSK _ (by first | exact ((Keep.refl _ _).alloc _).drew | exact (((Keep.refl _ _).alloc _).alloc _).drew | exact K1b.alloc _)) ?_
      clear hK K
      refine wpG_all (rs := [8, 14]) (by kernel_rfl) (by simp) ?_
      intro i hi
      obtain rfl | rfl : i = 8 ∨ i = 14 := by simpa using hi
      all_goals clear hi
      · refine wpG_step (by rfl) (fun K hK => ?_)
        refine step_append_lies _ rfl (.tmp 37) (.tmp 39) 98 rfl 0 103 i1 _ 6 48 Try.underlying98 hi1 hz1 hs1 hb1 rfl (by decide) _ L.length (cellsL L) rfl ?_ _ 1 1 (sqVals q) rfl rfl ?_ (sqVals_one q) (by decide) hmx (by omega) (Nat.zero_le _) _ rfl ?_
        · first | exact hls.alloc _ | exact (hls.alloc _).alloc _
        · refine World.news_of_block (cs := (sqVals q).toArray) (t := 103) (fr := (0, 0)) ?_
          first | exact last_block _ _ _ (by first | omega | (rw [World.size_alloc]; done) | (rw [World.size_alloc]; omega) | (simp; done) | (simp; omega)) | exact (Below.heap_alloc _ _ _ (by first | omega | (rw [World.size_alloc]; done) | (rw [World.size_alloc]; omega) | (simp; done) | (simp; omega))).trans (last_block _ _ _ (by first | omega | (rw [World.size_alloc]; done) | (rw [World.size_alloc]; omega) | (simp; done) | (simp; omega)))
        intro g1 p1 w1 hown1 hgrow1 hat1 hlt1
        have hfar1 := grown_far (W := W) hgrow1 v1
        have K1 : Keep (OneOf (.slice ao L.length cap)) W w1 := by
          refine keep_grown ?_ hgrow1 (fun _ h => h)
          first | exact ((Keep.refl _ _).alloc _).drew | exact (((Keep.refl _ _).alloc _).alloc _).drew
        have K1b : Keep (TwoOf (.slice ao L.length cap) mv) W w1 := K1.mono fun _ h => .inl h
        have a1 : (Value.slice ao L.length cap).ownBlock = some g1 ∨ W.heap.size ≤ g1 := hat1.imp id (fun e => by rw [e]; first | exact (((Keep.refl (OneOf mv) _).alloc _).drew).size | exact ((((Keep.refl (OneOf mv) _).alloc _).alloc _).drew).size)
        have hms1 : w1.ownsRow 0 3 1 mv L.length (manyVals L) := ownsRow_of_block hms fun g hg => K1.block g (v2 g hg) (own_ne n3 hg)
        have z1 := K1.size
        clear hgrow1 hat1
        try go_simp
        refine hK _ _ (fun _ => hSK _ K1b) ?_
        clear hK K
        refine wpG_all (rs := [14]) (by kernel_rfl) (by simp) ?_
        intro i hi
        obtain rfl : i = 14 := by simpa using hi
        clear hi
        refine wpG_step (by rfl) (fun K hK => ?_)
        go_simp
        refine hK _ _ (fun _ => hSK _ (by first | exact ((Keep.refl _ _).alloc _).drew | exact (((Keep.refl _ _).alloc _).alloc _).drew | exact K1b.alloc _)) ?_
        clear hK K
        refine wpG_all (rs := [15]) (by kernel_rfl) (by simp) ?_
        intro i hi
        obtain rfl : i = 15 := by simpa using hi
        clear hi
        refine wpG_step (by rfl) (fun K hK => ?_)
        refine step_append_lies _ rfl (.tmp 44) (.tmp 46) 60 rfl 0 3 i2 _ 1 8 Try.underlying60 hi2 hz2 hs2 hb2 rfl (by decide) _ L.length (manyVals L) rfl ?_ _ 1 1 [.int .i64 (cntQ (counts L) q : Nat)] rfl rfl ?_ (by intro u hu; simp at hu; subst hu; rfl) (by decide) hmx (by omega) (Nat.zero_le _) _ rfl ?_
        · first | exact hms1 | exact hms1.alloc _
        · refine World.news_of_block (cs := #[.int .i64 (cntQ (counts L) q : Nat)]) (t := 3) (fr := (0, 0)) ?_
          first | exact last_block _ _ _ rfl | exact hfar1 _ _ (by omega) (last_block _ _ _ (by first | omega | (rw [World.size_alloc]; done) | (rw [World.size_alloc]; omega) | (simp; done) | (simp; omega))) | exact hfar1 _ _ (by omega) ((Below.heap_alloc _ _ _ (by first | omega | (rw [World.size_alloc]; done) | (rw [World.size_alloc]; omega) | (simp; done) | (simp; omega))).trans (last_block _ _ _ (by first | omega | (rw [World.size_alloc]; done) | (rw [World.size_alloc]; omega) | (simp; done) | (simp; omega))))
        intro g2 p2 w2 hown2 hgrow2 hat2 hlt2
        have K2 : Keep (TwoOf (.slice ao L.length cap) mv) W w2 := by
          refine keep_grown ?_ hgrow2 (fun _ h => .inr h)
          first | exact K1b | exact K1b.alloc _
        have a2 : mv.ownBlock = some g2 ∨ w1.heap.size ≤ g2 := hat2.imp id (fun e => by rw [e]; first | exact Nat.le_refl _ | exact ((Keep.refl (OneOf mv) _).alloc _).size)
        have x3 := (K2.cell (x := ⟨p, 1, none⟩) hpW (fun h => h.elim n1 n2)).trans e1
        have x4 := (K2.cell (x := ⟨p, 2, none⟩) hpW (fun h => h.elim n1 n2)).trans e2
        have x5 := fun j => (K2.frozen (x := ⟨p, j, none⟩) hpW (fun h => h.elim n1 n2)).trans (f1 j)
        have hne : g1 ≠ g2 := fun e => by
          subst e
          rcases a2 with h | h
          · rcases a1 with h' | h'
            · exact own_ne n3 h h'
            · have := v2 _ h; omega
          · omega
        have hown1b : w2.ownsRow 0 103 6 (.slice (some ⟨g1, 0, none⟩) (L.length + 1) p1) (L.length + 1) (cellsL L ++ sqVals q) := ownsRow_of_block hown1 fun g hg => by
          obtain rfl : g1 = g := by simpa [Value.ownBlock] using hg
          have hnm : some g1 ≠ mv.ownBlock := fun e => by
            rcases a1 with h' | h'
            · exact own_ne n3 e.symm h'
            · have := v2 _ e.symm; omega
          first | exact hgrow2.block g1 hlt1 hnm | exact (hgrow2.block g1 (by first | omega | (rw [World.size_alloc]; done) | (rw [World.size_alloc]; omega) | (simp; done) | (simp; omega)) hnm).trans (Below.heap_alloc _ _ _ hlt1)
        have a2' : mv.ownBlock = some g2 ∨ W.heap.size ≤ g2 := a2.imp id (fun h => by omega)
        clear hgrow2 hat2 hms1
        try go_simp
        refine hK _ _ (fun _ => hSK _ K2) ?_
        clear hK K
        refine wpG_all (rs := [16]) (by kernel_rfl) (by simp) ?_
        intro i hi
        obtain rfl : i = 16 := by simpa using hi
        clear hi
        refine wpG_step (by rfl) (fun K hK => ?_)
        go_simp
        refine hK _ _ (fun h => by simp at h) ?_
        clear hK K
        refine wpG_all (rs := [17]) (by kernel_rfl) (by simp) ?_
        intro i hi
        obtain rfl : i = 17 := by simpa using hi
        clear hi
        refine wpG_step (by rfl) (fun K hK => ?_)
        go_simp
        refine hK _ _ (fun h => by simp at h) ?_
        clear hK K
        refine wpG_all (rs := [18]) (by kernel_rfl) (by simp) ?_
        intro i hi
        obtain rfl : i = 18 := by simpa using hi
        clear hi
        refine wpG_step (by rfl) (fun K hK => ?_)
        go_simp
        refine hK _ _ (fun h => by simp at h) ?_
        clear hK K
        refine wpG_all (rs := [19]) (by kernel_rfl) (by simp) ?_
        intro i hi
        obtain rfl : i = 19 := by simpa using hi
        clear hi
        refine wpG_step (by rfl) (fun K hK => ?_)
        go_simp
        refine hK _ _ (fun h => by simp at h) ?_
        clear hK K
        refine wpG_all (rs := [20]) (by kernel_rfl) (by simp) ?_
        intro i hi
        obtain rfl : i = 20 := by simpa using hi
        clear hi
        refine wpG_step (by rfl) (fun K hK => ?_)
        go_simp
        refine hK _ _ (fun h => by simp at h) ?_
        clear hK K
        refine wpG_all (rs := [21]) (by kernel_rfl) (by simp) ?_
        intro i hi
        obtain rfl : i = 21 := by simpa using hi
        clear hi
        refine wpG_step (by rfl) (fun K hK => ?_)
        go_simp
        refine hK _ _ (fun h => by simp at h) ?_
        clear hK K
        refine wpG_done (by kernel_rfl) ?_ _
        go_wp2_with fail
        go_meet
        exact ⟨g1, p1, g2, p2, add_mid hpW hblk n1 n2 K2 hown1b hown2 a1 a2' hne⟩
      · refine wpG_step (by rfl) (fun K hK => ?_)
        go_simp
        refine hK _ _ (fun _ => hSK _ (by first | exact ((Keep.refl _ _).alloc _).drew | exact (((Keep.refl _ _).alloc _).alloc _).drew | exact K1b.alloc _)) ?_
        clear hK K
        refine wpG_all (rs := [8]) (by kernel_rfl) (by simp) ?_
        intro i hi
        obtain rfl : i = 8 := by simpa using hi
        clear hi
        refine wpG_step (by rfl) (fun K hK => ?_)
        refine step_append_lies _ rfl (.tmp 37) (.tmp 39) 98 rfl 0 103 i1 _ 6 48 Try.underlying98 hi1 hz1 hs1 hb1 rfl (by decide) _ L.length (cellsL L) rfl ?_ _ 1 1 (sqVals q) rfl rfl ?_ (sqVals_one q) (by decide) hmx (by omega) (Nat.zero_le _) _ rfl ?_
        · first | exact hls.alloc _ | exact (hls.alloc _).alloc _
        · refine World.news_of_block (cs := (sqVals q).toArray) (t := 103) (fr := (0, 0)) ?_
          first | exact last_block _ _ _ (by first | omega | (rw [World.size_alloc]; done) | (rw [World.size_alloc]; omega) | (simp; done) | (simp; omega)) | exact (Below.heap_alloc _ _ _ (by first | omega | (rw [World.size_alloc]; done) | (rw [World.size_alloc]; omega) | (simp; done) | (simp; omega))).trans (last_block _ _ _ (by first | omega | (rw [World.size_alloc]; done) | (rw [World.size_alloc]; omega) | (simp; done) | (simp; omega)))
        intro g1 p1 w1 hown1 hgrow1 hat1 hlt1
        have hfar1 := grown_far (W := W) hgrow1 v1
        have K1 : Keep (OneOf (.slice ao L.length cap)) W w1 := by
          refine keep_grown ?_ hgrow1 (fun _ h => h)
          first | exact ((Keep.refl _ _).alloc _).drew | exact (((Keep.refl _ _).alloc _).alloc _).drew
        have K1b : Keep (TwoOf (.slice ao L.length cap) mv) W w1 := K1.mono fun _ h => .inl h
        have a1 : (Value.slice ao L.length cap).ownBlock = some g1 ∨ W.heap.size ≤ g1 := hat1.imp id (fun e => by rw [e]; first | exact (((Keep.refl (OneOf mv) _).alloc _).drew).size | exact ((((Keep.refl (OneOf mv) _).alloc _).alloc _).drew).size)
        have hms1 : w1.ownsRow 0 3 1 mv L.length (manyVals L) := ownsRow_of_block hms fun g hg => K1.block g (v2 g hg) (own_ne n3 hg)
        have z1 := K1.size
        clear hgrow1 hat1
        try go_simp
        refine hK _ _ (fun _ => hSK _ K1b) ?_
        clear hK K
        refine wpG_all (rs := [15]) (by kernel_rfl) (by simp) ?_
        intro i hi
        obtain rfl : i = 15 := by simpa using hi
        clear hi
        refine wpG_step (by rfl) (fun K hK => ?_)
        refine step_append_lies _ rfl (.tmp 44) (.tmp 46) 60 rfl 0 3 i2 _ 1 8 Try.underlying60 hi2 hz2 hs2 hb2 rfl (by decide) _ L.length (manyVals L) rfl ?_ _ 1 1 [.int .i64 (cntQ (counts L) q : Nat)] rfl rfl ?_ (by intro u hu; simp at hu; subst hu; rfl) (by decide) hmx (by omega) (Nat.zero_le _) _ rfl ?_
        · first | exact hms1 | exact hms1.alloc _
        · refine World.news_of_block (cs := #[.int .i64 (cntQ (counts L) q : Nat)]) (t := 3) (fr := (0, 0)) ?_
          first | exact last_block _ _ _ rfl | exact hfar1 _ _ (by omega) (last_block _ _ _ (by first | omega | (rw [World.size_alloc]; done) | (rw [World.size_alloc]; omega) | (simp; done) | (simp; omega))) | exact hfar1 _ _ (by omega) ((Below.heap_alloc _ _ _ (by first | omega | (rw [World.size_alloc]; done) | (rw [World.size_alloc]; omega) | (simp; done) | (simp; omega))).trans (last_block _ _ _ (by first | omega | (rw [World.size_alloc]; done) | (rw [World.size_alloc]; omega) | (simp; done) | (simp; omega))))
        intro g2 p2 w2 hown2 hgrow2 hat2 hlt2
        have K2 : Keep (TwoOf (.slice ao L.length cap) mv) W w2 := by
          refine keep_grown ?_ hgrow2 (fun _ h => .inr h)
          first | exact K1b | exact K1b.alloc _
        have a2 : mv.ownBlock = some g2 ∨ w1.heap.size ≤ g2 := hat2.imp id (fun e => by rw [e]; first | exact Nat.le_refl _ | exact ((Keep.refl (OneOf mv) _).alloc _).size)
        have x3 := (K2.cell (x := ⟨p, 1, none⟩) hpW (fun h => h.elim n1 n2)).trans e1
        have x4 := (K2.cell (x := ⟨p, 2, none⟩) hpW (fun h => h.elim n1 n2)).trans e2
        have x5 := fun j => (K2.frozen (x := ⟨p, j, none⟩) hpW (fun h => h.elim n1 n2)).trans (f1 j)
        have hne : g1 ≠ g2 := fun e => by
          subst e
          rcases a2 with h | h
          · rcases a1 with h' | h'
            · exact own_ne n3 h h'
            · have := v2 _ h; omega
          · omega
        have hown1b : w2.ownsRow 0 103 6 (.slice (some ⟨g1, 0, none⟩) (L.length + 1) p1) (L.length + 1) (cellsL L ++ sqVals q) := ownsRow_of_block hown1 fun g hg => by
          obtain rfl : g1 = g := by simpa [Value.ownBlock] using hg
          have hnm : some g1 ≠ mv.ownBlock := fun e => by
            rcases a1 with h' | h'
            · exact own_ne n3 e.symm h'
            · have := v2 _ e.symm; omega
          first | exact hgrow2.block g1 hlt1 hnm | exact (hgrow2.block g1 (by first | omega | (rw [World.size_alloc]; done) | (rw [World.size_alloc]; omega) | (simp; done) | (simp; omega)) hnm).trans (Below.heap_alloc _ _ _ hlt1)
        have a2' : mv.ownBlock = some g2 ∨ W.heap.size ≤ g2 := a2.imp id (fun h => by omega)
        clear hgrow2 hat2 hms1
        try go_simp
        refine hK _ _ (fun _ => hSK _ K2) ?_
        clear hK K
        refine wpG_all (rs := [16]) (by kernel_rfl) (by simp) ?_
        intro i hi
        obtain rfl : i = 16 := by simpa using hi
        clear hi
        refine wpG_step (by rfl) (fun K hK => ?_)
        go_simp
        refine hK _ _ (fun h => by simp at h) ?_
        clear hK K
        refine wpG_all (rs := [17]) (by kernel_rfl) (by simp) ?_
        intro i hi
        obtain rfl : i = 17 := by simpa using hi
        clear hi
        refine wpG_step (by rfl) (fun K hK => ?_)
        go_simp
        refine hK _ _ (fun h => by simp at h) ?_
        clear hK K
        refine wpG_all (rs := [18]) (by kernel_rfl) (by simp) ?_
        intro i hi
        obtain rfl : i = 18 := by simpa using hi
        clear hi
        refine wpG_step (by rfl) (fun K hK => ?_)
        go_simp
        refine hK _ _ (fun h => by simp at h) ?_
        clear hK K
        refine wpG_all (rs := [19]) (by kernel_rfl) (by simp) ?_
        intro i hi
        obtain rfl : i = 19 := by simpa using hi
        clear hi
        refine wpG_step (by rfl) (fun K hK => ?_)
        go_simp
        refine hK _ _ (fun h => by simp at h) ?_
        clear hK K
        refine wpG_all (rs := [20]) (by kernel_rfl) (by simp) ?_
        intro i hi
        obtain rfl : i = 20 := by simpa using hi
        clear hi
        refine wpG_step (by rfl) (fun K hK => ?_)
        go_simp
        refine hK _ _ (fun h => by simp at h) ?_
        clear hK K
        refine wpG_all (rs := [21]) (by kernel_rfl) (by simp) ?_
        intro i hi
        obtain rfl : i = 21 := by simpa using hi
        clear hi
        refine wpG_step (by rfl) (fun K hK => ?_)
        go_simp
        refine hK _ _ (fun h => by simp at h) ?_
        clear hK K
        refine wpG_done (by kernel_rfl) ?_ _
        go_wp2_with fail
        go_meet
        exact ⟨g1, p1, g2, p2, add_mid hpW hblk n1 n2 K2 hown1b hown2 a1 a2' hne⟩
    · refine wpG_step (by rfl) (fun K hK => ?_)
      go_simp
      refine hK _ _ (fun _ => hSK _ (by first | exact ((Keep.refl _ _).alloc _).drew | exact (((Keep.refl _ _).alloc _).alloc _).drew | exact K1b.alloc _)) ?_
      clear hK K
      refine wpG_all (rs := [7]) (by kernel_rfl) (by simp) ?_
      intro i hi
      obtain rfl : i = 7 := by simpa using hi
      clear hi
      refine wpG_step (by rfl) (fun K hK => ?_)
      go_simp
      refine hK _ _ (fun _ => hSK _ (by first | exact ((Keep.refl _ _).alloc _).drew | exact (((Keep.refl _ _).alloc _).alloc _).drew | exact K1b.alloc _)) ?_
      clear hK K
      refine wpG_all (rs := [8]) (by kernel_rfl) (by simp) ?_
      intro i hi
      obtain rfl : i = 8 := by simpa using hi
      clear hi
      refine wpG_step (by rfl) (fun K hK => ?_)
      refine step_append_lies _ rfl (.tmp 37) (.tmp 39) 98 rfl 0 103 i1 _ 6 48 Try.underlying98 hi1 hz1 hs1 hb1 rfl (by decide) _ L.length (cellsL L) rfl ?_ _ 1 1 (sqVals q) rfl rfl ?_ (sqVals_one q) (by decide) hmx (by omega) (Nat.zero_le _) _ rfl ?_
      · first | exact hls.alloc _ | exact (hls.alloc _).alloc _
      · refine World.news_of_block (cs := (sqVals q).toArray) (t := 103) (fr := (0, 0)) ?_
        first | exact last_block _ _ _ (by first | omega | (rw [World.size_alloc]; done) | (rw [World.size_alloc]; omega) | (simp; done) | (simp; omega)) | exact (Below.heap_alloc _ _ _ (by first | omega | (rw [World.size_alloc]; done) | (rw [World.size_alloc]; omega) | (simp; done) | (simp; omega))).trans (last_block _ _ _ (by first | omega | (rw [World.size_alloc]; done) | (rw [World.size_alloc]; omega) | (simp; done) | (simp; omega)))
      intro g1 p1 w1 hown1 hgrow1 hat1 hlt1
      have hfar1 := grown_far (W := W) hgrow1 v1
      have K1 : Keep (OneOf (.slice ao L.length cap)) W w1 := by
        refine keep_grown ?_ hgrow1 (fun _ h => h)
        first | exact ((Keep.refl _ _).alloc _).drew | exact (((Keep.refl _ _).alloc _).alloc _).drew
      have K1b : Keep (TwoOf (.slice ao L.length cap) mv) W w1 := K1.mono fun _ h => .inl h
      have a1 : (Value.slice ao L.length cap).ownBlock = some g1 ∨ W.heap.size ≤ g1 := hat1.imp id (fun e => by rw [e]; first | exact (((Keep.refl (OneOf mv) _).alloc _).drew).size | exact ((((Keep.refl (OneOf mv) _).alloc _).alloc _).drew).size)
      have hms1 : w1.ownsRow 0 3 1 mv L.length (manyVals L) := ownsRow_of_block hms fun g hg => K1.block g (v2 g hg) (own_ne n3 hg)
      have z1 := K1.size
      clear hgrow1 hat1
      try go_simp
      refine hK _ _ (fun _ => hSK _ K1b) ?_
      clear hK K
      refine wpG_all (rs := [15]) (by kernel_rfl) (by simp) ?_
      intro i hi
      obtain rfl : i = 15 := by simpa using hi
      clear hi
      refine wpG_step (by rfl) (fun K hK => ?_)
      refine step_append_lies _ rfl (.tmp 44) (.tmp 46) 60 rfl 0 3 i2 _ 1 8 Try.underlying60 hi2 hz2 hs2 hb2 rfl (by decide) _ L.length (manyVals L) rfl ?_ _ 1 1 [.int .i64 (cntQ (counts L) q : Nat)] rfl rfl ?_ (by intro u hu; simp at hu; subst hu; rfl) (by decide) hmx (by omega) (Nat.zero_le _) _ rfl ?_
      · first | exact hms1 | exact hms1.alloc _
      · refine World.news_of_block (cs := #[.int .i64 (cntQ (counts L) q : Nat)]) (t := 3) (fr := (0, 0)) ?_
        first | exact last_block _ _ _ rfl | exact hfar1 _ _ (by omega) (last_block _ _ _ (by first | omega | (rw [World.size_alloc]; done) | (rw [World.size_alloc]; omega) | (simp; done) | (simp; omega))) | exact hfar1 _ _ (by omega) ((Below.heap_alloc _ _ _ (by first | omega | (rw [World.size_alloc]; done) | (rw [World.size_alloc]; omega) | (simp; done) | (simp; omega))).trans (last_block _ _ _ (by first | omega | (rw [World.size_alloc]; done) | (rw [World.size_alloc]; omega) | (simp; done) | (simp; omega))))
      intro g2 p2 w2 hown2 hgrow2 hat2 hlt2
      have K2 : Keep (TwoOf (.slice ao L.length cap) mv) W w2 := by
        refine keep_grown ?_ hgrow2 (fun _ h => .inr h)
        first | exact K1b | exact K1b.alloc _
      have a2 : mv.ownBlock = some g2 ∨ w1.heap.size ≤ g2 := hat2.imp id (fun e => by rw [e]; first | exact Nat.le_refl _ | exact ((Keep.refl (OneOf mv) _).alloc _).size)
      have x3 := (K2.cell (x := ⟨p, 1, none⟩) hpW (fun h => h.elim n1 n2)).trans e1
      have x4 := (K2.cell (x := ⟨p, 2, none⟩) hpW (fun h => h.elim n1 n2)).trans e2
      have x5 := fun j => (K2.frozen (x := ⟨p, j, none⟩) hpW (fun h => h.elim n1 n2)).trans (f1 j)
      have hne : g1 ≠ g2 := fun e => by
        subst e
        rcases a2 with h | h
        · rcases a1 with h' | h'
          · exact own_ne n3 h h'
          · have := v2 _ h; omega
        · omega
      have hown1b : w2.ownsRow 0 103 6 (.slice (some ⟨g1, 0, none⟩) (L.length + 1) p1) (L.length + 1) (cellsL L ++ sqVals q) := ownsRow_of_block hown1 fun g hg => by
        obtain rfl : g1 = g := by simpa [Value.ownBlock] using hg
        have hnm : some g1 ≠ mv.ownBlock := fun e => by
          rcases a1 with h' | h'
          · exact own_ne n3 e.symm h'
          · have := v2 _ e.symm; omega
        first | exact hgrow2.block g1 hlt1 hnm | exact (hgrow2.block g1 (by first | omega | (rw [World.size_alloc]; done) | (rw [World.size_alloc]; omega) | (simp; done) | (simp; omega)) hnm).trans (Below.heap_alloc _ _ _ hlt1)
      have a2' : mv.ownBlock = some g2 ∨ W.heap.size ≤ g2 := a2.imp id (fun h => by omega)
      clear hgrow2 hat2 hms1
      try go_simp
      refine hK _ _ (fun _ => hSK _ K2) ?_
      clear hK K
      refine wpG_all (rs := [16]) (by kernel_rfl) (by simp) ?_
      intro i hi
      obtain rfl : i = 16 := by simpa using hi
      clear hi
      refine wpG_step (by rfl) (fun K hK => ?_)
      go_simp
      refine hK _ _ (fun h => by simp at h) ?_
      clear hK K
      refine wpG_all (rs := [17]) (by kernel_rfl) (by simp) ?_
      intro i hi
      obtain rfl : i = 17 := by simpa using hi
      clear hi
      refine wpG_step (by rfl) (fun K hK => ?_)
      go_simp
      refine hK _ _ (fun h => by simp at h) ?_
      clear hK K
      refine wpG_all (rs := [18]) (by kernel_rfl) (by simp) ?_
      intro i hi
      obtain rfl : i = 18 := by simpa using hi
      clear hi
      refine wpG_step (by rfl) (fun K hK => ?_)
      go_simp
      refine hK _ _ (fun h => by simp at h) ?_
      clear hK K
      refine wpG_all (rs := [19]) (by kernel_rfl) (by simp) ?_
      intro i hi
      obtain rfl : i = 19 := by simpa using hi
      clear hi
      refine wpG_step (by rfl) (fun K hK => ?_)
      go_simp
      refine hK _ _ (fun h => by simp at h) ?_
      clear hK K
      refine wpG_all (rs := [20]) (by kernel_rfl) (by simp) ?_
      intro i hi
      obtain rfl : i = 20 := by simpa using hi
      clear hi
      refine wpG_step (by rfl) (fun K hK => ?_)
      go_simp
      refine hK _ _ (fun h => by simp at h) ?_
      clear hK K
      refine wpG_all (rs := [21]) (by kernel_rfl) (by simp) ?_
      intro i hi
      obtain rfl : i = 21 := by simpa using hi
      clear hi
      refine wpG_step (by rfl) (fun K hK => ?_)
      go_simp
      refine hK _ _ (fun h => by simp at h) ?_
      clear hK K
      refine wpG_done (by kernel_rfl) ?_ _
      go_wp2_with fail
      go_meet
      exact ⟨g1, p1, g2, p2, add_mid hpW hblk n1 n2 K2 hown1b hown2 a1 a2' hne⟩
  case rest =>
    obtain ⟨g1, p1, g2, p2, M⟩ := hcut
    have hhz : w.heap.size ≤ W.heap.size := by omega
    have hdone := fun wd => add_done hst hF hs.lt hB hhz M hq hok hr wd
    obtain ⟨m1, m2, m3⟩ := hst.ne
    have hbk : wc.heap[w.heap.size]? = some (.cells #[.int .i64 (q.lv : Nat), .int .u64 (q.tl : Nat), .int .i64 (q.ka : Nat), .int .i64 (q.kb : Nat), .int .i64 (q.kc : Nat), .int .i64 (q.kd : Nat)] 103 (0, 0)) := (M.keep.block _ (by omega) (fun h => by
      rcases h with h | h | h
      · omega
      · have := hs.lt _ (hF _ (.inr (.inr (.inl h)))); omega
      · have := hs.lt _ (hF _ (.inr (.inr (.inr h)))); omega)).trans hbx
    have hmk : wc.heap[kb]? = some (.map (entries L) L.length) := (M.keep.block _ (by omega) (fun h => by
      rcases h with h | h | h
      · exact m1 h.symm
      · exact m2 h
      · exact m3 h)).trans hstW.mp
    have hup : (Instr.mapUpdate 97 (.map (some kb)) (.agg #[.int .i64 (q.lv : Nat), .int .u64 (q.tl : Nat), .int .i64 (q.ka : Nat), .int .i64 (q.kb : Nat), .int .i64 (q.kc : Nat), .int .i64 (q.kd : Nat)]) (.int .i64 ((L.length : Int) + 1))).run Try.prog wc.drew = .ok () (putB wc.drew kb (.map (entries (L ++ [q])) (L.length + 1))) := sq_update wc.drew kb L hst.wf hl hmk q hf hq
    have d0 : wc.cell? ⟨w.heap.size, 0, none⟩ = some (.int .i64 (q.lv : Nat)) := cell_of_row _ _ 0 _ _ _ hbk
    have d1 : wc.cell? ⟨w.heap.size, 1, none⟩ = some (.int .u64 (q.tl : Nat)) := cell_of_row _ _ 1 _ _ _ hbk
    have d2 : wc.cell? ⟨w.heap.size, 2, none⟩ = some (.int .i64 (q.ka : Nat)) := cell_of_row _ _ 2 _ _ _ hbk
    have d3 : wc.cell? ⟨w.heap.size, 3, none⟩ = some (.int .i64 (q.kb : Nat)) := cell_of_row _ _ 3 _ _ _ hbk
    have d4 : wc.cell? ⟨w.heap.size, 4, none⟩ = some (.int .i64 (q.kc : Nat)) := cell_of_row _ _ 4 _ _ _ hbk
    have d5 : wc.cell? ⟨w.heap.size, 5, none⟩ = some (.int .i64 (q.kd : Nat)) := cell_of_row _ _ 5 _ _ _ hbk
    have c1 : wc.cell? ⟨p, 1, none⟩ = some (.slice (some ⟨g1, 0, none⟩) (L.length + 1) p1) := cell_of_row _ _ 1 _ _ _ M.blk
    have c3 : wc.cell? ⟨p, 3, none⟩ = some (.map (some kb)) := cell_of_row _ _ 3 _ _ _ M.blk
    have c1b : (putB wc.drew kb (.map (entries (L ++ [q])) (L.length + 1))).cell? ⟨p, 1, none⟩ = some (.slice (some ⟨g1, 0, none⟩) (L.length + 1) p1) := cell_of_row _ _ 1 _ _ _ ((putB_other _ _ _ _ m1).trans M.blk)
    have Hd := Lib.hid hdone
    clear hdone hst hstW hs hF hB M hbk hmk hbx hq hf hok hr hWs hcnt
    go_upto_region 7 with fail
    go_still_tail 10, (by kernel_rfl)
    go_wp2
    go_ret2
    exact ⟨rfl, Hd.out wc.drew rfl rfl rfl rfl⟩
end Go.Proofs.Ytmabgfdibbidcaa
