/- Contracts of package quad: a square laid ('add'), where it is there, or there is no room. -/
import Derived.Test.YtmabgfdibbidcaaSqMap
import Derived.Deep.QuietTactic
import Derived.Deep.RegionLaw
namespace Go.Proofs.Ytmabgfdibbidcaa
open Go.RowKit

theorem bel_drewN {B : Nat} {a b : World} (h : Below B a b) (n : Nat) : Below B a (b.drewN n) := ⟨h.os, h.tape, h.output, h.size, h.block⟩

set_option maxRecDepth 100000 in
set_option maxHeartbeats 1000000 in
theorem add_hit (w : World) (p R : Nat) (L : List Sq) (F : Nat → Prop) (i : Nat) (q : Sq) (m : Int) (hs : Store w p R L F) (hq : L[i]? = some q) :
    Calls Try.prog 43 #[.pointer (some ⟨p, 0, none⟩), sqV q, .int .i64 m] w fun e w' => e = .returned (.tuple #[.int .i64 ((i + 1 : Nat) : Int), .nilIface]) ∧ Below w.heap.size w w' := by
  have hl := hs.len
  have hp := hs.lt p hs.self
  obtain ⟨lv, mv, kb, hst, hF⟩ := hs.at'
  have hkb : kb < w.heap.size := hs.lt kb (hF kb (.inr (.inl rfl)))
  obtain ⟨c0, c1, c2, c3⟩ := hst.cells
  have hlk : ∀ (o : Obj) n, (Instr.lookup 97 (.map (some kb)) (.agg #[.int .i64 (q.lv : Nat), .int .u64 (q.tl : Nat), .int .i64 (q.ka : Nat), .int .i64 (q.kb : Nat), .int .i64 (q.kc : Nat), .int .i64 (q.kd : Nat)]) true).run Try.prog ((w.alloc o).drewN n) = .ok (.tuple #[.int .i64 ((i + 1 : Nat) : Int), .bool true]) ((w.alloc o).drewN n) := fun o n =>
    sq_lookup_hit ((w.alloc o).drewN n) kb L hst.wf hl ((Below.heap_alloc w o kb hkb).trans hst.mp) i q hq
  clear hst hs hF hl hq
  unfold sqV
  go_enter Try.func43, Try.ntmps43
  go_wp2
  go_quiet (fail)
  go_wp2
  go_ret2
  exact ⟨rfl, bel_drewN ((Below.refl _ _).alloc (Nat.le_refl _) _) _⟩

set_option maxRecDepth 100000 in
set_option maxHeartbeats 1000000 in
theorem add_full (w : World) (p R : Nat) (L : List Sq) (F : Nat → Prop) (q : Sq) (m : Int) (hs : Store w p R L F) (hq : q ∉ L) (hf : SqFits q) (hr : R ≤ L.length) :
    Calls Try.prog 43 #[.pointer (some ⟨p, 0, none⟩), sqV q, .int .i64 m] w fun e w' => e = .returned (.tuple #[.int .i64 0, errv 6]) ∧ Below w.heap.size w w' := by
  have hl := hs.len
  have hp := hs.lt p hs.self
  obtain ⟨lv, mv, kb, hst, hF⟩ := hs.at'
  have hkb : kb < w.heap.size := hs.lt kb (hF kb (.inr (.inl rfl)))
  obtain ⟨ao, cap, rfl⟩ := hst.lv_len
  obtain ⟨c0, c1, c2, c3⟩ := hst.cells
  have hlk : ∀ (o : Obj) n, (Instr.lookup 97 (.map (some kb)) (.agg #[.int .i64 (q.lv : Nat), .int .u64 (q.tl : Nat), .int .i64 (q.ka : Nat), .int .i64 (q.kb : Nat), .int .i64 (q.kc : Nat), .int .i64 (q.kd : Nat)]) true).run Try.prog ((w.alloc o).drewN n) = .ok (.tuple #[.int .i64 0, .bool false]) ((w.alloc o).drewN n) := fun o n =>
    sq_lookup_miss ((w.alloc o).drewN n) kb L hst.wf hl ((Below.heap_alloc w o kb hkb).trans hst.mp) q hf hq
  have hr' : decide ((L.length : Int) < (R : Int)) = false := decide_eq_false (by omega)
  have hr2 : decide ((R : Int) ≤ (L.length : Int)) = true := decide_eq_true (by omega)
  clear hst hs hF hl hq
  unfold sqV
  go_enter Try.func43, Try.ntmps43
  go_wp2
  go_quiet (fail)
  go_wp2
  go_quiet (fail)
  go_wp2
  go_ret2
  exact ⟨rfl, bel_drewN ((Below.refl _ _).alloc (Nat.le_refl _) _) _⟩
end Go.Proofs.Ytmabgfdibbidcaa
