/- A struct stored into the middle of a block. -/
import Derived.Test.YtmabgfdibbidcaaMem
import Derived.Laws.CopyRow
namespace Go.Proofs.Ytmabgfdibbidcaa
open Go.RowKit

theorem run_storeVar_seg {P : Program} (w : World) (g o : Nat) (t ty : TypeId) (old cells new : Array Value) (hg : w.heap[g]? = some (.cells old t (0, 0))) (hi : (P.info? ty).map (·.size) = some cells.size)
    (hfit : o + cells.size ≤ old.size) (h1 : cells.all (·.oneCell') = true) (hn : (old.toList.take o ++ cells.toList ++ old.toList.drop (o + cells.size)).toArray = new) :
    (storeVar ty ⟨g, o, none⟩ (.agg cells)).run P w = .ok () (w.setRow g new) := by
  have := run_storeCells_at P g o t cells.toList 0 old w hg (by simpa using hfit) (fun v hv => (Array.all_eq_true_iff_forall_mem.1 h1) v (by simpa using hv))
  simp only [Nat.add_zero, Array.length_toList, hn] at this
  cases hq : P.info? ty with
  | none => simp [hq] at hi
  | some i =>
    have hs : cells.size = i.size := by simp [hq] at hi; omega
    simp [storeVar, sizeOf, typeInfo, hq, Value.cells, hs, this]
theorem wpList_store_seg {P : Program} {ops : Array Oper} {rest : List Oper} {o : Oper} {a : Act} {w : World} {Q : Exit → Act → World → Prop} (hgd : o.guard = none) (ty : TypeId) (x v : Operand) (ho : o.op = .store ty x v)
    (g off : Nat) (hx : a.eval x = .pointer (some ⟨g, off, none⟩)) (t : TypeId) (old cs new : Array Value) (hg : w.heap[g]? = some (.cells old t (0, 0))) (hv : a.eval v = .agg cs)
    (hi : (P.info? ty).map (·.size) = some cs.size) (hfit : off + cs.size ≤ old.size) (h1 : cs.all (·.oneCell') = true) (hn : (old.toList.take off ++ cs.toList ++ old.toList.drop (off + cs.size)).toArray = new)
    (h : wpList P ops Q rest (a.put o.dst undef) (w.setRow g new)) : wpList P ops Q (o :: rest) a w := by
  refine wpList_plain hgd fun K hK => ?_
  unfold Oper.wp execOp
  simp only [ho, hx, hv, Instr.storeAt, Instr.sureAddr, Sem.run_bind, Sem.run_pure, Result.andThen_ok, run_storeVar_seg w g off t ty old cs new hg hi hfit h1 hn]
  exact hK _ _ h
end Go.Proofs.Ytmabgfdibbidcaa
