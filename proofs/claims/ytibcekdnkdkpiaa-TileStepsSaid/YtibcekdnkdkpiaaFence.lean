/- A region without calls, in a round of a range over a function: it goes as outside of one. -/
import Derived.Test.YtibcekdnkdkpiaaRange
import Derived.StillTailTactics
namespace Go.Proofs.Ytibcekdnkdkpiaa
open Go Go.RowKit Go.Shelf

/-- Operations that call nothing. -/
def plainOp : Op → Bool
  | .move _ | .assign _ | .pick _ _ _ | .load _ _ | .store _ _ _ | .binOp _ _ _ _ _ | .indexAddr _ _ _ | .fieldAddr _ _ _ => true
  | .nilCheck _ => true
  | _ => false

theorem andThen_value {α : Type} {r : Result α} {f : α → Value} {n : Next} {w' : World} (h : (r.andThen fun a w => .ok (Next.value (f a)) w) = .ok n w') : ∃ v, n = .value v := by
  cases r with
  | ok a w => simp only [Result.andThen] at h; cases h; exact ⟨_, rfl⟩
  | halt x w => simp [Result.andThen] at h
theorem andThen_skip {α : Type} {r : Result α} {n : Next} {w' : World} (h : (r.andThen fun _ w => .ok Next.skip w) = .ok n w') : n = .skip := by
  cases r with
  | ok a w => simp only [Result.andThen] at h; cases h; rfl
  | halt x w => simp [Result.andThen] at h

theorem ok_inv {α β : Type} {r : Result β} {f : β → World → Result α} {n : α} {w' : World} (h : r.andThen f = .ok n w') : ∃ b w1, f b w1 = .ok n w' := by
  cases r with
  | ok b w1 => exact ⟨b, w1, h⟩
  | halt x w1 => simp [Result.andThen] at h

theorem no_ok {α : Type} {e : RuntimeError} {P : Program} {w w' : World} {n : α} (h : (runtimePanic e : Sem α).run P w = .ok n w') : False := by
  cases e <;> simp only [runtimePanic, goPanic, Sem.run_bind] at h
  all_goals (obtain ⟨_, _, h⟩ := ok_inv h)
  all_goals first
    | (simp [Sem.run] at h; done)
    | (obtain ⟨_, _, h⟩ := ok_inv h; obtain ⟨_, _, h⟩ := ok_inv h; simp [Sem.run] at h)

theorem plain_run {ρ : Operand → Value} {o : Oper} {P : Program} {w w' : World} {n : Next} (hp : plainOp o.op = true) (h : (execOp ρ o).run P w = .ok n w') : (∃ v, n = .value v) ∨ n = .skip := by
  unfold execOp at h
  cases ho : o.op <;> simp [ho, plainOp] at hp h
  all_goals first
    | (obtain ⟨h, _⟩ := h; exact .inl ⟨_, h.symm⟩)
    | exact .inl (andThen_value h)
    | exact .inr (andThen_skip h)
    | skip
  · split at h
    · exact (no_ok h).elim
    · exact (no_ok h).elim
    · exact (no_ok h).elim
    · split at h
      · exact (no_ok h).elim
      · simp only [Sem.run_bind] at h
        obtain ⟨_, _, h⟩ := ok_inv h
        obtain ⟨_, _, h⟩ := ok_inv h
        split at h
        · simp at h; exact .inl ⟨_, h.1.symm⟩
        · simp only [Sem.run_map] at h
          obtain ⟨_, _, h⟩ := ok_inv h
          cases h; exact .inl ⟨_, rfl⟩
      · simp at h; exact .inl ⟨_, h.1.symm⟩
    · simp at h; exact .inl ⟨_, h.1.symm⟩
  · generalize Sem.run P (eqGuard _ _ _ _ _ _) w = r at h
    cases r with
    | ok a w1 => exact .inl (andThen_value h)
    | halt x w1 => simp [Result.andThen] at h

theorem plain_no_defer {o : Oper} (hp : plainOp o.op = true) : ∀ c, o.op ≠ .defer c := fun c h => by simp [h, plainOp] at hp

/-- A plain operation goes in a round as outside of one. -/
theorem wpIn_of_plain {o : Oper} {P : Program} {l n : Nat} {a : Act} {w : World} {K K' : Act → World → Prop} {Q : Exit → Act → World → Prop} (hp : plainOp o.op = true) (hK : ∀ a w, K a w → K' a w)
    (h : o.wp P a w K Q) : o.wpIn (Fence.wide.inRound l) n P a w K' Q := by
  refine ⟨fun _ _ => trivial, ?_⟩
  unfold Oper.wp at h
  rw [show (Fence.wide.inRound l).round = some l from rfl, Oper.semAt_some l _ o (plain_no_defer hp)]
  cases hr : (execOp a.eval o).run P w with
  | ok x w' =>
    rw [hr] at h
    rcases plain_run hp hr with ⟨v, rfl⟩ | rfl
    · exact hK _ _ h
    · exact hK _ _ h
  | halt x w' =>
    rw [hr] at h
    cases x <;> first | exact h | exact h.elim

theorem wpAnyIn_of_plain {P : Program} {ops : Array Oper} {Q : Exit → Act → World → Prop} {l n : Nat} (hp : ops.all (fun o => plainOp o.op) = true) (hL : ¬ LetsOut Q) :
    ∀ (fuel : Nat) (listed : Array Bool) (a : Act) (w : World), wpAny P .any ops Q fuel listed a w → wpAnyIn (Fence.wide.inRound l) n P .any ops Q fuel listed a w
  | 0, _, _, _, h => h
  | fuel + 1, listed, a, w, h => by
    refine ⟨h.1, fun i hi => ?_⟩
    have h1 := h.2 i hi
    unfold wpOp at h1
    unfold wpOpIn
    cases ho : ops[i]? with
    | none => rw [ho] at h1; exact wpAnyIn_of_plain hp hL fuel _ _ _ h1
    | some o =>
      rw [ho] at h1
      have hpo : plainOp o.op = true := by
        have := (Array.all_eq_true_iff_forall_mem.1 hp) o (Array.mem_of_getElem? ho)
        simpa using this
      simp only at h1 ⊢
      split
      · rename_i hw
        simp only [hw, if_true] at h1
        rcases h1 with h1 | h1
        · exact wpIn_of_plain hpo (fun a w => wpAnyIn_of_plain hp hL fuel _ a w) h1
        · exact (hL h1.2).elim
      · rename_i hw
        simp only [hw] at h1
        exact ⟨fun _ _ => trivial, wpAnyIn_of_plain hp hL fuel _ _ _ h1⟩

/-- A region of plain operations, the last of which stores: in a round, whatever order is drawn. -/
theorem plain_region {P : Program} {id l m : Nat} {Q : Exit → Act → World → Prop} {a : Act} {w : World} {ops : List Oper} (n : Nat) (hm : P.follows .mixedOrders = true) (hB : Region.lexTailB .any ops.toArray n = true)
    (hp : ops.toArray.all (fun o => plainOp o.op) = true) (hL : ¬ LetsOut Q)
    (h : wpStill P ops.toArray { w with drawn := w.drawn + 1 } (fun a' => wpList P ops.toArray Q (ops.drop n) a' { w with drawn := w.drawn + 1 }) (ops.take n) a) : (Code.region id ops.toArray true).wpIn (Fence.wide.inRound l) m P Q a w := by
  simp only [Region.lexTailB, Bool.and_eq_true, decide_eq_true_eq] at hB
  obtain ⟨⟨⟨⟨hsel, hn⟩, hs⟩, hc⟩, hlex⟩ := hB
  have hn' : n < ops.length := by simpa using hn
  have htl : (ops.take n).length = n := by simp; omega
  have hdl : (ops.drop n).length = ops.toArray.size - n := by simp
  have inv0 : HeadInv .any ops.toArray n (Array.replicate ops.toArray.size false) :=
    ⟨by simp, fun j oj _ hl => (by rw [getD_replicate_false] at hl; cases hl), fun t _ ht => getD_in (by simpa using ht) (getD_replicate_false _ _)⟩
  have H := wpAnyL_lex (md := .any) (g := ops.toArray.size - n) hsel hs hc hn (ops.take n) 0 _ a (fun j hj => by
    have hj' : j < n := by rw [htl] at hj; exact hj
    simp [hj']) (by simpa using htl) inv0 (by rw [htl]; exact hlex) h
  refine wpIn_region_any hm (wpAnyIn_of_plain hp hL _ _ _ _ ?_)
  have := wpAny_of_head (Q' := Q) (g := ops.toArray.size - n) (fun listed a' hL => by
    have := wpAny_of_seq (md := .any) (Q' := Q) (ops.drop n) n listed a' { w with drawn := w.drawn + 1 } (fun j => by simp [List.getElem?_drop]) (by rw [hdl]; exact hL.1) hL.2
    rwa [hdl] at this) _ _ _ H
  rw [htl, show n + (ops.toArray.size - n) = ops.toArray.size by omega] at this
  exact this
end Go.Proofs.Ytibcekdnkdkpiaa
