/- A region that draws its order: a load may be taken first as long as what it reads is not written ahead of it: here the writing operations wait for it. -/
import Derived.OrdersHeld
import Derived.RegionTactic
namespace Go.Proofs.Ytmabgfdibbidcaa
open Go

section
variable {P : Program} {md : Region.Mode} {ops : Array Oper} {Q : Exit → Act → World → Prop} {S : World → Prop} {n : Nat}

/-- Whatever order is drawn; S is held till operation n has come up. -/
def wpG (P : Program) (md : Region.Mode) (ops : Array Oper) (Q : Exit → Act → World → Prop) (S : World → Prop) (n : Nat) : Nat → Array Bool → Act → World → Prop
  | 0, l, a, w => Region.ready md ops l = [] ∧ Q .normal a w
  | f + 1, l, a, w => (Region.ready md ops l = [] → Q .normal a w) ∧
      ∀ i ∈ Region.ready md ops l, wpOp P ops Q i (fun a' w' => ((l.setIfInBounds i true).getD n true = false → S w') ∧ wpG P md ops Q S n f (l.setIfInBounds i true) a' w') a w

theorem wpG_any : ∀ (f : Nat) (l : Array Bool) (a : Act) (w : World), wpG P md ops Q S n f l a w → wpAny P md ops Q f l a w
  | 0, _, _, _, h => h
  | f + 1, _, _, _, h => ⟨h.1, fun i hi => wpOp_mono (fun a' w' k => wpG_any f _ a' w' k.2) (h.2 i hi)⟩

theorem wpG_first {i : Nat} {oi : Oper} {v : Value} (hi : ops[i]? = some oi) (hsel : ∀ (j : Nat) (o : Oper) cs b, ops[j]? = some o → o.op ≠ .select cs b)
    (hQ : ∀ c a w, Q (.panic c) (a.put oi.dst v) w → Q (.panic c) a w) (hwait : ∀ o, ops[n]? = some o → ∃ e ∈ o.after, Region.binds md e = true ∧ e.on = i) :
    ∀ (f : Nat) (l : Array Bool) (a : Act) (w : World),
      (∀ j oj, ops[j]? = some oj → j ≠ i → l.getD j true = false → (∀ e ∈ oj.after, Region.binds md e = true → e.on ≠ i) → oi.apart ops oj = true) →
      i ∈ Region.ready md ops l → l.getD n true = false → YieldsIf P ops S oi v a → S w →
      wpG P md ops Q S n f (l.setIfInBounds i true) (a.put oi.dst v) w → wpG P md ops Q S n (f + 1) l a w := by
  intro f
  induction f with
  | zero =>
    intro l a w _ hr _ hy hS H
    refine ⟨fun h => (by rw [h] at hr; cases hr), fun j hj => ?_⟩
    by_cases e : j = i
    · subst e
      exact hy.wpOp hi hS ⟨fun _ => hS, H⟩
    · have h1 := ready_mono hj e
      rw [H.1] at h1
      cases h1
  | succ f ih =>
    intro l a w hfree hr hn hy hS H
    refine ⟨fun h => (by rw [h] at hr; cases hr), fun j hj => ?_⟩
    by_cases e : j = i
    · subst e
      exact hy.wpOp hi hS ⟨fun _ => hS, H⟩
    · obtain ⟨hun, oj, hoj, hall⟩ := mem_ready.1 hj
      have hri := (mem_ready.1 hr).1
      -- what waits for i has not come up
      have off : ∀ x ∈ oj.after, Region.binds md x = true → x.on ≠ i := fun x hx hb hxi => by
        have h1 := hall x hx hb
        rw [hxi] at h1
        by_cases hlt : i < l.size
        · simp [hlt] at hri h1
          rw [hri] at h1
          cases h1
        · simp [Array.getElem?_eq_none (Nat.le_of_not_lt hlt)] at h1
      have hjn : j ≠ n := fun hh => by
        subst hh
        obtain ⟨x, hx, hb, hxi⟩ := hwait oj hoj
        exact off x hx hb hxi
      have hn' : (l.setIfInBounds j true).getD n true = false := by rw [getD_set_ne true hjn]; exact hn
      have h2 := wpOp_putIf (S := S) hoj (hfree j oj hoj e hun off) (fun cs b => hsel i oi cs b hi) (fun cs b => hsel j oj cs b hoj) hQ hy (H.2 j (ready_mono hj e))
      refine wpOp_mono (fun a' w' k => ?_) h2
      have hS' : S w' := k.2.1 (by
        rw [Array.setIfInBounds_comm _ _ (Ne.symm e)]
        by_cases hin : i = n
        · subst hin
          exfalso
          obtain ⟨x, hx, hb, hxi⟩ := hwait oi hi
          obtain ⟨_, o', ho', hall'⟩ := mem_ready.1 hr
          rw [hi] at ho'
          cases ho'
          have h1 := hall' x hx hb
          rw [hxi] at h1
          by_cases hlt : i < l.size
          · simp [hlt] at hri h1
            rw [hri] at h1
            cases h1
          · simp [Array.getElem?_eq_none (Nat.le_of_not_lt hlt)] at h1
        · rw [getD_set_ne true hin]
          exact hn')
      refine ⟨fun _ => hS', ih (l.setIfInBounds j true) a' w' (fun q oq hq hqi hqu hqo => ?_) (ready_mono hr (Ne.symm e)) hn' k.1 hS' ?_⟩
      · refine hfree q oq hq hqi ?_ hqo
        by_cases hjq : j = q
        · subst hjq; exact hun
        · rw [getD_set_ne true hjq] at hqu; exact hqu
      · rw [Array.setIfInBounds_comm _ _ e]
        exact k.2.2

theorem wpG_take {i : Nat} {oi : Oper} {v : Value} {f : Nat} {l : Array Bool} {a : Act} {w : World} (hi : ops[i]? = some oi)
    (hs : Region.noSelect ops = true) (hf : Region.free md ops l i = true) (hr : (Region.ready md ops l).contains i = true)
    (hw : ((ops[n]?).map fun o => o.after.any fun e => Region.binds md e && e.on == i).getD true = true) (hn : l.getD n true = false)
    (hQ : ∀ c a w, Q (.panic c) (a.put oi.dst v) w → Q (.panic c) a w) (hS : S w) (hy : YieldsIf P ops S oi v a)
    (h : wpG P md ops Q S n f (l.setIfInBounds i true) (a.put oi.dst v) w) : wpG P md ops Q S n (f + 1) l a w :=
  wpG_first hi (Region.noSelect_spec hs) hQ (fun o ho => by
    rw [ho] at hw
    obtain ⟨x, hx, hb⟩ := Array.any_eq_true'.1 hw
    simp only [Bool.and_eq_true, beq_iff_eq] at hb
    exact ⟨x, hx, hb.1, hb.2⟩) f l a w (Region.free_spec hi hf) (by simpa using hr) hn hy hS h
theorem wpG_all {rs : List Nat} {f : Nat} {l : Array Bool} {a : Act} {w : World} (hr : Region.ready md ops l = rs) (hne : rs ≠ [])
    (h : ∀ i ∈ rs, wpOp P ops Q i (fun a' w' => ((l.setIfInBounds i true).getD n true = false → S w') ∧ wpG P md ops Q S n f (l.setIfInBounds i true) a' w') a w) : wpG P md ops Q S n (f + 1) l a w :=
  ⟨fun h0 => absurd (hr ▸ h0) hne, hr ▸ h⟩
theorem wpG_done {l : Array Bool} {a : Act} {w : World} (hr : Region.ready md ops l = []) (h : Q .normal a w) : ∀ f, wpG P md ops Q S n f l a w
  | 0 => ⟨hr, h⟩
  | _ + 1 => ⟨fun _ => h, by rw [hr]; simp⟩
theorem wpG_step {i : Nat} {o : Oper} {f : Nat} {l : Array Bool} {a : Act} {w : World} (ho : ops[i]? = some o)
    (h : ∀ K : Act → World → Prop, (∀ a' w', ((l.setIfInBounds i true).getD n true = false → S w') → wpG P md ops Q S n f (l.setIfInBounds i true) a' w' → K a' w') →
      if Region.wanted o (yielded ops a.tmps) = true then Oper.wp P o a w K Q else K (a.put o.dst undef) w) :
    wpOp P ops Q i (fun a' w' => ((l.setIfInBounds i true).getD n true = false → S w') ∧ wpG P md ops Q S n f (l.setIfInBounds i true) a' w') a w := by
  unfold wpOp
  simp only [ho]
  have h1 := h (fun a' w' => ((l.setIfInBounds i true).getD n true = false → S w') ∧ wpG P md ops Q S n f (l.setIfInBounds i true) a' w') fun a' w' k1 k2 => ⟨k1, k2⟩
  split
  · rename_i hw
    rw [if_pos hw] at h1
    exact .inl h1
  · rename_i hw
    rw [if_neg hw] at h1
    exact h1
end
end Go.Proofs.Ytmabgfdibbidcaa
