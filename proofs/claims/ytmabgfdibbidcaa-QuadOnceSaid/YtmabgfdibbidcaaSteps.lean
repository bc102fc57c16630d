/- The acts of a store as steps of a law. -/
import Derived.Test.YtmabgfdibbidcaaHeld
namespace Go.Proofs.Ytmabgfdibbidcaa
open Go.RowKit

/-- What an act that succeeds leaves. -/
structure Did (w W' : World) (p R : Nat) (L L' : List Sq) (F' : Nat → Prop) (ss : List St) (bs : List (Nat × Obj)) (n id : Nat) (q : Sq) : Prop where
  held : Held w W' (⟨p, R, L', F'⟩ :: ss) bs
  wf : WF L'
  ext : Ext L L'
  len : L'.length ≤ L.length + n
  sq : at? L' id = some q

theorem leaf_step {w W : World} {p R : Nat} {L : List Sq} {F : Nat → Prop} {ss : List St} {bs : List (Nat × Obj)} (h : Held w W (⟨p, R, L, F⟩ :: ss) bs) (t : Nat) (ht : t < 18446744073709551616) (hr : L.length + 1 ≤ R) :
    Calls Try.prog 15 #[.pointer (some ⟨p, 0, none⟩), .int .u64 (t : Nat)] W fun e W' => ∃ L' id F', e = .returned (.tuple #[.int .i64 (id : Nat), .nilIface]) ∧ Did w W' p R L L' F' ss bs 1 id (leafSq t) := by
  have hm := leafL_made (R := R) h.head.wf ht
  have he := hm.fits hr
  exact (leaf_any W p R L F t h.head ht).mono fun e W' k => ⟨_, _, _, by rw [k.1, he, errv_zero], h.acted k.2, hm.wf, hm.ext, hm.len, hm.good he⟩
theorem node_step {w W : World} {p R : Nat} {L : List Sq} {F : Nat → Prop} {ss : List St} {bs : List (Nat × Obj)} (h : Held w W (⟨p, R, L, F⟩ :: ss) bs) {a b c d m : Nat} {qa qb qc qd : Sq} (ha : at? L a = some qa) (hb : at? L b = some qb) (hc : at? L c = some qc) (hd : at? L d = some qd)
    (h1 : qa.lv = m) (h2 : qb.lv = m) (h3 : qc.lv = m) (h4 : qd.lv = m) (hm : m < 40) (hr : L.length + 1 ≤ R) :
    Calls Try.prog 18 #[.pointer (some ⟨p, 0, none⟩), .agg #[.int .i64 (a : Nat), .int .i64 (b : Nat), .int .i64 (c : Nat), .int .i64 (d : Nat)]] W fun e W' => ∃ L' id F', e = .returned (.tuple #[.int .i64 (id : Nat), .nilIface]) ∧ Did w W' p R L L' F' ss bs 1 id (nodeSq (m + 1) a b c d) := by
  have hM := nodeL_made (R := R) h.head.wf ha hb hc hd h1 h2 h3 h4 hm
  have he := hM.fits hr
  refine (node_any W p R L F (a : Nat) (b : Nat) (c : Nat) (d : Nat) h.head).mono fun e W' k => ?_
  simp only [Int.toNat_natCast] at k
  exact ⟨_, _, _, by rw [k.1, he, errv_zero], h.acted k.2, hM.wf, hM.ext, hM.len, hM.good he⟩
/-- Node at the last level. -/
theorem node_last {w W : World} {p R : Nat} {L : List Sq} {F : Nat → Prop} {ss : List St} {bs : List (Nat × Obj)} (h : Held w W (⟨p, R, L, F⟩ :: ss) bs) {a : Nat} {q : Sq} (ha : at? L a = some q) (hm : q.lv = 40) :
    Calls Try.prog 18 #[.pointer (some ⟨p, 0, none⟩), .agg #[.int .i64 (a : Nat), .int .i64 (a : Nat), .int .i64 (a : Nat), .int .i64 (a : Nat)]] W fun e W' => e = .returned (.tuple #[.int .i64 0, errv 6]) ∧ Held w W' (⟨p, R, L, Gr F W W'⟩ :: ss) bs := by
  have e : nodeL R L a a a a = (L, 0, 6) := by simp [nodeL, ha, hm]
  refine (node_any W p R L F (a : Nat) (a : Nat) (a : Nat) (a : Nat) h.head).mono fun e' W' k => ?_
  simp only [Int.toNat_natCast] at k
  rw [e] at k
  exact ⟨k.1, h.acted k.2⟩
theorem count_step {w W : World} {p R : Nat} {L : List Sq} {F : Nat → Prop} {ss : List St} {bs : List (Nat × Obj)} (h : Held w W (⟨p, R, L, F⟩ :: ss) bs) {id : Nat} {q : Sq} (hq : at? L id = some q) :
    Calls Try.prog 16 #[.pointer (some ⟨p, 0, none⟩), .int .i64 (id : Nat)] W fun e W' => e = .returned (.tuple #[.int .i64 (cnt L id : Nat), .nilIface]) ∧ Held w W' (⟨p, R, L, F⟩ :: ss) bs := by
  have := count_ok W p R L F (id : Nat) q h.head (by omega) (by rw [Int.toNat_natCast]; exact hq)
  rw [Int.toNat_natCast] at this
  exact this.mono fun e W' k => ⟨k.1, h.below k.2⟩
theorem empty_step {w W : World} {p R : Nat} {L : List Sq} {F : Nat → Prop} {ss : List St} {bs : List (Nat × Obj)} (h : Held w W (⟨p, R, L, F⟩ :: ss) bs) (n : Nat) (hn : n ≤ 37) (hr : L.length + (n + 1) ≤ R) :
    Calls Try.prog 23 #[.pointer (some ⟨p, 0, none⟩), .int .i64 ((n : Int) + 3)] W fun e W' => ∃ L' id F' q, e = .returned (.tuple #[.int .i64 (id : Nat), .nilIface]) ∧ Did w W' p R L L' F' ss bs (n + 1) id q ∧ q.lv = n + 3 ∧
      emptyL R L n = (L', id, 0) ∧ (∀ x y, alv L' n id x y = false) ∧ cnt L' id = 0 := by
  obtain ⟨q, hm, hl, hc⟩ := emptyL_spec R L h.head.wf n hn
  have he := hm.fits hr
  obtain ⟨c1, c2⟩ := hc he
  exact (empty_any W p R L F n h.head hn).mono fun e W' k => ⟨_, _, _, q, by rw [k.1, he, errv_zero], ⟨h.acted k.2, hm.wf, hm.ext, hm.len, hm.good he⟩, hl, by rw [← he], c1, c2⟩
theorem len_step {w W : World} {p R : Nat} {L : List Sq} {F : Nat → Prop} {ss : List St} {bs : List (Nat × Obj)} (h : Held w W (⟨p, R, L, F⟩ :: ss) bs) :
    Calls Try.prog 25 #[.pointer (some ⟨p, 0, none⟩)] W fun e W' => e = .returned (.int .i64 (L.length : Nat)) ∧ W = W' := len_ok W p R L F h.head
theorem leaf_full {w W : World} {p R : Nat} {L : List Sq} {F : Nat → Prop} {ss : List St} {bs : List (Nat × Obj)} (h : Held w W (⟨p, R, L, F⟩ :: ss) bs) (hr : L.length + 1 ≤ R) :
    Calls Try.prog 15 #[.pointer (some ⟨p, 0, none⟩), .int .u64 18446744073709551615] W fun e W' => ∃ L' id F', e = .returned (.tuple #[.int .i64 (id : Nat), .nilIface]) ∧ Did w W' p R L L' F' ss bs 1 id (leafSq 18446744073709551615) :=
  leaf_step h 18446744073709551615 (by omega) hr
theorem mod_level (level : Int) : ∃ n : Nat, n < 38 ∧ wrap64 (3 + wrap64 ((IntKind.u64.wrap level).tmod 38)) = (n : Int) + 3 := by
  have h : IntKind.u64.wrap level = level % 18446744073709551616 := IntKind.wrap_u64 _
  rw [h]
  have h0 : 0 ≤ level % 18446744073709551616 := by omega
  generalize level % 18446744073709551616 = r at h0
  rw [Int.tmod_eq_emod_of_nonneg h0]
  refine ⟨(r % 38).toNat, by omega, ?_⟩
  unfold wrap64
  omega
theorem leaf_cnt {L : List Sq} {k t : Nat} (h : at? L k = some (leafSq t)) : cnt L k = popc t := cnt_leaf (q := leafSq t) h rfl
theorem tcount_nat (t : Nat) (w : World) (ht : t < 18446744073709551616) : Calls Try.prog 17 #[.int .u64 (t : Nat)] w fun e w' => e = .returned (.int .i64 (popc t : Nat)) ∧ w = w' := by
  have := tcount (t : Nat) w ⟨by omega, by omega⟩
  rwa [Int.toNat_natCast] at this
theorem tget_nat (t x y : Nat) (w : World) (ht : t < 18446744073709551616) (hx : x < 8) (hy : y < 8) : Calls Try.prog 21 #[.int .u64 (t : Nat), .int .i64 (x : Nat), .int .i64 (y : Nat)] w fun e w' => e = .returned (.tuple #[.bool (t.testBit (8 * y + x)), .nilIface]) ∧ w = w' := by
  have := tget_in (t : Nat) (x : Nat) (y : Nat) w ⟨by omega, by omega, by omega, by omega⟩ ⟨by omega, by omega⟩
  simpa using this
end Go.Proofs.Ytmabgfdibbidcaa
