/- Contracts of package quad: a square laid, whatever there is; Leaf. -/
import Derived.Test.YtmabgfdibbidcaaQuadD
import Derived.Test.YtmabgfdibbidcaaQuadE
import Derived.Test.YtmabgfdibbidcaaSeg
namespace Go.Proofs.Ytmabgfdibbidcaa
open Go.RowKit

theorem SqOK.fits {L : List Sq} {i : Nat} {q : Sq} (h : SqOK L i q) (hi : i ≤ 65536) : SqFits q := by
  rcases h with ⟨h1, h2, h3, h4, h5, h6⟩ | ⟨h1, h2, h3, h4, h5, h6, h7⟩
  · exact ⟨by omega, h2, by omega, by omega, by omega, by omega⟩
  · have a1 := h4.1
    have a2 := h5.1
    have a3 := h6.1
    have a4 := h7.1
    exact ⟨by omega, by omega, by omega, by omega, by omega, by omega⟩
theorem errv_zero : errv 0 = .nilIface := rfl

/-- 'add': what the list's act says. -/
theorem add_any (w : World) (p R : Nat) (L : List Sq) (F : Nat → Prop) (q : Sq) (m : Int) (hs : Store w p R L F) (hok : SqOK L L.length q) (hm : m = (cntQ (counts L) q : Nat)) :
    Calls Try.prog 43 #[.pointer (some ⟨p, 0, none⟩), sqV q, .int .i64 m] w fun e w' => e = .returned (.tuple #[.int .i64 ((addL R L q).2.1 : Nat), errv (addL R L q).2.2]) ∧ Acted w w' p R (addL R L q).1 F := by
  subst hm
  unfold addL
  by_cases hq : q ∈ L
  · rw [if_pos hq]
    exact (add_hit w p R L F (L.idxOf q) q _ hs (idxOf_at hq)).mono fun e w' h => ⟨h.1, Acted.same hs h.2⟩
  · rw [if_neg hq]
    have hf := hok.fits hs.len
    by_cases hr : R ≤ L.length
    · rw [if_pos hr]
      exact (add_full w p R L F q _ hs hq hf hr).mono fun e w' h => ⟨h.1, Acted.same hs h.2⟩
    · rw [if_neg hr]
      exact add_new w p R L F q hs hq hf hok (by omega)

set_option maxRecDepth 100000 in
set_option maxHeartbeats 1000000 in
theorem leaf_any (w : World) (p R : Nat) (L : List Sq) (F : Nat → Prop) (t : Nat) (hs : Store w p R L F) (ht : t < 18446744073709551616) :
    Calls Try.prog 15 #[.pointer (some ⟨p, 0, none⟩), .int .u64 (t : Nat)] w fun e w' => e = .returned (.tuple #[.int .i64 ((leafL R L t).2.1 : Nat), errv (leafL R L t).2.2]) ∧ Acted w w' p R (leafL R L t).1 F := by
  have HA := add_any w p R L F (leafSq t) (popc t : Nat) hs (leaf_ok L L.length t ht) rfl
  have HC : ∀ w, Calls Try.prog 17 #[.int .u64 (t : Nat)] w fun e w' => e = .returned (.int .i64 (popc t : Nat)) ∧ w = w' := fun w => by
    have := tcount (t : Nat) w ⟨by omega, by omega⟩
    rwa [Int.toNat_natCast] at this
  unfold sqV leafSq at HA
  unfold leafL leafSq
  have H1 := Lib.hid HA
  have H2 := Lib.hid HC
  clear HA HC hs ht
  go_enter Try.func15, Try.ntmps15
  go_wp2_with (first
    | (go_at_call 17; refine (H2.out _).mono ?_; rintro e w1 ⟨rfl, rfl⟩)
    | (go_at_call 43; refine H1.out.mono ?_; rintro e w2 ⟨rfl, hb2⟩))
  go_ret2
  exact ⟨rfl, hb2⟩
theorem leaf_nil (w : World) (t : Int) :
    Calls Try.prog 15 #[.pointer none, .int .u64 t] w fun e w' => e = .returned (.tuple #[.int .i64 0, errv 1]) ∧ w = w' := by
  go_enter Try.func15, Try.ntmps15
  go_wp2
  go_ret2
  exact ⟨rfl, rfl⟩
end Go.Proofs.Ytmabgfdibbidcaa
