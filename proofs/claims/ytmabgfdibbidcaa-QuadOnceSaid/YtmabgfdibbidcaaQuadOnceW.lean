/- The walk of quiltlaw11.QuadOnce. -/
import Derived.Test.YtmabgfdibbidcaaLawQuadOnce
import Derived.Test.YtmabgfdibbidcaaFrame
import Derived.Lib.MinMax
import Derived.Lib.ItoaWalk
import Derived.BigQuiet
namespace Go.Proofs.Ytmabgfdibbidcaa
open Go.RowKit

theorem cell_old {a b : World} (h : Below a.heap.size a b) {p : Addr} {v : Value} (hv : a.cell? p = some v) : b.cell? p = some v := by
  have hlt : p.block < a.heap.size := by
    refine Classical.byContradiction fun hn => ?_
    have e := Array.getElem?_eq_none (Nat.le_of_not_lt hn)
    unfold World.cell? at hv
    rw [e] at hv
    cases p.spot <;> simp at hv
  rw [h.cell hlt]
  exact hv
theorem mod_8 (level : Int) : ∃ n : Nat, n < 8 ∧ wrap64 (3 + wrap64 ((IntKind.u64.wrap level).tmod 8)) = (n : Int) + 3 := by
  have h : IntKind.u64.wrap level = level % 18446744073709551616 := IntKind.wrap_u64 _
  rw [h]
  have h0 : 0 ≤ level % 18446744073709551616 := by omega
  generalize level % 18446744073709551616 = r at h0
  rw [Int.tmod_eq_emod_of_nonneg h0]
  refine ⟨(r % 8).toNat, by omega, ?_⟩
  unfold wrap64
  omega
/-- A number of the list, within the square. -/
def xof (K : Nat) (z : Int) : Nat := ((z % 18446744073709551616) % (K : Int)).toNat
theorem xof_lt {K : Nat} (h : 0 < K) (z : Int) : xof K z < K := by
  unfold xof
  have h1 := Int.emod_lt_of_pos (z % 18446744073709551616) (show (0 : Int) < (K : Nat) by omega)
  have h2 := Int.emod_nonneg (z % 18446744073709551616) (show ((K : Nat) : Int) ≠ 0 by omega)
  omega
theorem mod_K {K : Nat} (h : 8 ≤ K) (hK : K ≤ 1024) (z : Int) : wrap64 ((IntKind.u64.wrap z).tmod ((K : Nat) : Int)) = ((xof K z : Nat) : Int) := by
  have e : IntKind.u64.wrap z = z % 18446744073709551616 := IntKind.wrap_u64 _
  have hl := xof_lt (K := K) (by omega) z
  rw [e, Int.tmod_eq_emod_of_nonneg (by omega)]
  unfold xof at hl ⊢
  have h2 := Int.emod_nonneg (z % 18446744073709551616) (show ((K : Nat) : Int) ≠ 0 by omega)
  generalize z % 18446744073709551616 % ((K : Nat) : Int) = r at h2 hl ⊢
  unfold wrap64
  omega
theorem pow_K (m : Nat) (hm : m < 8) : ∃ K : Nat, K = 2 ^ (m + 3) ∧ 8 ≤ K ∧ K ≤ 1024 := by
  refine ⟨_, rfl, ?_, ?_⟩
  · exact Nat.pow_le_pow_right (n := 2) (by decide) (by omega : 3 ≤ m + 3)
  · exact Nat.pow_le_pow_right (n := 2) (by decide) (by omega : m + 3 ≤ 10)
set_option maxRecDepth 100000 in
set_option maxHeartbeats 2000000 in
theorem quadOnce_walk (level : Int) (a0 : Option Addr) (len cap bb off : Nat) (Z0 Z1 : Nat → Int) (_w9 : (Lit.int .i64 level).wf = true) (w : World)
    (hP : ∀ i, i < len → a0 = some ⟨bb, off, none⟩ ∧ w.cell? ⟨bb, off + i * 2, none⟩ = some (.int .i64 (Z0 i)) ∧ w.cell? ⟨bb, off + (i * 2 + 1), none⟩ = some (.int .i64 (Z1 i))) :
    Calls Try.prog 5 #[.int .i64 level, .slice a0 len cap] w fun e w' => e = .returned (.bool true) ∧ Below w.heap.size w w' := by
  have e0 := errv_zero
  have HP := Lib.hid hP
  have HS := Lib.hid (Held.start w)
  have HN := fun W => Lib.hid (new_st W 4000 (by omega) (by omega))
  clear hP
  go_enter Try.func5, Try.ntmps5
  go_upto_region 2 with fail
  obtain ⟨m, hm8, hm⟩ := mod_8 level
  rw [hm]
  clear hm
  go_upto_region 5 with (go_at_call 14; refine (HN _).out.mono ?_; rintro e w1 ⟨rfl, hs1, hb1, hz1⟩; have H1a := HS.out.new hs1 hb1; have H1 := Lib.hid H1a; clear hs1 hb1 hz1 H1a)
  go_upto_region 8 with (go_at_call 23; refine (empty_step H1.out m (by omega) (by show 0 + _ ≤ _; omega)).mono ?_; rintro e w2 ⟨L2, base, F2, q2, rfl, D, hl2, _, hc2, hn2⟩; have D2 := Lib.hid D; have HQ := Lib.hid (And.intro hl2 (And.intro hc2 hn2)); clear D hl2 hc2 hn2)
  go_upto_region 9 with fail
  obtain ⟨K, hK, h8, h1024⟩ := pow_K m hm8
  have hw : wrap64 ((2 : Int) ^ (m + 3)) = ((K : Nat) : Int) := by
    have e : (2 : Int) ^ (m + 3) = ((2 ^ (m + 3) : Nat) : Int) := by simp
    rw [e, ← hK]
    unfold wrap64
    omega
  rw [hw]
  clear hw
  have HX := Lib.hid (fun z => (show xof K z < 2 ^ (m + 3) by rw [← hK]; exact xof_lt (by omega) z))
  obtain ⟨n, hn⟩ : ∃ n, n = min len 25 := ⟨_, rfl⟩
  have hmin : min ((len : Nat) : Int) 25 = ((n : Nat) : Int) := by omega
  have hO0 : Once m n (fun j => xof K (Z0 j)) (fun j => xof K (Z1 j)) 0 L2 base base base := ⟨D2.out.wf, by have := D2.out.len; simp at this; omega, ⟨q2, D2.out.sq, HQ.out.1⟩, ⟨q2, D2.out.sq, HQ.out.1⟩, ⟨q2, D2.out.sq, HQ.out.1⟩,
    fun x y _ _ => by rw [HQ.out.2.1]; simp, fun x y _ _ => by rw [HQ.out.2.1]; simp, HQ.out.2.1, by rw [HQ.out.2.2]; omega, fun _ => rfl⟩
  have HO := Lib.hid hO0
  clear hO0
  have hn25 : n ≤ 25 := by omega
  have hnl : n ≤ len := by omega
  have HK := Lib.hid (And.intro hK (And.intro h8 (And.intro h1024 hm8)))
  have HN2 := Lib.hid (And.intro hn25 (And.intro hnl hn))
  clear hK hn hm8
  go_wp2
  try rw [hmin]
  clear hmin
  go_loopw [11, 12, 14] (fun va vb vi wr => ∃ (i a b : Nat) (L : List Sq) (F : Nat → Prop), va = .int .i64 (a : Nat) ∧ vb = .int .i64 (b : Nat) ∧ vi = .int .i64 (i : Nat) ∧ i ≤ n ∧ Held w wr [⟨w.heap.size + 1, 4000, L, F⟩] [] ∧ Once m n (fun j => xof K (Z0 j)) (fun j => xof K (Z1 j)) i L base a b) (fun _ _ vi _ => (n - intOf vi).toNat)
  case atStart => exact ⟨0, base, base, L2, F2, rfl, rfl, rfl, Nat.zero_le _, D2.out.held, HO.out⟩
  case round =>
    obtain ⟨i, a, b, L, F, rfl, rfl, rfl, hi, hH, hO⟩ := hrel
    have HH := Lib.hid hH
    have HOn := Lib.hid hO
    clear hH hO D2 HO HQ HN HS H1
    by_cases hlt : i < n
    · obtain ⟨ra, c0, c1⟩ := HP.out i (by omega)
      obtain ⟨_, d0, d1⟩ := HP.out (n - 1 - i) (by omega)
      subst ra
      have c0 := cell_old HH.out.keep c0
      have c1 := cell_old HH.out.keep c1
      rw [← Nat.add_assoc] at c1
      have d0 := cell_old HH.out.keep d0
      have d1 := cell_old HH.out.keep d1
      rw [← Nat.add_assoc] at d1
      have k0 : ¬ ((K : Nat) : Int) = 0 := by omega
      have k2 : (((K : Nat) : Int) == 0) = false := by simpa using k0
      have k3 : ¬ K = 0 := by omega
      have k1 : IntKind.u64.wrap ((K : Nat) : Int) = ((K : Nat) : Int) := by rw [show IntKind.u64.wrap ((K : Nat) : Int) = ((K : Nat) : Int) % 18446744073709551616 from IntKind.wrap_u64 _]; omega
      have x0 : (i : Int) < (len : Nat) := by omega
      have x1 : ((n - 1 - i : Nat) : Int) < (len : Nat) := by omega
      have w0 : IntKind.i64.wrap 0 = 0 := by decide
      have w1 : IntKind.i64.wrap 1 = 1 := by decide
      have wi : IntKind.i64.wrap ((i : Nat) : Int) = ((i : Nat) : Int) := IntWalk.i64_in _ (by omega)
      have wn : IntKind.i64.wrap (((n : Nat) : Int) - 1) = ((n - 1 : Nat) : Int) := by rw [IntWalk.i64_in _ (by omega)]; omega
      have wj : IntKind.i64.wrap (((n - 1 : Nat) : Int) - ((i : Nat) : Int)) = ((n - 1 - i : Nat) : Int) := by rw [IntWalk.i64_in _ (by omega)]; omega
      have m0 := mod_K h8 h1024 (Z0 i)
      have m1 := mod_K h8 h1024 (Z1 i)
      have m2 := mod_K h8 h1024 (Z0 (n - 1 - i))
      have m3 := mod_K h8 h1024 (Z1 (n - 1 - i))
      have HL := Lib.hid (show L.length ≤ 800 by
        have h1 := HOn.out.len
        have h2 : i * (4 * (m + 1)) ≤ 24 * 32 := Nat.mul_le_mul (by omega) (by have := HK.out.2.2.2; omega)
        have := HK.out.2.2.2
        omega)
      go_upto_region 14 with fail
      go_quiet (fail)
      go_upto_region 15 with fail
      go_quiet (fail)
      go_upto_region 16 with fail
      rw [m0, m1, m2, m3]
      go_name_world U hU
      have AH := Lib.hid (show Held w U [⟨w.heap.size + 1, 4000, L, F⟩] [] by rw [← hU]; exact (HH.out.drewN _).drewN _)
      clear hU
      have G1 := Lib.hid (set_d AH.out HOn.out.ha (xof K (Z0 i)) (xof K (Z1 i)) true (HX.out _) (HX.out _) (by
        have h1 := HOn.out.len
        have h2 : i * (4 * (m + 1)) ≤ 24 * 32 := Nat.mul_le_mul (by omega) (by have := HK.out.2.2.2; omega)
        have := HK.out.2.2.2
        omega))
      clear m0 m1 m2 m3 c0 c1 d0 d1 w0 w1 wi wn wj k0 k1 k2 k3 x0 x1
      go_upto_region 17 with (go_at_call 22; refine G1.out.mono ?_; rintro e u1 ⟨L1, c, F1, rfl, h1, s1⟩; have A1 := Lib.hid h1; have S1 := Lib.hid s1; clear h1 s1)
      clear G1
      have G2 := Lib.hid (set_d A1.out (HOn.out.hb.ext S1.out.ext) (xof K (Z0 (n - 1 - i))) (xof K (Z1 (n - 1 - i))) true (HX.out _) (HX.out _) (by have := S1.out.len; have := HL.out; have := HK.out.2.2.2; omega))
      go_upto_region 18 with (go_at_call 22; refine G2.out.mono ?_; rintro e u2 ⟨L2', d, F2', rfl, h1, s1⟩; have A2 := Lib.hid h1; have S2 := Lib.hid s1; clear h1 s1)
      clear G2
      have hc2 := Lib.hid (S1.out.has.ext S2.out.ext)
      have G3 := Lib.hid (get_d A2.out hc2.out (xof K (Z0 i)) (xof K (Z1 i)) (HX.out _) (HX.out _) true (by rw [alv_has S1.out.wf S2.out.ext S1.out.has, S1.out.cells _ _ (HX.out _) (HX.out _), if_pos ⟨rfl, rfl⟩]))
      go_upto_region 21 with (go_at_call 20; refine G3.out.mono ?_; rintro e u3 ⟨rfl, h1⟩; have A3 := Lib.hid h1; clear h1)
      clear G3
      obtain ⟨v, hv⟩ : ∃ v, alv L2' m c (xof K (Z0 (n - 1 - i))) (xof K (Z1 (n - 1 - i))) = v := ⟨_, rfl⟩
      have G4 := Lib.hid (get_d A3.out hc2.out _ _ (HX.out _) (HX.out _) v hv)
      have HV := Lib.hid hv
      clear hv
      go_upto_region 22 with (go_at_call 20; refine G4.out.mono ?_; rintro e u4 ⟨rfl, h1⟩; have A4 := Lib.hid h1; clear h1)
      clear G4
      have G5 := Lib.hid (set_d A4.out hc2.out (xof K (Z0 (n - 1 - i))) (xof K (Z1 (n - 1 - i))) (!v) (HX.out _) (HX.out _) (by have := S1.out.len; have := S2.out.len; have := HL.out; have := HK.out.2.2.2; omega))
      go_upto_region 23 with (go_at_call 22; refine G5.out.mono ?_; rintro e u5 ⟨L3, t, F3, rfl, h1, s1⟩; have A5 := Lib.hid h1; have S5 := Lib.hid s1; clear h1 s1)
      clear G5
      have G6 := Lib.hid (set_d A5.out S5.out.has (xof K (Z0 (n - 1 - i))) (xof K (Z1 (n - 1 - i))) v (HX.out _) (HX.out _) (by have := S1.out.len; have := S2.out.len; have := S5.out.len; have := HL.out; have := HK.out.2.2.2; omega))
      go_upto_region 24 with (go_at_call 22; refine G6.out.mono ?_; rintro e u6 ⟨L4, u, F6, rfl, h1, s1⟩; have A6 := Lib.hid h1; have S6 := Lib.hid s1; clear h1 s1)
      clear G6
      obtain ⟨huc, htc⟩ := set_back S2.out.wf hc2.out (HX.out _) (HX.out _) HV.out S5.out S6.out
      subst huc
      have hn1 : ¬ ((t : Nat) : Int) = ((u : Nat) : Int) := fun hh => htc (Int.ofNat.inj hh)
      have hn2 : (((t : Nat) : Int) == ((u : Nat) : Int)) = false := beq_eq_false_iff_ne.2 hn1
      have wi1 : IntKind.i64.wrap (((i : Nat) : Int) + 1) = ((i : Nat) : Int) + 1 := IntWalk.i64_in _ (by omega)
      go_wp2
      go_roundw
      case rel => exact ⟨i + 1, u, d, L4, F6, rfl, rfl, by go_num, by omega, A6.out, HOn.out.next S1.out S2.out S5.out S6.out⟩
      case measure => simp [intOf]; omega
    · obtain rfl : i = n := by omega
      obtain ⟨hab, hz⟩ := HOn.out.end (fun j => HX.out _) (fun j => HX.out _)
      subst hab
      have C1 := Lib.hid (count_d HH.out HOn.out.ha)
      have CN := HOn.out.cnt
      generalize hcn : cnt L a = cn at *
      have CI : ((cn : Nat) : Int) ≤ ((i : Nat) : Int) := by omega
      have C2 := Lib.hid (fun (W : World) (h : Held w W [⟨w.heap.size + 1, 4000, L, F⟩] []) => count_d h HOn.out.ha)
      have HCN := Lib.hid hcn
      clear hcn
      by_cases hi0 : i = 0
      · have hab := hz.2 hi0
        subst hab
        subst hi0
        go_wp2_with (first
          | (go_at_call 16; refine C1.out.mono ?_; rintro e u1 ⟨rfl, h1⟩; have A1 := Lib.hid h1; clear h1 C1)
          | (go_at_call 16; refine (C2.out _ A1.out).mono ?_; rintro e u2 ⟨rfl, h1⟩; rw [HCN.out]; have A2 := Lib.hid h1; clear h1 C2)
          | (go_at_call 19; refine (sure11 _).mono ?_; rintro e u9 ⟨rfl, hb9⟩))
        go_ret
        exact ⟨rfl, A2.out.keep.trans (hb9.mono A2.out.keep.size)⟩
      · have hne : ¬ a = base := fun e => hi0 (hz.1 e)
        have hne1 : ¬ ((a : Nat) : Int) = ((base : Nat) : Int) := fun hh => hne (Int.ofNat.inj hh)
        have hne2 : (((a : Nat) : Int) == ((base : Nat) : Int)) = false := beq_eq_false_iff_ne.2 hne1
        have hi1 : ¬ ((i : Nat) : Int) = 0 := by omega
        have hi2 : (((i : Nat) : Int) == 0) = false := beq_eq_false_iff_ne.2 hi1
        go_wp2_with (first
          | (go_at_call 16; refine C1.out.mono ?_; rintro e u1 ⟨rfl, h1⟩; have A1 := Lib.hid h1; clear h1 C1)
          | (go_at_call 16; refine (C2.out _ A1.out).mono ?_; rintro e u2 ⟨rfl, h1⟩; rw [HCN.out]; have A2 := Lib.hid h1; clear h1 C2)
          | (go_at_call 19; refine (sure11 _).mono ?_; rintro e u9 ⟨rfl, hb9⟩))
        go_ret
        exact ⟨rfl, A2.out.keep.trans (hb9.mono A2.out.keep.size)⟩
end Go.Proofs.Ytmabgfdibbidcaa
