/- Contracts of the reference's numbers, eighth part: root. -/
import Derived.Test.YtdihbpfoalmlcaaNat7
namespace Go.Proofs.Ytdihbpfoalmlcaa
open Go.RowKit

theorem sq_unique {a q r : Nat} (h1 : r * r ≤ a) (h2 : a < (r + 1) * (r + 1)) (h3 : q * q ≤ a) (h4 : a < (q + 1) * (q + 1)) : r = q := by
  have h5 : r < q + 1 := Nat.mul_self_lt_mul_self_iff.1 (by omega)
  have h6 : q < r + 1 := Nat.mul_self_lt_mul_self_iff.1 (by omega)
  omega
theorem sq_le {a r : Nat} (h : r * r ≤ a) : r ≤ a := by
  have := Nat.le_mul_self r
  omega

theorem cmpI_le {a b : Nat} (h : a ≤ b) : cmpI a b ≤ 0 := by
  unfold cmpI
  by_cases h1 : a < b
  · rw [if_pos h1]; omega
  · rw [if_neg h1, if_pos (by omega)]; omega

set_option maxHeartbeats 2000000 in
theorem root_any (va : Value) (a q : Nat) (w : World) (ha : IsN w va a) (ba : bsize a ≤ 90000) (hq1 : q * q ≤ a) (hq2 : a < (q + 1) * (q + 1)) :
    Calls Try.prog 84 #[va] w (RetNB w q (!(q * q == a))) := by
  have HA := Lib.hid ha
  have HQ1 := Lib.hid hq1
  have HQ2 := Lib.hid hq2
  clear ha hq1 hq2
  go_enter Try.func84, Try.ntmps84
  go_wp2_with fail
  refine (size_any _ _ _ HA.out (by omega)).mono ?_
  rintro e w1 ⟨rfl, rfl⟩
  go_wp2
  go_loopw [4, 5] (fun o i wr => ∃ (m r : Nat), m ≤ 50000 ∧ i = .int .i64 ((m : Int) - 1) ∧ IsN wr o r ∧ r * r ≤ a ∧ a < (r + 2 ^ m) * (r + 2 ^ m) ∧ Below w.heap.size w wr ∧ m ≤ bsize a / 2 + 1)
    (fun _ i _ => (intOf i + 1).toNat)
  case atStart =>
    refine ⟨bsize a / 2 + 1, 0, by omega, ?_, IsN.nil_ _, by simp, ?_, Below.refl _ _, by omega⟩
    · congr 1; omega
    · have h1 := lt_bsize a
      rw [Nat.zero_add, ← Nat.pow_add]
      exact Nat.lt_of_lt_of_le h1 (Nat.pow_le_pow_right (by omega) (by omega))
  case round =>
    obtain ⟨m, r, hm, rfl, ho, hr1, hr2, hbel, hm2⟩ := hrel
    have hra := bsize_mono (sq_le hr1)
    have hA := HA.out.below hbel
    have hw := hbel
    clear hbel
    match m with
    | 0 =>
      rw [Nat.pow_zero] at hr2
      have hrq := sq_unique hr1 hr2 HQ1.out HQ2.out
      subst hrq
      have hbm := bsize_mul r r
      clear hr1 hr2
      go_wp2_with fail
      refine (times_any _ _ r r _ ho ho (by omega) (by omega)).mono ?_
      rintro e w2 ⟨v2, rfl, h2, hb2⟩
      replace hA := hA.below hb2
      replace ho := ho.below hb2
      replace hw := hw.trans (hb2.mono hw.size)
      clear hb2
      by_cases heq : r * r = a
      · have HCMP := Lib.hid (show cmpI (r * r) a = 0 from by unfold cmpI; rw [if_neg (by omega), if_pos heq])
        have HRES := Lib.hid (show (!(r * r == a)) = false from by simp [heq])
        clear heq
        go_wp2_with fail
        refine (against_is _ _ _ a 0 _ h2 hA (by omega) HCMP.out).mono ?_
        rintro e _ ⟨rfl, n1, rfl⟩
        go_wp2
        go_ret2
        exact ⟨_, by rw [HRES.out]; rfl, ho.drewN n1, bel_drewN hw n1⟩
      · have HCMP := Lib.hid (show cmpI (r * r) a = -1 from by have := HQ1.out; unfold cmpI; rw [if_pos (by omega)])
        have HRES := Lib.hid (show (!(r * r == a)) = true from by simp [heq])
        clear heq
        go_wp2_with fail
        refine (against_is _ _ _ a (-1) _ h2 hA (by omega) HCMP.out).mono ?_
        rintro e _ ⟨rfl, n1, rfl⟩
        go_wp2
        go_ret2
        exact ⟨_, by rw [HRES.out]; rfl, ho.drewN n1, bel_drewN hw n1⟩
    | k + 1 =>
      have e0 : (((k + 1 : Nat) : Int) - 1) = (k : Int) := by omega
      rw [e0]
      clear e0
      have hp : r + 2 ^ (k + 1) = r + 2 ^ k + 2 ^ k := by rw [Nat.pow_succ]; omega
      rw [hp] at hr2
      have HR1 := Lib.hid hr1
      have HR2 := Lib.hid hr2
      have bp : bsize (2 ^ k) ≤ k + 1 := bsize_of_lt (Nat.pow_lt_pow_right (by omega) (by omega))
      have bt : bsize (r + 2 ^ k) ≤ 95000 := by
        have := bsize_add r (2 ^ k) 94000 (by omega) (by omega)
        omega
      have bm := bsize_mul (r + 2 ^ k) (r + 2 ^ k)
      clear hr1 hr2 hp
      go_wp2_with fail
      refine (nat_one _).mono ?_
      rintro e w2 ⟨v2, rfl, h2, hb2⟩
      replace hA := hA.below hb2
      replace ho := ho.below hb2
      replace hw := hw.trans (hb2.mono hw.size)
      clear hb2
      go_wp2_with fail
      refine (up_is _ 1 (2 ^ k) _ _ h2 (by have : bsize 1 ≤ 1 := by decide
                                           omega) (by omega) (by omega) (by rw [Int.toNat_natCast, Nat.one_mul])).mono ?_
      rintro e w3 ⟨v3, rfl, h3, hb3⟩
      replace hA := hA.below hb3
      replace ho := ho.below hb3
      replace hw := hw.trans (hb3.mono hw.size)
      clear hb3 h2
      go_wp2_with fail
      refine (plus_any _ _ r (2 ^ k) _ ho h3 (by omega) (by omega)).mono ?_
      rintro e w4 ⟨v4, rfl, h4, hb4⟩
      replace hA := hA.below hb4
      replace ho := ho.below hb4
      replace hw := hw.trans (hb4.mono hw.size)
      clear hb4 h3
      go_wp2_with fail
      refine (times_any _ _ (r + 2 ^ k) (r + 2 ^ k) _ h4 h4 (by omega) (by omega)).mono ?_
      rintro e w5 ⟨v5, rfl, h5, hb5⟩
      replace hA := hA.below hb5
      replace ho := ho.below hb5
      replace h4 := h4.below hb5
      replace hw := hw.trans (hb5.mono hw.size)
      clear hb5
      by_cases hle : (r + 2 ^ k) * (r + 2 ^ k) ≤ a
      · obtain ⟨c, hc, hc0⟩ : ∃ c, cmpI ((r + 2 ^ k) * (r + 2 ^ k)) a = c ∧ c ≤ 0 := ⟨_, rfl, cmpI_le hle⟩
        have HCMP := Lib.hid hc
        have HLE := Lib.hid hle
        clear hc hle
        go_wp2_with fail
        refine (against_is _ _ _ a c _ h5 hA (by omega) HCMP.out).mono ?_
        rintro e _ ⟨rfl, n1, rfl⟩
        go_wp2
        go_roundw
        case rel => exact ⟨k, r + 2 ^ k, by omega, rfl, h4.drewN n1, HLE.out, HR2.out, bel_drewN hw n1, by omega⟩
        case measure => simp [intOf]
      · have HCMP := Lib.hid (show cmpI ((r + 2 ^ k) * (r + 2 ^ k)) a = 1 from by unfold cmpI; rw [if_neg (by omega), if_neg (by omega)])
        have HLE := Lib.hid hle
        clear hle
        go_wp2_with fail
        refine (against_is _ _ _ a 1 _ h5 hA (by omega) HCMP.out).mono ?_
        rintro e _ ⟨rfl, n1, rfl⟩
        go_wp2
        go_roundw
        case rel => exact ⟨k, r, by omega, rfl, ho.drewN n1, HR1.out, by have := HLE.out; omega, bel_drewN hw n1, by omega⟩
        case measure => simp [intOf]
end Go.Proofs.Ytdihbpfoalmlcaa
