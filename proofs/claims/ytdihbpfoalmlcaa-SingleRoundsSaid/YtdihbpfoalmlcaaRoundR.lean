/- The reference's Round; clipped powers (printed by a program of ours). -/
import Derived.Test.YtdihbpfoalmlcaaRoundM2
import Derived.Test.YtdihbpfoalmlcaaWords
import Derived.Test.YtdihbpfoalmlcaaExact
namespace Go.Proofs.Ytdihbpfoalmlcaa
open Go.RowKit Ieee
set_option linter.unusedVariables false

set_option maxHeartbeats 1000000 in
theorem rr_false_mid (s : Bool) (m : Nat) (p0 p : Int) (hm : m ≤ 18446744073709551615) (h1 : decide ((1000 : Int) < p0) = false) (h2 : decide (p0 < -1000) = false) (hp : p0 = p) (b0 : -1000 ≤ p) (b1 : p ≤ 1000) (w : World) :
    Calls Try.prog 38 #[.bool s, .int .u64 (m : Int), .int .i64 p0, .bool false] w (Ret w (.int .u32 (wordD (single.read (single.nearest s m p)) : Nat))) := by
  have bm : bsize m ≤ 64 := bsize_of_lt (k := 64) (by omega)
  have HN := Lib.hid (fun W => nat_any m W hm)
  have HR := Lib.hid (fun v W (h : IsN W v m) => rounded_any s v m p W h (by omega) (by omega) (by omega))
  have HL := Lib.hid (fun W => lay_any (single.read (single.nearest s m p)) (can_read _) W)
  generalize wordD (single.read (single.nearest s m p)) = X at *
  obtain ⟨t0, t1, t2, t3, he⟩ := encD_form (single.read (single.nearest s m p))
  rw [he] at HR HL
  unfold val at HR HL
  clear he bm
  subst hp
  go_enter Try.func38, Try.ntmps38
  go_wp2_with fail
  refine (single_form _).mono ?_
  rintro e w1 ⟨rfl, hb1⟩
  go_wp2_with fail
  refine (HN.out _).mono ?_
  rintro e w2 ⟨v, rfl, hv, hb2⟩
  go_wp2_with fail
  refine (HR.out _ _ hv).mono ?_
  rintro e w3 ⟨rfl, hb3⟩
  go_wp2_with fail
  refine (HL.out _).mono ?_
  rintro e w4 ⟨rfl, hb4⟩
  go_wp2
  go_ret
  exact ⟨rfl, bs_step (bs_step (bs_step hb1 hb2) hb3) hb4⟩

set_option maxHeartbeats 1000000 in
theorem rr_false_high (s : Bool) (m : Nat) (p0 p : Int) (hm : m ≤ 18446744073709551615) (h1 : decide ((1000 : Int) < p0) = true) (hp : p = 1000) (b0 : -1000 ≤ p) (b1 : p ≤ 1000) (w : World) :
    Calls Try.prog 38 #[.bool s, .int .u64 (m : Int), .int .i64 p0, .bool false] w (Ret w (.int .u32 (wordD (single.read (single.nearest s m p)) : Nat))) := by
  have bm : bsize m ≤ 64 := bsize_of_lt (k := 64) (by omega)
  have HN := Lib.hid (fun W => nat_any m W hm)
  have HR := Lib.hid (fun v W (h : IsN W v m) => rounded_any s v m p W h (by omega) (by omega) (by omega))
  have HL := Lib.hid (fun W => lay_any (single.read (single.nearest s m p)) (can_read _) W)
  generalize wordD (single.read (single.nearest s m p)) = X at *
  obtain ⟨t0, t1, t2, t3, he⟩ := encD_form (single.read (single.nearest s m p))
  rw [he] at HR HL
  unfold val at HR HL
  clear he bm
  subst hp
  go_enter Try.func38, Try.ntmps38
  go_wp2_with fail
  refine (single_form _).mono ?_
  rintro e w1 ⟨rfl, hb1⟩
  go_wp2_with fail
  refine (HN.out _).mono ?_
  rintro e w2 ⟨v, rfl, hv, hb2⟩
  go_wp2_with fail
  refine (HR.out _ _ hv).mono ?_
  rintro e w3 ⟨rfl, hb3⟩
  go_wp2_with fail
  refine (HL.out _).mono ?_
  rintro e w4 ⟨rfl, hb4⟩
  go_wp2
  go_ret
  exact ⟨rfl, bs_step (bs_step (bs_step hb1 hb2) hb3) hb4⟩

set_option maxHeartbeats 1000000 in
theorem rr_false_low (s : Bool) (m : Nat) (p0 p : Int) (hm : m ≤ 18446744073709551615) (h1 : decide ((1000 : Int) < p0) = false) (h2 : decide (p0 < -1000) = true) (hp : p = -1000) (b0 : -1000 ≤ p) (b1 : p ≤ 1000) (w : World) :
    Calls Try.prog 38 #[.bool s, .int .u64 (m : Int), .int .i64 p0, .bool false] w (Ret w (.int .u32 (wordD (single.read (single.nearest s m p)) : Nat))) := by
  have bm : bsize m ≤ 64 := bsize_of_lt (k := 64) (by omega)
  have HN := Lib.hid (fun W => nat_any m W hm)
  have HR := Lib.hid (fun v W (h : IsN W v m) => rounded_any s v m p W h (by omega) (by omega) (by omega))
  have HL := Lib.hid (fun W => lay_any (single.read (single.nearest s m p)) (can_read _) W)
  generalize wordD (single.read (single.nearest s m p)) = X at *
  obtain ⟨t0, t1, t2, t3, he⟩ := encD_form (single.read (single.nearest s m p))
  rw [he] at HR HL
  unfold val at HR HL
  clear he bm
  subst hp
  go_enter Try.func38, Try.ntmps38
  go_wp2_with fail
  refine (single_form _).mono ?_
  rintro e w1 ⟨rfl, hb1⟩
  go_wp2_with fail
  refine (HN.out _).mono ?_
  rintro e w2 ⟨v, rfl, hv, hb2⟩
  go_wp2_with fail
  refine (HR.out _ _ hv).mono ?_
  rintro e w3 ⟨rfl, hb3⟩
  go_wp2_with fail
  refine (HL.out _).mono ?_
  rintro e w4 ⟨rfl, hb4⟩
  go_wp2
  go_ret
  exact ⟨rfl, bs_step (bs_step (bs_step hb1 hb2) hb3) hb4⟩

set_option maxHeartbeats 1000000 in
theorem rr_true_mid (s : Bool) (m : Nat) (p0 p : Int) (hm : m ≤ 18446744073709551615) (h1 : decide ((1000 : Int) < p0) = false) (h2 : decide (p0 < -1000) = false) (hp : p0 = p) (b0 : -1000 ≤ p) (b1 : p ≤ 1000) (w : World) :
    Calls Try.prog 38 #[.bool s, .int .u64 (m : Int), .int .i64 p0, .bool true] w (Ret w (.int .u32 (wordD (single.read (single.nearest s (2 * m + 1) (p - 1))) : Nat))) := by
  have bm : bsize m ≤ 64 := bsize_of_lt (k := 64) (by omega)
  have HN := Lib.hid (fun W => nat_any m W hm)
  have HR := Lib.hid (fun v W (h : IsN W v m) => roundm_any s v m p W h (by omega) (by omega) (by omega))
  have HL := Lib.hid (fun W => lay_any (single.read (single.nearest s (2 * m + 1) (p - 1))) (can_read _) W)
  generalize wordD (single.read (single.nearest s (2 * m + 1) (p - 1))) = X at *
  obtain ⟨t0, t1, t2, t3, he⟩ := encD_form (single.read (single.nearest s (2 * m + 1) (p - 1)))
  rw [he] at HR HL
  unfold val at HR HL
  clear he bm
  subst hp
  go_enter Try.func38, Try.ntmps38
  go_wp2_with fail
  refine (single_form _).mono ?_
  rintro e w1 ⟨rfl, hb1⟩
  go_wp2_with fail
  refine (HN.out _).mono ?_
  rintro e w2 ⟨v, rfl, hv, hb2⟩
  go_wp2_with fail
  refine (HR.out _ _ hv).mono ?_
  rintro e w3 ⟨rfl, hb3⟩
  go_wp2_with fail
  refine (HL.out _).mono ?_
  rintro e w4 ⟨rfl, hb4⟩
  go_wp2
  go_ret
  exact ⟨rfl, bs_step (bs_step (bs_step hb1 hb2) hb3) hb4⟩

set_option maxHeartbeats 1000000 in
theorem rr_true_high (s : Bool) (m : Nat) (p0 p : Int) (hm : m ≤ 18446744073709551615) (h1 : decide ((1000 : Int) < p0) = true) (hp : p = 1000) (b0 : -1000 ≤ p) (b1 : p ≤ 1000) (w : World) :
    Calls Try.prog 38 #[.bool s, .int .u64 (m : Int), .int .i64 p0, .bool true] w (Ret w (.int .u32 (wordD (single.read (single.nearest s (2 * m + 1) (p - 1))) : Nat))) := by
  have bm : bsize m ≤ 64 := bsize_of_lt (k := 64) (by omega)
  have HN := Lib.hid (fun W => nat_any m W hm)
  have HR := Lib.hid (fun v W (h : IsN W v m) => roundm_any s v m p W h (by omega) (by omega) (by omega))
  have HL := Lib.hid (fun W => lay_any (single.read (single.nearest s (2 * m + 1) (p - 1))) (can_read _) W)
  generalize wordD (single.read (single.nearest s (2 * m + 1) (p - 1))) = X at *
  obtain ⟨t0, t1, t2, t3, he⟩ := encD_form (single.read (single.nearest s (2 * m + 1) (p - 1)))
  rw [he] at HR HL
  unfold val at HR HL
  clear he bm
  subst hp
  go_enter Try.func38, Try.ntmps38
  go_wp2_with fail
  refine (single_form _).mono ?_
  rintro e w1 ⟨rfl, hb1⟩
  go_wp2_with fail
  refine (HN.out _).mono ?_
  rintro e w2 ⟨v, rfl, hv, hb2⟩
  go_wp2_with fail
  refine (HR.out _ _ hv).mono ?_
  rintro e w3 ⟨rfl, hb3⟩
  go_wp2_with fail
  refine (HL.out _).mono ?_
  rintro e w4 ⟨rfl, hb4⟩
  go_wp2
  go_ret
  exact ⟨rfl, bs_step (bs_step (bs_step hb1 hb2) hb3) hb4⟩

set_option maxHeartbeats 1000000 in
theorem rr_true_low (s : Bool) (m : Nat) (p0 p : Int) (hm : m ≤ 18446744073709551615) (h1 : decide ((1000 : Int) < p0) = false) (h2 : decide (p0 < -1000) = true) (hp : p = -1000) (b0 : -1000 ≤ p) (b1 : p ≤ 1000) (w : World) :
    Calls Try.prog 38 #[.bool s, .int .u64 (m : Int), .int .i64 p0, .bool true] w (Ret w (.int .u32 (wordD (single.read (single.nearest s (2 * m + 1) (p - 1))) : Nat))) := by
  have bm : bsize m ≤ 64 := bsize_of_lt (k := 64) (by omega)
  have HN := Lib.hid (fun W => nat_any m W hm)
  have HR := Lib.hid (fun v W (h : IsN W v m) => roundm_any s v m p W h (by omega) (by omega) (by omega))
  have HL := Lib.hid (fun W => lay_any (single.read (single.nearest s (2 * m + 1) (p - 1))) (can_read _) W)
  generalize wordD (single.read (single.nearest s (2 * m + 1) (p - 1))) = X at *
  obtain ⟨t0, t1, t2, t3, he⟩ := encD_form (single.read (single.nearest s (2 * m + 1) (p - 1)))
  rw [he] at HR HL
  unfold val at HR HL
  clear he bm
  subst hp
  go_enter Try.func38, Try.ntmps38
  go_wp2_with fail
  refine (single_form _).mono ?_
  rintro e w1 ⟨rfl, hb1⟩
  go_wp2_with fail
  refine (HN.out _).mono ?_
  rintro e w2 ⟨v, rfl, hv, hb2⟩
  go_wp2_with fail
  refine (HR.out _ _ hv).mono ?_
  rintro e w3 ⟨rfl, hb3⟩
  go_wp2_with fail
  refine (HL.out _).mono ?_
  rintro e w4 ⟨rfl, hb4⟩
  go_wp2
  go_ret
  exact ⟨rfl, bs_step (bs_step (bs_step hb1 hb2) hb3) hb4⟩

theorem near_high (s : Bool) (N : Nat) (P : Int) (hN : 0 < N) (hP : 128 ≤ P) : single.nearest s N P = single.word s single.infRung := by
  rw [nearest_eq]
  congr 1
  refine Nat.le_antisymm (rungOf_le_inf _ _ _) ?_
  obtain ⟨E, hE⟩ : ∃ E : Nat, E = 277 := ⟨_, rfl⟩
  have h := rungOf_mono single (by decide) 1 N 128 P (by
    rw [s_least, show ((128 : Int) - -149).toNat = E from by omega, show (-149 - P).toNat = 0 from by omega, show ((-149 : Int) - 128).toNat = 0 from rfl, Nat.pow_zero, Nat.mul_one, Nat.mul_one, Nat.one_mul]
    exact Nat.le_trans (Nat.pow_le_pow_right (by omega) (by omega)) (Nat.le_mul_of_pos_left _ hN))
  rw [show rungOf single 1 128 = single.infRung from by decide +kernel] at h
  exact h
theorem near_low (s : Bool) (N : Nat) (P : Int) (hN : N < 2 ^ 70) (hP : P ≤ -900) : single.nearest s N P = single.word s 0 := by
  rw [nearest_eq]
  congr 1
  have h := rungOf_mono single (by decide) N 1 P (-151) (by
    rw [s_least, show (P - -149).toNat = 0 from by omega, show ((-149 : Int) - -151).toNat = 2 from rfl, show ((-151 : Int) - -149).toNat = 0 from rfl, Nat.pow_zero, Nat.mul_one, Nat.mul_one, Nat.one_mul]
    have h1 : 2 ^ 72 ≤ 2 ^ (-149 - P).toNat := Nat.pow_le_pow_right (by omega) (by omega)
    omega)
  rw [show rungOf single 1 (-151) = 0 from by decide +kernel] at h
  omega
theorem near_zero (s : Bool) (P : Int) : single.nearest s 0 P = single.word s 0 := by
  rw [nearest_eq]; rfl
end Go.Proofs.Ytdihbpfoalmlcaa
