/- Plain law: the reference's way of rounding comes to the nearest word of binary32. -/
import Derived.Test.YtdihbpfoalmlcaaRef1
namespace Go.Proofs.Ytdihbpfoalmlcaa
open Ieee

theorem s_bin : single.binade = 8388608 := by decide
theorem s_least : single.leastPlace = -149 := by decide
theorem s_frac : single.fractionBits = 23 := rfl
theorem s_high : high single = 104 := by decide

/-- The place of the last digit that is kept. -/
def lastP (n : Nat) (p : Int) : Int := max (p + bsize n - 24) (-149)

theorem lastP_eq {n : Nat} (hn : 0 < n) (p : Int) : lastP n p = max (p + n.log2 - single.fractionBits) single.leastPlace := by
  unfold lastP
  rw [bsize_pos hn, s_least, s_frac]
  congr 1
  push_cast
  omega

theorem rnd_zero (s : Bool) (p : Int) : single.read (single.nearest s 0 p) = .number s 0 (-149) := by
  rw [read_nearest_zero single (by decide), s_least]

/-- Rounded, with what is kept told. -/
theorem rnd_kept (s : Bool) (n : Nat) (hn : 0 < n) (p : Int) (kept : Nat)
    (hk : kept = Toward.even.cut s (n <<< (p - lastP n p).toNat) (lastP n p - p).toNat) :
    single.read (single.nearest s n p) = if kept = 16777216 then heldD single s 8388608 (lastP n p + 1) else heldD single s kept (lastP n p) := by
  have h := read_nearest single (by decide) s n hn p (lastP n p) kept (lastP_eq hn p) hk
  rw [s_bin] at h
  exact h

theorem rnd_bound (s : Bool) (n : Nat) (hn : 0 < n) (p : Int) (kept : Nat)
    (hk : kept = Toward.even.cut s (n <<< (p - lastP n p).toNat) (lastP n p - p).toNat) : kept ≤ 16777216 := by
  have h := (kept_bounds single s n hn p (lastP n p) (lastP_eq hn p) kept hk).1
  rw [s_bin] at h
  exact h

/-- Nothing is dropped. -/
theorem rnd_up (s : Bool) (n : Nat) (hn : 0 < n) (p : Int) (h : lastP n p ≤ p) :
    n * 2 ^ (p - lastP n p).toNat < 16777216 ∧ single.read (single.nearest s n p) = heldD single s (n * 2 ^ (p - lastP n p).toNat) (lastP n p) := by
  have e : (lastP n p - p).toNat = 0 := by omega
  have hraw := (kept_raw single n hn p (lastP n p) (lastP_eq hn p)).1
  rw [s_bin, e] at hraw
  have hlt : n * 2 ^ (p - lastP n p).toNat < 16777216 := by omega
  refine ⟨hlt, ?_⟩
  have hk : n * 2 ^ (p - lastP n p).toNat = Toward.even.cut s (n <<< (p - lastP n p).toNat) (lastP n p - p).toNat := by
    rw [e, cut_zero, Nat.shiftLeft_eq]
  have h1 := rnd_kept s n hn p _ hk
  rw [if_neg (by omega)] at h1
  exact h1

/-- All is dropped. -/
theorem rnd_far (s : Bool) (n : Nat) (hn : 0 < n) (p : Int) (h : p + bsize n + 1 < lastP n p) : single.read (single.nearest s n p) = .number s 0 (-149) := by
  have hl : lastP n p = -149 := by unfold lastP at *; omega
  have e : (p - lastP n p).toNat = 0 := by omega
  have hk : 0 = Toward.even.cut s (n <<< (p - lastP n p).toNat) (lastP n p - p).toNat := by
    rw [e, Nat.shiftLeft_zero]
    have h1 : Toward.even.cut s n (lastP n p - p).toNat ≤ 0 := by
      rw [cut_le]
      left
      have h2 := lt_bsize n
      have h3 : 2 ^ (bsize n + 1) ≤ 2 ^ (lastP n p - p).toNat := Nat.pow_le_pow_right (by omega) (by omega)
      rw [Nat.pow_succ] at h3
      omega
    omega
  have h1 := rnd_kept s n hn p 0 hk
  rw [if_neg (by omega), hl] at h1
  rw [h1]
  unfold heldD
  rw [s_high, if_neg (by omega)]

/-- Some is dropped: d digits. -/
theorem rnd_down (s : Bool) (n : Nat) (hn : 0 < n) (p : Int) (d : Nat) (hd : lastP n p = p + d) (kept : Nat)
    (hk : kept = n / 2 ^ d + (if 2 ^ d < 2 * (n % 2 ^ d) ∨ (2 ^ d = 2 * (n % 2 ^ d) ∧ n / 2 ^ d % 2 = 1) then 1 else 0)) :
    kept ≤ 16777216 ∧ single.read (single.nearest s n p) = if kept = 16777216 then heldD single s 8388608 (lastP n p + 1) else heldD single s kept (lastP n p) := by
  have e1 : (p - lastP n p).toNat = 0 := by omega
  have e2 : (lastP n p - p).toNat = d := by omega
  have hc : kept = Toward.even.cut s (n <<< (p - lastP n p).toNat) (lastP n p - p).toNat := by
    rw [e1, e2, Nat.shiftLeft_zero, cut_eval]; exact hk
  exact ⟨rnd_bound s n hn p kept hc, rnd_kept s n hn p kept hc⟩
theorem rnd_quot (n : Nat) (hn : 0 < n) (p : Int) (d : Nat) (hd : lastP n p = p + d) : n / 2 ^ d < 16777216 := by
  have h := (kept_raw single n hn p (lastP n p) (lastP_eq hn p)).1
  rw [s_bin, show (p - lastP n p).toNat = 0 from by omega, show (lastP n p - p).toNat = d from by omega] at h
  exact (Nat.div_lt_iff_lt_mul (Nat.two_pow_pos d)).2 (by omega)
end Go.Proofs.Ytdihbpfoalmlcaa
