/- Contracts of the reference: a word taken apart, and laid down. -/
import Derived.Test.YtdihbpfoalmlcaaRef1
namespace Go.Proofs.Ytdihbpfoalmlcaa
open Go.RowKit Ieee

theorem bitsOf_255 (w : World) : Calls Try.prog 85 #[.int .i64 255] w fun e w' => e = .returned (.int .i64 8) ∧ w = w' := by
  go_enter Try.func85, Try.ntmps85
  go_wp2
  go_loop [0, 3] (fun x n => ∃ i j : Nat, j ≤ 255 ∧ i ≤ 8 ∧ x = .int .i64 j ∧ n = .int .i64 i ∧ i + bsize j = 8) (fun x _ => (intOf x).toNat)
  case atStart => exact ⟨0, 255, by omega, by omega, rfl, rfl, by decide⟩
  case round =>
    obtain ⟨i, j, hj, hi, rfl, rfl, hij⟩ := hrel
    have HIJ := Lib.hid hij
    clear hij
    by_cases hj0 : j = 0
    · subst hj0
      go_wp2
      go_ret
      refine ⟨ret_of ?_, rfl⟩
      have h1 := HIJ.out
      rw [bsize_zero] at h1
      obtain rfl : i = 8 := by omega
      rfl
    · have HB := Lib.hid (bsize_half (n := j) (by omega))
      go_wp2
      go_round
      case rel => exact ⟨i + 1, j / 2, by omega, by have := HIJ.out; have := HB.out; omega, by go_num, by go_num, by have := HIJ.out; have := HB.out; omega⟩
      case measure => simp [intOf]; omega

theorem and_mod (x k : Nat) (hx : x < 18446744073709551616) (m : Nat) (hm : m = 2 ^ k - 1) (hm2 : m < 18446744073709551616) : bits .and .u64 (x : Int) (m : Int) = ((x % 2 ^ k : Nat) : Int) := by
  rw [u64_and_nat _ _ hx hm2, hm, Nat.and_two_pow_sub_one_eq_mod]

/-- The parts of a word of binary32. -/
theorem read_parts (a : Nat) :
    let E := a / 8388608 % 256
    let F := a % 8388608
    let s := a / 2147483648 % 2 == 1
    (E = 255 → F ≠ 0 → encD (single.read a) = val 1 false 0 0) ∧ (E = 255 → F = 0 → encD (single.read a) = val 2 s 0 0) ∧
    (E = 0 → encD (single.read a) = val 3 s F (-149)) ∧ (E ≠ 0 → E ≠ 255 → encD (single.read a) = val 3 s (F + 8388608 : Nat) ((-149) + E - 1)) := by
  intro E F s
  have hb : single.binade = 8388608 := by decide
  have hl : single.leastPlace = -149 := by decide
  have hr : a % 2147483648 = E * 8388608 + F := by simp only [E, F]; omega
  have hE : E < 256 := Nat.mod_lt _ (by omega)
  have hF : F < 8388608 := Nat.mod_lt _ (by omega)
  unfold Format.read
  rw [single_sign, hb, single_inf, hl, hr]
  simp only
  refine ⟨fun h1 h2 => ?_, fun h1 h2 => ?_, fun h1 => ?_, fun h1 h2 => ?_⟩
  · rw [h1, if_neg (by omega), if_neg (by omega), if_neg (by omega)]; rfl
  · rw [h1, h2, if_neg (by omega), if_neg (by omega), if_pos (by omega)]; rfl
  · rw [h1, if_pos (by omega), Nat.zero_mul, Nat.zero_add]; rfl
  · rw [if_neg (by omega), if_pos (by omega)]
    have e1 : (E * 8388608 + F) % 8388608 = F := by omega
    have e2 : (E * 8388608 + F) / 8388608 = E := by omega
    rw [e1, e2]
    have e3 : ((-149 : Int) + ((E - 1 : Nat) : Int)) = -149 + E - 1 := by omega
    rw [e3, Nat.add_comm]
    rfl

set_option maxHeartbeats 1000000 in
set_option maxRecDepth 100000 in
theorem open_none (a : Nat) (ha : a ≤ 4294967295) (w : World) (h1 : a / 8388608 % 256 = 255) (h2 : a % 8388608 ≠ 0) : Calls Try.prog 70 #[frm, .int .u64 a] w (Ret w (encD (single.read a))) := by
  have hrp := read_parts a
  simp only at hrp
  obtain ⟨F, hF⟩ : ∃ F, F = a % 8388608 := ⟨_, rfl⟩
  obtain ⟨E, hE⟩ : ∃ E, E = a / 8388608 % 256 := ⟨_, rfl⟩
  obtain ⟨s, hs⟩ : ∃ s, s = (a / 2147483648 % 2 == 1) := ⟨_, rfl⟩
  have b1 : bits .and .u64 ((a : Int) / 8388608) 255 = (E : Int) := by
    rw [hE, show (a : Int) / 8388608 = ((a / 8388608 : Nat) : Int) from by omega]; exact and_mod _ 8 (by omega) 255 rfl (by omega)
  have b2 : bits .and .u64 (a : Int) 8388607 = (F : Int) := by rw [hF]; exact and_mod _ 23 (by omega) 8388607 rfl (by omega)
  have b3 : (bits .and .u64 ((a : Int) / 8388608 / 256) 1 == 1) = s := by
    rw [hs, show (a : Int) / 8388608 / 256 = ((a / 2147483648 : Nat) : Int) from by omega]
    have h := and_mod (a / 2147483648) 1 (by omega) 1 rfl (by omega)
    rw [show ((1 : Nat) : Int) = (1 : Int) from rfl] at h
    rw [h, Bool.eq_iff_iff]
    simp only [beq_iff_eq]
    omega
  simp only [← hF, ← hE] at h1 h2
  rw [← hs, ← hF, ← hE] at hrp
  have hE2 : E ≤ 255 := by omega
  have hF2 : F ≤ 8388607 := by omega
  clear hs
  have HR := Lib.hid (hrp.1 h1 h2)
  subst h1
  have ht : ((F : Int) != 0) = true := by rw [bne_iff_ne]; omega
  clear hrp hE hF h2
  unfold frm
  go_enter Try.func70, Try.ntmps70
  go_wp2_with (first
    | (go_at_call 85; refine (bitsOf_255 _).mono ?_; rintro e w' ⟨rfl, rfl⟩)
    | (go_at_call 86; refine (most_any _).mono ?_; rintro e w1 ⟨rfl, hb1⟩; (first | replace hB := hB.trans (hb1.mono hB.size) | have hB := hb1); clear hb1; (try clear hc1 hf1); obtain ⟨hc1, hf1⟩ := bel_cells hB)
    | (go_at_call 67; refine (none_any _).mono ?_; rintro e w1 ⟨rfl, hb1⟩; (first | replace hB := hB.trans (hb1.mono hB.size) | have hB := hb1); clear hb1; (try clear hc1 hf1); obtain ⟨hc1, hf1⟩ := bel_cells hB; unfold val)
    | (go_at_call 68; refine (endless_any _ _).mono ?_; rintro e w1 ⟨rfl, hb1⟩; (first | replace hB := hB.trans (hb1.mono hB.size) | have hB := hb1); clear hb1; (try clear hc1 hf1); obtain ⟨hc1, hf1⟩ := bel_cells hB; unfold val))
  rw [HR.out]
  exact bodyPost_ret (v := val 1 false 0 0) (by simp [results, Try.results70, go_sem, hc1, val]) rfl ⟨rfl, bel_set4 (bel_two _ _ _ hB) (by simp) _ _ _ _⟩

set_option maxHeartbeats 1000000 in
set_option maxRecDepth 100000 in
theorem open_inf (a : Nat) (ha : a ≤ 4294967295) (w : World) (h1 : a / 8388608 % 256 = 255) (h2 : a % 8388608 = 0) : Calls Try.prog 70 #[frm, .int .u64 a] w (Ret w (encD (single.read a))) := by
  have hrp := read_parts a
  simp only at hrp
  obtain ⟨F, hF⟩ : ∃ F, F = a % 8388608 := ⟨_, rfl⟩
  obtain ⟨E, hE⟩ : ∃ E, E = a / 8388608 % 256 := ⟨_, rfl⟩
  obtain ⟨s, hs⟩ : ∃ s, s = (a / 2147483648 % 2 == 1) := ⟨_, rfl⟩
  have b1 : bits .and .u64 ((a : Int) / 8388608) 255 = (E : Int) := by
    rw [hE, show (a : Int) / 8388608 = ((a / 8388608 : Nat) : Int) from by omega]; exact and_mod _ 8 (by omega) 255 rfl (by omega)
  have b2 : bits .and .u64 (a : Int) 8388607 = (F : Int) := by rw [hF]; exact and_mod _ 23 (by omega) 8388607 rfl (by omega)
  have b3 : (bits .and .u64 ((a : Int) / 8388608 / 256) 1 == 1) = s := by
    rw [hs, show (a : Int) / 8388608 / 256 = ((a / 2147483648 : Nat) : Int) from by omega]
    have h := and_mod (a / 2147483648) 1 (by omega) 1 rfl (by omega)
    rw [show ((1 : Nat) : Int) = (1 : Int) from rfl] at h
    rw [h, Bool.eq_iff_iff]
    simp only [beq_iff_eq]
    omega
  simp only [← hF, ← hE] at h1 h2
  rw [← hs, ← hF, ← hE] at hrp
  have hE2 : E ≤ 255 := by omega
  have hF2 : F ≤ 8388607 := by omega
  clear hs
  have HR := Lib.hid (hrp.2.1 h1 h2)
  subst h1
  subst h2
  clear hrp hE hF
  unfold frm
  go_enter Try.func70, Try.ntmps70
  go_wp2_with (first
    | (go_at_call 85; refine (bitsOf_255 _).mono ?_; rintro e w' ⟨rfl, rfl⟩)
    | (go_at_call 86; refine (most_any _).mono ?_; rintro e w1 ⟨rfl, hb1⟩; (first | replace hB := hB.trans (hb1.mono hB.size) | have hB := hb1); clear hb1; (try clear hc1 hf1); obtain ⟨hc1, hf1⟩ := bel_cells hB)
    | (go_at_call 67; refine (none_any _).mono ?_; rintro e w1 ⟨rfl, hb1⟩; (first | replace hB := hB.trans (hb1.mono hB.size) | have hB := hb1); clear hb1; (try clear hc1 hf1); obtain ⟨hc1, hf1⟩ := bel_cells hB; unfold val)
    | (go_at_call 68; refine (endless_any _ _).mono ?_; rintro e w1 ⟨rfl, hb1⟩; (first | replace hB := hB.trans (hb1.mono hB.size) | have hB := hb1); clear hb1; (try clear hc1 hf1); obtain ⟨hc1, hf1⟩ := bel_cells hB; unfold val))
  rw [HR.out]
  exact bodyPost_ret (v := val 2 s 0 0) (by simp [results, Try.results70, go_sem, hc1, val]) rfl ⟨rfl, bel_set4 (bel_two _ _ _ hB) (by simp) _ _ _ _⟩

set_option maxHeartbeats 1000000 in
set_option maxRecDepth 100000 in
theorem open_low (a : Nat) (ha : a ≤ 4294967295) (w : World) (h1 : a / 8388608 % 256 = 0) : Calls Try.prog 70 #[frm, .int .u64 a] w (Ret w (encD (single.read a))) := by
  have hrp := read_parts a
  simp only at hrp
  obtain ⟨F, hF⟩ : ∃ F, F = a % 8388608 := ⟨_, rfl⟩
  obtain ⟨E, hE⟩ : ∃ E, E = a / 8388608 % 256 := ⟨_, rfl⟩
  obtain ⟨s, hs⟩ : ∃ s, s = (a / 2147483648 % 2 == 1) := ⟨_, rfl⟩
  have b1 : bits .and .u64 ((a : Int) / 8388608) 255 = (E : Int) := by
    rw [hE, show (a : Int) / 8388608 = ((a / 8388608 : Nat) : Int) from by omega]; exact and_mod _ 8 (by omega) 255 rfl (by omega)
  have b2 : bits .and .u64 (a : Int) 8388607 = (F : Int) := by rw [hF]; exact and_mod _ 23 (by omega) 8388607 rfl (by omega)
  have b3 : (bits .and .u64 ((a : Int) / 8388608 / 256) 1 == 1) = s := by
    rw [hs, show (a : Int) / 8388608 / 256 = ((a / 2147483648 : Nat) : Int) from by omega]
    have h := and_mod (a / 2147483648) 1 (by omega) 1 rfl (by omega)
    rw [show ((1 : Nat) : Int) = (1 : Int) from rfl] at h
    rw [h, Bool.eq_iff_iff]
    simp only [beq_iff_eq]
    omega
  simp only [← hE] at h1
  rw [← hs, ← hF, ← hE] at hrp
  have hE2 : E ≤ 255 := by omega
  have hF2 : F ≤ 8388607 := by omega
  clear hs
  have HR := Lib.hid (hrp.2.2.1 h1)
  subst h1
  clear hrp hE hF
  unfold frm
  go_enter Try.func70, Try.ntmps70
  go_wp2_with (first
    | (go_at_call 85; refine (bitsOf_255 _).mono ?_; rintro e w' ⟨rfl, rfl⟩)
    | (go_at_call 86; refine (most_any _).mono ?_; rintro e w1 ⟨rfl, hb1⟩; (first | replace hB := hB.trans (hb1.mono hB.size) | have hB := hb1); clear hb1; (try clear hc1 hf1); obtain ⟨hc1, hf1⟩ := bel_cells hB)
    | (go_at_call 67; refine (none_any _).mono ?_; rintro e w1 ⟨rfl, hb1⟩; (first | replace hB := hB.trans (hb1.mono hB.size) | have hB := hb1); clear hb1; (try clear hc1 hf1); obtain ⟨hc1, hf1⟩ := bel_cells hB; unfold val)
    | (go_at_call 68; refine (endless_any _ _).mono ?_; rintro e w1 ⟨rfl, hb1⟩; (first | replace hB := hB.trans (hb1.mono hB.size) | have hB := hb1); clear hb1; (try clear hc1 hf1); obtain ⟨hc1, hf1⟩ := bel_cells hB; unfold val))
  rw [HR.out]
  exact bodyPost_ret (v := val 3 s F (-149)) (by simp [results, Try.results70, go_sem, hc1, val]) rfl ⟨rfl, bel_set4 (bel_two _ _ _ hB) (by simp) _ _ _ _⟩

set_option maxHeartbeats 1000000 in
set_option maxRecDepth 100000 in
theorem open_high (a : Nat) (ha : a ≤ 4294967295) (w : World) (h1 : a / 8388608 % 256 ≠ 0) (h2 : a / 8388608 % 256 ≠ 255) : Calls Try.prog 70 #[frm, .int .u64 a] w (Ret w (encD (single.read a))) := by
  have hrp := read_parts a
  simp only at hrp
  obtain ⟨F, hF⟩ : ∃ F, F = a % 8388608 := ⟨_, rfl⟩
  obtain ⟨E, hE⟩ : ∃ E, E = a / 8388608 % 256 := ⟨_, rfl⟩
  obtain ⟨s, hs⟩ : ∃ s, s = (a / 2147483648 % 2 == 1) := ⟨_, rfl⟩
  have b1 : bits .and .u64 ((a : Int) / 8388608) 255 = (E : Int) := by
    rw [hE, show (a : Int) / 8388608 = ((a / 8388608 : Nat) : Int) from by omega]; exact and_mod _ 8 (by omega) 255 rfl (by omega)
  have b2 : bits .and .u64 (a : Int) 8388607 = (F : Int) := by rw [hF]; exact and_mod _ 23 (by omega) 8388607 rfl (by omega)
  have b3 : (bits .and .u64 ((a : Int) / 8388608 / 256) 1 == 1) = s := by
    rw [hs, show (a : Int) / 8388608 / 256 = ((a / 2147483648 : Nat) : Int) from by omega]
    have h := and_mod (a / 2147483648) 1 (by omega) 1 rfl (by omega)
    rw [show ((1 : Nat) : Int) = (1 : Int) from rfl] at h
    rw [h, Bool.eq_iff_iff]
    simp only [beq_iff_eq]
    omega
  simp only [← hE] at h1 h2
  rw [← hs, ← hF, ← hE] at hrp
  have hE2 : E ≤ 255 := by omega
  have hF2 : F ≤ 8388607 := by omega
  clear hs
  have HR := Lib.hid (hrp.2.2.2 h1 h2)
  have t1 : ((E : Int) == 255) = false := by simp; omega
  have t2 : ((E : Int) == 0) = false := by simp; omega
  clear hrp hE hF h1 h2
  unfold frm
  go_enter Try.func70, Try.ntmps70
  go_wp2_with (first
    | (go_at_call 85; refine (bitsOf_255 _).mono ?_; rintro e w' ⟨rfl, rfl⟩)
    | (go_at_call 86; refine (most_any _).mono ?_; rintro e w1 ⟨rfl, hb1⟩; (first | replace hB := hB.trans (hb1.mono hB.size) | have hB := hb1); clear hb1; (try clear hc1 hf1); obtain ⟨hc1, hf1⟩ := bel_cells hB)
    | (go_at_call 67; refine (none_any _).mono ?_; rintro e w1 ⟨rfl, hb1⟩; (first | replace hB := hB.trans (hb1.mono hB.size) | have hB := hb1); clear hb1; (try clear hc1 hf1); obtain ⟨hc1, hf1⟩ := bel_cells hB; unfold val)
    | (go_at_call 68; refine (endless_any _ _).mono ?_; rintro e w1 ⟨rfl, hb1⟩; (first | replace hB := hB.trans (hb1.mono hB.size) | have hB := hb1); clear hb1; (try clear hc1 hf1); obtain ⟨hc1, hf1⟩ := bel_cells hB; unfold val))
  rw [HR.out]
  exact bodyPost_ret (v := val 3 s (F + 8388608 : Nat) ((-149) + E - 1)) (by simp [results, Try.results70, go_sem, hc1, val]) rfl ⟨rfl, bel_set4 (bel_two _ _ _ hB) (by simp) _ _ _ _⟩

theorem open_any (a : Nat) (ha : a ≤ 4294967295) (w : World) : Calls Try.prog 70 #[frm, .int .u64 a] w (Ret w (encD (single.read a))) := by
  by_cases h1 : a / 8388608 % 256 = 255
  · by_cases h2 : a % 8388608 = 0
    · exact open_inf a ha w h1 h2
    · exact open_none a ha w h1 h2
  · by_cases h2 : a / 8388608 % 256 = 0
    · exact open_low a ha w h2
    · exact open_high a ha w h2 h1
end Go.Proofs.Ytdihbpfoalmlcaa
