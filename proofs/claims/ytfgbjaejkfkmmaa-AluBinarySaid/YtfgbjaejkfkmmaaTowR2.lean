/- Contract of the reference's Toward, joined. -/
import Derived.Test.YtfgbjaejkfkmmaaTowR
namespace Go.Proofs.Ytfgbjaejkfkmmaa
open Go.RowKit Ieee

/-- A number above the least place has all its digits. -/
def Canon : Datum → Prop
  | .number _ m p => p = -149 ∨ 8388608 ≤ m
  | _ => True
set_option maxRecDepth 100000 in
theorem canon_read (a : Nat) : Canon (single.read a) := by
  unfold Format.read
  rw [single_sign, s_bin, single_inf, s_least]
  simp only
  generalize a % 2147483648 = r at *
  by_cases h1 : r < 8388608
  · rw [if_pos h1]; exact .inl rfl
  · rw [if_neg h1]
    by_cases h2 : r < 2139095040
    · rw [if_pos h2]; exact .inr (by omega)
    · rw [if_neg h2]
      by_cases h3 : r = 2139095040
      · rw [if_pos h3]; trivial
      · rw [if_neg h3]; trivial

theorem calls_int2 {f : Nat} {a : Int} {w : World} {x y : Int} (h : Calls Try.prog f #[.int .u32 a] w (Ret w (.int .i32 x))) (e : x = y) : Calls Try.prog f #[.int .u32 a] w (Ret w (.int .i32 y)) := e ▸ h

theorem towD_plus (m : Nat) (p : Int) : towD (.number false m p) = clampI (truncN m p) := rfl
theorem towD_minus (m : Nat) (p : Int) : towD (.number true m p) = clampI (-(truncN m p : Int)) := rfl
theorem clamp_in {v : Int} (h1 : -2147483648 ≤ v) (h2 : v ≤ 2147483647) : v = clampI v := by unfold clampI; rw [if_neg (by omega), if_neg (by omega)]
theorem clamp_over {v : Int} (h : 2147483647 < v) : 2147483647 = clampI v := by unfold clampI; rw [if_pos h]
theorem clamp_under {v : Int} (h : v < -2147483648) : -2147483648 = clampI v := by unfold clampI; rw [if_neg (by omega), if_pos h]

theorem RefToward_any (a : Int) (a0 : 0 ≤ a) (a1 : a ≤ 4294967295) (w : World) : Calls Try.prog 40 #[.int .u32 a] w (Ret w (.int .i32 (towD (single.read a.toNat)))) := by
  have hT := fun W => take_any a a0 a1 W
  have hcan := can_read a.toNat
  have hcanon := canon_read a.toNat
  cases hd : single.read a.toNat with
  | nan s t => rw [hd] at hT; exact rtow_nan a hT w
  | infinity s =>
    rw [hd] at hT
    cases s
    · exact rtow_inf_plus a hT w
    · exact rtow_inf_minus a hT w
  | number s m p =>
    rw [hd] at hT hcan hcanon
    obtain ⟨hm, hp, hp2⟩ := hcan
    unfold encD at hT
    by_cases h8 : p ≤ 8
    · by_cases h0 : 0 ≤ p
      · have hcn : 8388608 ≤ m := by rcases hcanon with h | h <;> omega
        have hz : ((m : Int) == 0) = false := by rw [beq_eq_false_iff_ne]; omega
        have hTe : truncN m p = m * 2 ^ p.toNat := by unfold truncN; rw [if_pos h0]
        have hle : m * 2 ^ p.toNat ≤ 4294967296 := by
          have h1 : m * 2 ^ p.toNat ≤ m * 2 ^ 8 := Nat.mul_le_mul_left _ (Nat.pow_le_pow_right (by omega) (by omega))
          have h2 : (2 : Nat) ^ 8 = 256 := rfl
          rw [h2] at h1
          omega
        generalize hTg : m * 2 ^ p.toNat = T at *
        cases s
        · rw [towD_plus, hTe]
          by_cases ho : T ≤ 2147483647
          · exact calls_int2 (rtow_up_plus_in a m T p h0 h8 hTg hle hz hm ho hT w) (clamp_in (by omega) (by omega))
          · exact calls_int2 (rtow_up_plus_over a m T p h0 h8 hTg hle hz hm (by omega) hT w) (clamp_over (by omega))
        · rw [towD_minus, hTe]
          by_cases ho : T ≤ 2147483648
          · exact calls_int2 (rtow_up_minus_in a m T p h0 h8 hTg hle hz hm ho hT w) (clamp_in (by omega) (by omega))
          · exact calls_int2 (rtow_up_minus_over a m T p h0 h8 hTg hle hz hm (by omega) hT w) (clamp_under (by omega))
      · have hTe : truncN m p = m / 2 ^ (-p).toNat := by unfold truncN; rw [if_neg h0]
        have hle : m / 2 ^ (-p).toNat ≤ m := Nat.div_le_self _ _
        by_cases hz0 : m = 0
        · have hz : ((m : Int) == 0) = true := by rw [beq_iff_eq]; omega
          generalize hTg : m / 2 ^ (-p).toNat = T at *
          cases s
          · rw [towD_plus, hTe]
            exact calls_int2 (rtow_low_plus_zero a m T p (by omega) hp hTg (by omega) hz hm hT w) (by rw [← clamp_in (by omega) (by omega)]; omega)
          · rw [towD_minus, hTe]
            exact calls_int2 (rtow_low_minus_zero a m T p (by omega) hp hTg (by omega) hz hm hT w) (by rw [← clamp_in (by omega) (by omega)]; omega)
        · have hz : ((m : Int) == 0) = false := by rw [beq_eq_false_iff_ne]; omega
          generalize hTg : m / 2 ^ (-p).toNat = T at *
          cases s
          · rw [towD_plus, hTe]
            exact calls_int2 (rtow_low_plus a m T p (by omega) hp hTg (by omega) hz hm hT w) (clamp_in (by omega) (by omega))
          · rw [towD_minus, hTe]
            exact calls_int2 (rtow_low_minus a m T p (by omega) hp hTg (by omega) hz hm hT w) (clamp_in (by omega) (by omega))
    · have hcn : 8388608 ≤ m := by rcases hcanon with h | h <;> omega
      have hz : ((m : Int) == 0) = false := by rw [beq_eq_false_iff_ne]; omega
      have hTe : 4294967296 ≤ truncN m p := by
        unfold truncN
        rw [if_pos (by omega)]
        have h1 : 8388608 * 2 ^ 9 ≤ m * 2 ^ p.toNat := Nat.mul_le_mul hcn (Nat.pow_le_pow_right (by omega) (by omega))
        have h2 : (8388608 * 2 ^ 9 : Nat) = 4294967296 := by decide
        omega
      cases s
      · rw [towD_plus]
        exact calls_int2 (rtow_big_plus a m p (decide_eq_false h8) hz hT w) (clamp_over (by omega))
      · rw [towD_minus]
        exact calls_int2 (rtow_big_minus a m p (decide_eq_false h8) hz hT w) (clamp_under (by omega))
end Go.Proofs.Ytfgbjaejkfkmmaa
