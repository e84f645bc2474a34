/- Plain law: words of binary32, read and laid. -/
import Derived.Test.YtdihbpfoalmlcaaProduct2
import Derived.Laws.FloatBits
namespace Go.Proofs.Ytdihbpfoalmlcaa
open Ieee

theorem can_read (a : Nat) : Can (single.read a) := by
  unfold Format.read
  rw [single_sign, s_bin, single_inf, s_least]
  simp only
  have hm : a % 2147483648 < 2147483648 := Nat.mod_lt _ (by omega)
  generalize a % 2147483648 = r at *
  by_cases h1 : r < 8388608
  · rw [if_pos h1]; exact ⟨by omega, by omega, by omega⟩
  · rw [if_neg h1]
    by_cases h2 : r < 2139095040
    · rw [if_pos h2]; exact ⟨by omega, by omega, by omega⟩
    · rw [if_neg h2]
      by_cases h3 : r = 2139095040
      · rw [if_pos h3]; trivial
      · rw [if_neg h3]; trivial

theorem wordD_read (a : Nat) (ha : a < 4294967296) : wordD (single.read a) = clean a := by
  unfold clean
  rw [isNaN_read single (by decide), single_sign, single_inf]
  unfold Format.read
  rw [single_sign, s_bin, single_inf, s_least]
  simp only
  have hs : sgnW (a / 2147483648 % 2 == 1) + a % 2147483648 = a := by
    unfold sgnW
    by_cases h : a < 2147483648
    · rw [show (a / 2147483648 % 2 == 1) = false from by rw [beq_eq_false_iff_ne]; omega]; simp; omega
    · rw [show (a / 2147483648 % 2 == 1) = true from by rw [beq_iff_eq]; omega]; simp; omega
  have hm : a % 2147483648 < 2147483648 := Nat.mod_lt _ (by omega)
  generalize (a / 2147483648 % 2 == 1) = s at *
  generalize a % 2147483648 = r at *
  by_cases h1 : r < 8388608
  · rw [if_pos h1, if_neg (by rw [decide_eq_true_eq]; omega)]
    simp only [wordD]
    rw [if_pos h1]; exact hs
  · rw [if_neg h1]
    by_cases h2 : r < 2139095040
    · rw [if_pos h2, if_neg (by rw [decide_eq_true_eq]; omega)]
      simp only [wordD]
      rw [if_neg (by omega)]
      omega
    · rw [if_neg h2]
      by_cases h3 : r = 2139095040
      · rw [if_pos h3, if_neg (by rw [decide_eq_true_eq]; omega)]
        simp only [wordD]
        omega
      · rw [if_neg h3, if_pos (by rw [decide_eq_true_eq]; omega)]
        rfl

theorem write_lt32 (d : Datum) : single.write d < 4294967296 := single.write_lt d

theorem wordD_resD (o : Option Datum) (ho : ∀ d, o = some d → d.isNaN = false) : wordD (resD o) = (o.map single.write).getD oneNaN := by
  cases o with
  | none => rfl
  | some d =>
    show wordD (single.read (single.write d)) = single.write d
    rw [wordD_read _ (write_lt32 d)]
    unfold clean
    rw [write_notNaN single (by decide) d (ho d rfl)]
    simp
theorem can_resD (o : Option Datum) : Can (resD o) := by
  cases o with
  | none => trivial
  | some d => exact can_read _

theorem wordD_product (a b : Nat) : wordD (resD ((single.read a).product (single.read b))) = productW a b := wordD_resD _ fun _ => product_notNaN
end Go.Proofs.Ytdihbpfoalmlcaa
