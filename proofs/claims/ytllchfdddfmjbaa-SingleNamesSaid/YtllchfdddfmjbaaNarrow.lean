/- Contracts of package single: Wide, and Narrow of what it gives. -/
import Derived.Test.YtllchfdddfmjbaaOne
import Derived.Test.YtllchfdddfmjbaaExact
namespace Go.Proofs.Ytllchfdddfmjbaa
open Go.RowKit Ieee

@[go_sem] theorem run_from64 (n : Nat) (w : World) : (callFunc 47 #[.int .u64 (n : Int)]).run Try.prog w = .ok (.value (.float .f64 n)) w := by
  rw [run_callFunc_extern Try.func47 (by kernel_rfl) (by kernel_rfl) (by kernel_rfl) (e := Extern.MathFloatBits.float64frombits) (by kernel_rfl)]
  rfl

theorem wide_total (a : Nat) (ha : a ≤ 4294967295) : (single.read a).isNaN = true ∨ ∃ x, floatToFloatBits .f32 a .f64 = some x ∧ floatToFloatBits .f64 x .f32 = some a := by
  have hw := word_of single a (by rw [single_sign]; omega)
  rw [isNaN_read single (by decide)]
  rcases Nat.lt_trichotomy (a % single.signWeight) single.infRung with h | h | h
  · right
    obtain ⟨R, -, -, h1, h2⟩ := wide_some (a / single.signWeight % 2 == 1) (a % single.signWeight) h
    rw [← hw] at h1 h2
    exact ⟨_, h1, h2⟩
  · right
    have h1 := wide_inf (a / single.signWeight % 2 == 1)
    rw [← h, ← hw] at h1
    exact ⟨_, h1.1, h1.2⟩
  · left; exact decide_eq_true h

theorem bits_nan {s d : FloatKind} (hne : s ≠ d) {a x : Nat} (h : floatToFloatBits s a d = some x) : (s.format.read a).isNaN = false := by
  unfold floatToFloatBits at h
  rw [if_neg hne] at h
  cases hr : s.decode a with
  | nan t f => rw [hr] at h; cases h
  | number t m p => rw [show s.format.read a = _ from hr]; rfl
  | infinity t => rw [show s.format.read a = _ from hr]; rfl

theorem Narrow_some (x r : Nat) (h : floatToFloatBits .f64 x .f32 = some r) (w : World) : Calls Try.prog 24 #[.int .u64 (x : Int)] w fun e w' => e = .returned (.int .u32 (clean r : Nat)) ∧ w = w' := by
  have hr := fun W => run_convert_float_float (P := Try.prog) (w := W) 61 54 .f64 .f32 x r rfl rfl h
  clear h
  go_enter Try.func24, Try.ntmps24
  go_wp2_with fail
  refine (word_any _ _).mono ?_
  rintro e w' ⟨rfl, rfl⟩
  go_wp2
  go_ret
  exact ⟨rfl, rfl⟩
theorem Narrow_nan (x : Nat) (h : (double.read x).isNaN = true) (w : World) : Calls Try.prog 24 #[.int .u64 (x : Int)] w (Got w (.int .u32 (2143289344 : Nat))) := by
  have hr := fun W => run_convert_nan (P := Try.prog) W 61 54 .f64 .f32 x rfl rfl (by decide) h
  have HC := Lib.hid (fun W : World => show clean (nanTo W .f32 x) = 2143289344 from by unfold clean; rw [if_pos (nanTo_nan32 W x)]; rfl)
  clear h
  go_enter Try.func24, Try.ntmps24
  go_wp2_with fail
  refine (word_any _ _).mono ?_
  rintro e w' ⟨rfl, rfl⟩
  rw [HC.out]
  go_wp2
  go_ret
  exact ⟨rfl, 1, rfl⟩
theorem Wide_nan (a : Nat) (ha : a ≤ 4294967295) (hn : 2139095040 < a % 2147483648) (w : World) :
    Calls Try.prog 32 #[.int .u32 (a : Int)] w fun e w' => e = .returned (.int .u64 (9221120237041090560 : Nat)) ∧ w = w' := by
  have HN := Lib.hid (fun W => snone_any a ha true (decide_eq_true hn) W)
  clear hn ha
  go_enter Try.func32, Try.ntmps32
  go_wp2_with fail
  refine (HN.out _).mono ?_
  rintro e w' ⟨rfl, rfl⟩
  go_wp2
  go_ret
  exact ⟨rfl, rfl⟩

/-- Made wide and narrow again: the word, the one NaN in each NaN's place. -/
theorem wide_back (a : Nat) (ha : a ≤ 4294967295) : ∃ x : Nat, (∀ W, Calls Try.prog 32 #[.int .u32 (a : Int)] W fun e w' => e = .returned (.int .u64 (x : Nat)) ∧ W = w') ∧
    ∀ W, Calls Try.prog 24 #[.int .u64 (x : Int)] W (Got W (.int .u32 (oneW a : Nat))) := by
  have hnan := isNaN_read single (by decide) a
  rw [single_sign, single_inf] at hnan
  rcases wide_total a ha with h | ⟨x, h1, h2⟩
  · rw [h] at hnan
    have hn : 2139095040 < a % 2147483648 := of_decide_eq_true hnan.symm
    refine ⟨9221120237041090560, fun W => Wide_nan a ha hn W, fun W => ?_⟩
    rw [show oneW a = 2143289344 from by unfold oneW; rw [if_pos hn]]
    exact Narrow_nan _ (by decide +kernel) W
  · have hf := bits_nan (by decide) h1
    rw [show FloatKind.f32.format.read a = single.read a from rfl] at hf
    rw [hf] at hnan
    have hn : ¬ 2139095040 < a % 2147483648 := of_decide_eq_false hnan.symm
    refine ⟨x, fun W => Wide_some a x ha (decide_eq_false hn) h1 W, fun W => ?_⟩
    have hc : clean a = oneW a := by unfold clean oneW; rw [hf, if_neg hn]; rfl
    rw [← hc]
    exact (Narrow_some x a h2 W).mono fun e w' ⟨h3, h4⟩ => ⟨h3, 0, h4.symm⟩
end Go.Proofs.Ytllchfdddfmjbaa
