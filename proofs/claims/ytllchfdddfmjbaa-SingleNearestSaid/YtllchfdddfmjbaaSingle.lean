/- Contracts of package single: number, word, Sum, Rest, Product, Ratio, Stand. -/
import Derived.Test.YtllchfdddfmjbaaFloat
import Derived.Lib.Hide
import Derived.Outline
namespace Go.Proofs.Ytllchfdddfmjbaa
open Go.RowKit Ieee

theorem number_any (a : Int) (w : World) : Calls Try.prog 40 #[.int .u32 a] w fun e w' => e = .returned (.float .f32 a.toNat) ∧ w = w' := by
  go_enter Try.func40, Try.ntmps40
  go_wp2
  go_ret
  exact ⟨rfl, rfl⟩

theorem word_any (v : Nat) (w : World) : Calls Try.prog 41 #[.float .f32 v] w fun e w' => e = .returned (.int .u32 (clean v : Nat)) ∧ w = w' := by
  have ho := order_self single v
  by_cases h : (single.read v).isNaN = true
  · rw [if_pos h] at ho
    have hc : clean v = 2143289344 := by unfold clean; rw [if_pos h]; rfl
    have HC := Lib.hid hc
    clear hc
    have hx : (FloatKind.f32.format.order v v != some .eq) = true := by rw [show FloatKind.f32.format = single from rfl, ho]; rfl
    clear ho h
    go_enter Try.func41, Try.ntmps41
    go_wp2
    go_ret
    exact ⟨by rw [HC.out]; rfl, rfl⟩
  · rw [if_neg h] at ho
    have hc : clean v = v := by unfold clean; rw [if_neg h]
    have HC := Lib.hid hc
    clear hc
    have hx : (FloatKind.f32.format.order v v != some .eq) = false := by rw [show FloatKind.f32.format = single from rfl, ho]; rfl
    clear ho h
    go_enter Try.func41, Try.ntmps41
    go_wp2
    go_ret
    exact ⟨by rw [HC.out]; rfl, rfl⟩

theorem clean_nanOf (w : World) (x y : Nat) : clean (nanOf w .f32 x y) = oneNaN := by unfold clean; rw [if_pos (nanOf_nan32 w x y)]
theorem ret_u32 {a b : Nat} (h : a = b) : Ending.returned (.int .u32 (a : Int)) = .returned (.int .u32 (b : Int)) := by rw [h]

theorem Sum_any (a b : Int) (w : World) : Calls Try.prog 14 #[.int .u32 a, .int .u32 b] w (Got w (.int .u32 (sumW a.toNat b.toNat : Nat))) := by
  cases h : single.add a.toNat b.toNat with
  | some r =>
    have hr := fun (W : World) => run_float_arith (P := Try.prog) W .add 54 .f32 a.toNat b.toNat r (by simpa [floatBits, FloatKind.format] using h)
    have HC := Lib.hid (show clean r = sumW a.toNat b.toNat by rw [clean_add h]; unfold sumW; rw [h]; rfl)
    clear h
    go_enter Try.func14, Try.ntmps14
    go_wp2_with (first
      | (go_at_call 40; refine (number_any _ _).mono ?_; rintro e w' ⟨rfl, rfl⟩)
      | (go_at_call 41; refine (word_any _ _).mono ?_; rintro e w' ⟨rfl, rfl⟩))
    go_ret
    exact ⟨ret_u32 HC.out, 0, rfl⟩
  | none =>
    have hr := fun (W : World) => run_float_invalid (P := Try.prog) W .add 54 .f32 a.toNat b.toNat (by decide) (by simpa [floatBits, FloatKind.format] using h)
    have HC := Lib.hid (show ∀ W : World, clean (nanOf W .f32 a.toNat b.toNat) = sumW a.toNat b.toNat from fun W => by rw [clean_nanOf]; unfold sumW; rw [h]; rfl)
    clear h
    go_enter Try.func14, Try.ntmps14
    go_wp2_with (first
      | (go_at_call 40; refine (number_any _ _).mono ?_; rintro e w' ⟨rfl, rfl⟩)
      | (go_at_call 41; refine (word_any _ _).mono ?_; rintro e w' ⟨rfl, rfl⟩))
    go_ret
    exact ⟨ret_u32 (HC.out _), 1, rfl⟩

theorem Rest_any (a b : Int) (w : World) : Calls Try.prog 34 #[.int .u32 a, .int .u32 b] w (Got w (.int .u32 (restW a.toNat b.toNat : Nat))) := by
  cases h : single.sub a.toNat b.toNat with
  | some r =>
    have hr := fun (W : World) => run_float_arith (P := Try.prog) W .sub 54 .f32 a.toNat b.toNat r (by simpa [floatBits, FloatKind.format] using h)
    have HC := Lib.hid (show clean r = restW a.toNat b.toNat by rw [clean_sub h]; unfold restW; rw [h]; rfl)
    clear h
    go_enter Try.func34, Try.ntmps34
    go_wp2_with (first
      | (go_at_call 40; refine (number_any _ _).mono ?_; rintro e w' ⟨rfl, rfl⟩)
      | (go_at_call 41; refine (word_any _ _).mono ?_; rintro e w' ⟨rfl, rfl⟩))
    go_ret
    exact ⟨ret_u32 HC.out, 0, rfl⟩
  | none =>
    have hr := fun (W : World) => run_float_invalid (P := Try.prog) W .sub 54 .f32 a.toNat b.toNat (by decide) (by simpa [floatBits, FloatKind.format] using h)
    have HC := Lib.hid (show ∀ W : World, clean (nanOf W .f32 a.toNat b.toNat) = restW a.toNat b.toNat from fun W => by rw [clean_nanOf]; unfold restW; rw [h]; rfl)
    clear h
    go_enter Try.func34, Try.ntmps34
    go_wp2_with (first
      | (go_at_call 40; refine (number_any _ _).mono ?_; rintro e w' ⟨rfl, rfl⟩)
      | (go_at_call 41; refine (word_any _ _).mono ?_; rintro e w' ⟨rfl, rfl⟩))
    go_ret
    exact ⟨ret_u32 (HC.out _), 1, rfl⟩

theorem Product_any (a b : Int) (w : World) : Calls Try.prog 16 #[.int .u32 a, .int .u32 b] w (Got w (.int .u32 (productW a.toNat b.toNat : Nat))) := by
  cases h : single.mul a.toNat b.toNat with
  | some r =>
    have hr := fun (W : World) => run_float_arith (P := Try.prog) W .mul 54 .f32 a.toNat b.toNat r (by simpa [floatBits, FloatKind.format] using h)
    have HC := Lib.hid (show clean r = productW a.toNat b.toNat by rw [clean_mul h]; unfold productW; rw [h]; rfl)
    clear h
    go_enter Try.func16, Try.ntmps16
    go_wp2_with (first
      | (go_at_call 40; refine (number_any _ _).mono ?_; rintro e w' ⟨rfl, rfl⟩)
      | (go_at_call 41; refine (word_any _ _).mono ?_; rintro e w' ⟨rfl, rfl⟩))
    go_ret
    exact ⟨ret_u32 HC.out, 0, rfl⟩
  | none =>
    have hr := fun (W : World) => run_float_invalid (P := Try.prog) W .mul 54 .f32 a.toNat b.toNat (by decide) (by simpa [floatBits, FloatKind.format] using h)
    have HC := Lib.hid (show ∀ W : World, clean (nanOf W .f32 a.toNat b.toNat) = productW a.toNat b.toNat from fun W => by rw [clean_nanOf]; unfold productW; rw [h]; rfl)
    clear h
    go_enter Try.func16, Try.ntmps16
    go_wp2_with (first
      | (go_at_call 40; refine (number_any _ _).mono ?_; rintro e w' ⟨rfl, rfl⟩)
      | (go_at_call 41; refine (word_any _ _).mono ?_; rintro e w' ⟨rfl, rfl⟩))
    go_ret
    exact ⟨ret_u32 (HC.out _), 1, rfl⟩

theorem Ratio_any (a b : Int) (w : World) : Calls Try.prog 22 #[.int .u32 a, .int .u32 b] w (Got w (.int .u32 (ratioW a.toNat b.toNat : Nat))) := by
  cases h : single.div a.toNat b.toNat with
  | some r =>
    have hr := fun (W : World) => run_float_arith (P := Try.prog) W .quo 54 .f32 a.toNat b.toNat r (by simpa [floatBits, FloatKind.format] using h)
    have HC := Lib.hid (show clean r = ratioW a.toNat b.toNat by rw [clean_div h]; unfold ratioW; rw [h]; rfl)
    clear h
    go_enter Try.func22, Try.ntmps22
    go_wp2_with (first
      | (go_at_call 40; refine (number_any _ _).mono ?_; rintro e w' ⟨rfl, rfl⟩)
      | (go_at_call 41; refine (word_any _ _).mono ?_; rintro e w' ⟨rfl, rfl⟩))
    go_ret
    exact ⟨ret_u32 HC.out, 0, rfl⟩
  | none =>
    have hr := fun (W : World) => run_float_invalid (P := Try.prog) W .quo 54 .f32 a.toNat b.toNat (by decide) (by simpa [floatBits, FloatKind.format] using h)
    have HC := Lib.hid (show ∀ W : World, clean (nanOf W .f32 a.toNat b.toNat) = ratioW a.toNat b.toNat from fun W => by rw [clean_nanOf]; unfold ratioW; rw [h]; rfl)
    clear h
    go_enter Try.func22, Try.ntmps22
    go_wp2_with (first
      | (go_at_call 40; refine (number_any _ _).mono ?_; rintro e w' ⟨rfl, rfl⟩)
      | (go_at_call 41; refine (word_any _ _).mono ?_; rintro e w' ⟨rfl, rfl⟩))
    go_ret
    exact ⟨ret_u32 (HC.out _), 1, rfl⟩

end Go.Proofs.Ytllchfdddfmjbaa
