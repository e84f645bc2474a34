/- Contracts of the program's Of, Root at a word, Wide, and awake. -/
import Derived.Test.YtllchfdddfmjbaaStandB
import Derived.Test.YtllchfdddfmjbaaRootB
import Derived.Test.YtllchfdddfmjbaaTowB
import Derived.Test.YtllchfdddfmjbaaOfB
import Derived.Test.YtllchfdddfmjbaaStep
namespace Go.Proofs.Ytllchfdddfmjbaa
open Go.RowKit Ieee

@[go_sem] theorem run_bits64 (n : Nat) (w : World) : (callFunc 49 #[.float .f64 n]).run Try.prog w = .ok (.value (.int .u64 n)) w := by
  rw [run_callFunc_extern Try.func49 (by kernel_rfl) (by kernel_rfl) (by kernel_rfl) (e := Extern.MathFloatBits.float64bits) (by kernel_rfl)]
  rfl
theorem Wide_some (a x : Nat) (ha : a ≤ 4294967295) (hn : decide (2139095040 < a % 2147483648) = false) (h1 : floatToFloatBits .f32 a .f64 = some x) (w : World) :
    Calls Try.prog 32 #[.int .u32 a] w fun e w' => e = .returned (.int .u64 (x : Nat)) ∧ w = w' := by
  have hr1 := fun W => run_convert_float_float (P := Try.prog) (w := W) 54 61 .f32 .f64 a x rfl rfl h1
  have HN := Lib.hid (fun W => snone_any a ha false hn W)
  clear h1 hn ha
  go_enter Try.func32, Try.ntmps32
  go_wp2_with fail
  refine (HN.out _).mono ?_
  rintro e w' ⟨rfl, rfl⟩
  go_wp2_with fail
  refine (number_any _ _).mono ?_
  rintro e w' ⟨rfl, rfl⟩
  rw [Int.toNat_natCast]
  go_wp2
  go_ret
  exact ⟨rfl, rfl⟩

set_option maxHeartbeats 1000000 in
theorem awake_any (w : World) : Calls Try.prog 17 #[] w (Got w (.bool true)) := by
  have HS := Lib.hid (show sumW (1065353216 : Int).toNat (1065353216 : Int).toNat = 1073741824 from by decide +kernel)
  have HP := Lib.hid (show productW (1073741824 : Int).toNat (1077936128 : Int).toNat = 1086324736 from by decide +kernel)
  have HQ := Lib.hid (show ratioW (1065353216 : Int).toNat (1077936128 : Int).toNat = 1051372203 from by decide +kernel)
  have HR := Lib.hid (show clean 1073741824 = 1073741824 from by decide +kernel)
  have HO := Lib.hid (show ofW 3 = 1077936128 from by decide +kernel)
  have HA := Lib.hid (show aboveW 1065353216 = 1065353217 from by decide +kernel)
  have HD := Lib.hid (show single.order (1065353216 : Int).toNat (1073741824 : Int).toNat = some .lt from by decide +kernel)
  have HT := Lib.hid (fun W => tow_in 1077936128 3 W (by decide +kernel) (by decide +kernel) (by decide +kernel) (by decide +kernel))
  have HW := Lib.hid (fun W => Wide_some 1065353216 4607182418800017408 (by decide) (by decide +kernel) (by decide +kernel) W)
  have HX := Lib.hid (fun W => Root_at 1082130432 4616189618054758400 4611686018427387904 1073741824 W (by decide +kernel) (by decide +kernel) (by decide +kernel))
  go_enter Try.func17, Try.ntmps17
  go_wp2_with fail
  refine (Sum_any _ _ _).mono ?_
  rintro e w1 ⟨rfl, n1, rfl⟩
  rw [HS.out]
  go_wp2_with fail
  refine (Product_any _ _ _).mono ?_
  rintro e w1 ⟨rfl, n2, rfl⟩
  rw [HP.out]
  go_wp2_with fail
  refine (Ratio_any _ _ _).mono ?_
  rintro e w1 ⟨rfl, n3, rfl⟩
  rw [HQ.out]
  go_wp2_with fail
  refine (HX.out _).mono ?_
  rintro e w1 ⟨rfl, rfl⟩
  rw [HR.out]
  go_wp2_with fail
  refine (Stand_lt _ _ _ HD.out).mono ?_
  rintro e w1 ⟨rfl, rfl⟩
  go_wp2_with fail
  refine (Above_any 1065353216 (by decide) _).mono ?_
  rintro e w1 ⟨rfl, rfl⟩
  rw [HA.out]
  go_wp2_with fail
  refine (Of_any 3 _).mono ?_
  rintro e w1 ⟨rfl, rfl⟩
  rw [HO.out]
  go_wp2_with fail
  refine (HT.out _).mono ?_
  rintro e w1 ⟨rfl, rfl⟩
  go_wp2_with fail
  refine (HW.out _).mono ?_
  rintro e w1 ⟨rfl, rfl⟩
  go_wp2
  go_ret
  exact ⟨rfl, n1 + n2 + n3, by simp only⟩
end Go.Proofs.Ytllchfdddfmjbaa
