/- Contract of the reference's Products. -/
import Derived.Test.YtfgbjaejkfkmmaaWords
namespace Go.Proofs.Ytfgbjaejkfkmmaa
open Go.RowKit Ieee

theorem Products_any (a b : Int) (a0 : 0 ≤ a) (a1 : a ≤ 4294967295) (b0 : 0 ≤ b) (b1 : b ≤ 4294967295) (w : World) :
    Calls Try.prog 68 #[.int .u32 a, .int .u32 b] w (Ret w (.int .u32 (productW a.toNat b.toNat : Nat))) := by
  have HW := Lib.hid (wordD_product a.toNat b.toNat)
  go_enter Try.func68, Try.ntmps68
  go_wp2_with fail
  refine (single_form _).mono ?_
  rintro e w1 ⟨rfl, hb1⟩
  go_wp2_with fail
  refine (take_any a a0 a1 _).mono ?_
  rintro e w2 ⟨rfl, hb2⟩
  go_wp2_with fail
  refine (take_any b b0 b1 _).mono ?_
  rintro e w3 ⟨rfl, hb3⟩
  go_wp2_with fail
  refine (product_any _ _ (can_read _) (can_read _) _).mono ?_
  rintro e w4 ⟨rfl, hb4⟩
  go_wp2_with fail
  refine (lay_any _ (can_resD _) _).mono ?_
  rintro e w5 ⟨rfl, hb5⟩
  rw [HW.out]
  go_wp2
  go_ret
  exact ⟨rfl, bs_step (bs_step (bs_step (bs_step hb1 hb2) hb3) hb4) hb5⟩
end Go.Proofs.Ytfgbjaejkfkmmaa
