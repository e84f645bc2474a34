/- Contracts of the outright laws' isNone, clean, one; contracts of package single with their answers named. -/
import Derived.Test.YtllchfdddfmjbaaSignsP
namespace Go.Proofs.Ytllchfdddfmjbaa
open Go.RowKit Ieee

theorem isNone_any (a : Nat) (h : a ≤ 4294967295) (t : Bool) (ht : decide (2139095040 < a % 2147483648) = t) (w : World) : Calls Try.prog 36 #[.int .u32 a] w fun e w' => e = .returned (.bool t) ∧ w = w' := by
  have hx := bits_low a h
  obtain ⟨r, hr⟩ : ∃ r, r = a % 2147483648 := ⟨_, rfl⟩
  rw [← hr] at hx ht
  have HT := Lib.hid (show decide ((2139095040 : Int) < (r : Int)) = t from by rw [← ht]; exact decide_eq_decide.2 (by omega))
  clear hr ht
  go_enter Try.func36, Try.ntmps36
  go_wp2
  go_ret
  exact ⟨by rw [← HT.out]; first | rfl | (simp; done) | (congr 3; simp; omega), rfl⟩

theorem one_any (a r : Nat) (h : a ≤ 4294967295) (hr : oneW a = r) (w : World) : Calls Try.prog 35 #[.int .u32 a] w fun e w' => e = .returned (.int .u32 (r : Nat)) ∧ w = w' := by
  by_cases h1 : 2139095040 < a % 2147483648
  · obtain rfl : r = 2143289344 := by rw [← hr]; unfold oneW; rw [if_pos h1]
    have HN := Lib.hid (fun W => isNone_any a h true (decide_eq_true h1) W)
    clear h1 hr
    go_enter Try.func35, Try.ntmps35
    go_wp2_with fail
    refine (HN.out _).mono ?_
    rintro e w' ⟨rfl, rfl⟩
    go_wp2
    go_ret
    exact ⟨rfl, rfl⟩
  · obtain rfl : r = a := by rw [← hr]; unfold oneW; rw [if_neg h1]
    have HN := Lib.hid (fun W => isNone_any r h false (decide_eq_false h1) W)
    clear h1 hr
    go_enter Try.func35, Try.ntmps35
    go_wp2_with fail
    refine (HN.out _).mono ?_
    rintro e w' ⟨rfl, rfl⟩
    go_wp2
    go_ret
    exact ⟨rfl, rfl⟩

theorem Sum_is (a b r : Nat) (h : sumW a b = r) (w : World) : Calls Try.prog 14 #[.int .u32 (a : Int), .int .u32 (b : Int)] w (Got w (.int .u32 (r : Nat))) := by
  subst h; have := Sum_any (a : Int) (b : Int) w; rwa [Int.toNat_natCast, Int.toNat_natCast] at this
theorem Rest_is (a b r : Nat) (h : restW a b = r) (w : World) : Calls Try.prog 34 #[.int .u32 (a : Int), .int .u32 (b : Int)] w (Got w (.int .u32 (r : Nat))) := by
  subst h; have := Rest_any (a : Int) (b : Int) w; rwa [Int.toNat_natCast, Int.toNat_natCast] at this
theorem Product_is (a b r : Nat) (h : productW a b = r) (w : World) : Calls Try.prog 16 #[.int .u32 (a : Int), .int .u32 (b : Int)] w (Got w (.int .u32 (r : Nat))) := by
  subst h; have := Product_any (a : Int) (b : Int) w; rwa [Int.toNat_natCast, Int.toNat_natCast] at this
theorem Ratio_is (a b r : Nat) (h : ratioW a b = r) (w : World) : Calls Try.prog 22 #[.int .u32 (a : Int), .int .u32 (b : Int)] w (Got w (.int .u32 (r : Nat))) := by
  subst h; have := Ratio_any (a : Int) (b : Int) w; rwa [Int.toNat_natCast, Int.toNat_natCast] at this
theorem Turned_is (a r : Nat) (ha : a ≤ 4294967295) (h : turnW a = r) (w : World) : Calls Try.prog 33 #[.int .u32 (a : Int)] w fun e w' => e = .returned (.int .u32 (r : Nat)) ∧ w = w' := by
  subst h; exact Turned_any a ha w
theorem Above_is (a r : Nat) (ha : a ≤ 4294967295) (h : aboveW a = r) (w : World) : Calls Try.prog 20 #[.int .u32 (a : Int)] w fun e w' => e = .returned (.int .u32 (r : Nat)) ∧ w = w' := by
  subst h; exact Above_any a ha w
theorem Below_is (a r : Nat) (ha : a ≤ 4294967295) (h : belowW a = r) (w : World) : Calls Try.prog 21 #[.int .u32 (a : Int)] w fun e w' => e = .returned (.int .u32 (r : Nat)) ∧ w = w' := by
  subst h; exact Below_any a ha w
theorem Stand_is (a b s : Nat) (h : sideOf (single.order a b) = s) (w : World) : Calls Try.prog 15 #[.int .u32 (a : Int), .int .u32 (b : Int)] w fun e w' => e = .returned (.int .u8 (s : Nat)) ∧ w = w' := by
  subst h; have := Stand_any (a : Int) (b : Int) w; rwa [Int.toNat_natCast, Int.toNat_natCast] at this

theorem res_lt (o : Option Datum) : (o.map single.write).getD oneNaN ≤ 4294967295 := by
  cases o with
  | none => show oneNaN ≤ _; decide
  | some d => have := single.write_lt d; exact Nat.le_of_lt_succ this
theorem sumW_le (a b : Nat) : sumW a b ≤ 4294967295 := res_lt _
theorem restW_le (a b : Nat) : restW a b ≤ 4294967295 := res_lt _
theorem productW_le (a b : Nat) : productW a b ≤ 4294967295 := res_lt _
theorem ratioW_le (a b : Nat) : ratioW a b ≤ 4294967295 := res_lt _

theorem below_drewN {B : Nat} {a w : World} (h : Below B a w) (n : Nat) : Below B a (w.drewN n) := ⟨h.os, h.tape, h.output, h.size, h.block⟩
theorem ret_eq {v u : Value} (h : v = u) : Ending.returned v = .returned u := by rw [h]
end Go.Proofs.Ytllchfdddfmjbaa
