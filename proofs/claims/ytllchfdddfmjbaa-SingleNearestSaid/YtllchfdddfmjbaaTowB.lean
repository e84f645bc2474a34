/- Contract of the program's Toward. -/
import Derived.Test.YtllchfdddfmjbaaTowPB
namespace Go.Proofs.Ytllchfdddfmjbaa
open Go.RowKit Ieee

set_option maxHeartbeats 1000000 in
theorem tow_nan (a : Int) (w : World) (h : (single.order a.toNat a.toNat != some .eq) = true) : Calls Try.prog 12 #[.int .u32 a] w fun e w' => e = .returned (.int .i32 0) ∧ w = w' := by
  have hx : (FloatKind.f32.format.order a.toNat a.toNat != some .eq) = true := h
  clear h
  go_enter Try.func12, Try.ntmps12
  go_wp2_with fail
  refine (number_any _ _).mono ?_
  rintro e w' ⟨rfl, rfl⟩
  go_wp2
  go_ret
  exact ⟨rfl, rfl⟩

set_option maxHeartbeats 1000000 in
theorem tow_max (a : Int) (w : World) (h : (single.order a.toNat a.toNat != some .eq) = false) (h1 : (single.order a.toNat 1325400064 == some .gt || single.order a.toNat 1325400064 == some .eq) = true) :
    Calls Try.prog 12 #[.int .u32 a] w fun e w' => e = .returned (.int .i32 2147483647) ∧ w = w' := by
  have hx : (FloatKind.f32.format.order a.toNat a.toNat != some .eq) = false := h
  have hx1 : (FloatKind.f32.format.order a.toNat 1325400064 == some .gt || FloatKind.f32.format.order a.toNat 1325400064 == some .eq) = true := h1
  clear h h1
  go_enter Try.func12, Try.ntmps12
  go_wp2_with fail
  refine (number_any _ _).mono ?_
  rintro e w' ⟨rfl, rfl⟩
  go_wp2
  go_ret
  exact ⟨rfl, rfl⟩

set_option maxHeartbeats 1000000 in
theorem tow_min (a : Int) (w : World) (h : (single.order a.toNat a.toNat != some .eq) = false) (h1 : (single.order a.toNat 1325400064 == some .gt || single.order a.toNat 1325400064 == some .eq) = false)
    (h2 : (single.order a.toNat 3472883712 == some .lt) = true) :
    Calls Try.prog 12 #[.int .u32 a] w fun e w' => e = .returned (.int .i32 (-2147483648)) ∧ w = w' := by
  have hx : (FloatKind.f32.format.order a.toNat a.toNat != some .eq) = false := h
  have hx1 : (FloatKind.f32.format.order a.toNat 1325400064 == some .gt || FloatKind.f32.format.order a.toNat 1325400064 == some .eq) = false := h1
  have hx2 : (FloatKind.f32.format.order a.toNat 3472883712 == some .lt) = true := h2
  clear h h1 h2
  go_enter Try.func12, Try.ntmps12
  go_wp2_with fail
  refine (number_any _ _).mono ?_
  rintro e w' ⟨rfl, rfl⟩
  go_wp2
  go_ret
  exact ⟨rfl, rfl⟩

set_option maxHeartbeats 1000000 in
theorem tow_in (a n : Int) (w : World) (h : (single.order a.toNat a.toNat != some .eq) = false) (h1 : (single.order a.toNat 1325400064 == some .gt || single.order a.toNat 1325400064 == some .eq) = false)
    (h2 : (single.order a.toNat 3472883712 == some .lt) = false) (h3 : floatToIntVal .f32 a.toNat .i32 = some n) :
    Calls Try.prog 12 #[.int .u32 a] w fun e w' => e = .returned (.int .i32 n) ∧ w = w' := by
  have hx : (FloatKind.f32.format.order a.toNat a.toNat != some .eq) = false := h
  have hx1 : (FloatKind.f32.format.order a.toNat 1325400064 == some .gt || FloatKind.f32.format.order a.toNat 1325400064 == some .eq) = false := h1
  have hx2 : (FloatKind.f32.format.order a.toNat 3472883712 == some .lt) = false := h2
  have hr := fun (W : World) => run_convert_float_int (P := Try.prog) (w := W) 54 21 .f32 .i32 a.toNat n rfl rfl h3
  clear h h1 h2 h3
  go_enter Try.func12, Try.ntmps12
  go_wp2_with fail
  refine (number_any _ _).mono ?_
  rintro e w' ⟨rfl, rfl⟩
  go_wp2
  go_ret
  exact ⟨rfl, rfl⟩

theorem order_endless_max (s : Bool) (a : Nat) (h : single.read a = .infinity s) : (single.order a 1325400064 == some .gt || single.order a 1325400064 == some .eq) = !s := by
  unfold Format.order; rw [h, read_great]; cases s <;> rfl
theorem order_endless_min (s : Bool) (a : Nat) (h : single.read a = .infinity s) : (single.order a 3472883712 == some .lt) = s := by
  unfold Format.order; rw [h, read_small]; cases s <;> rfl

theorem calls_int {f : Nat} {a : Int} {w : World} {x y : Int} (h : Calls Try.prog f #[.int .u32 a] w fun e w' => e = .returned (.int .i32 x) ∧ w = w') (e : x = y) : Calls Try.prog f #[.int .u32 a] w fun e w' => e = .returned (.int .i32 y) ∧ w = w' := e ▸ h

theorem Toward_any (a : Int) (w : World) (hc : ∀ s m p, single.read a.toNat = .number s m p → m < 16777216) :
    Calls Try.prog 12 #[.int .u32 a] w fun e w' => e = .returned (.int .i32 (towD (single.read a.toNat))) ∧ w = w' := by
  have ho := order_self single a.toNat
  cases hd : single.read a.toNat with
  | nan s t =>
    rw [hd] at ho
    exact tow_nan a w (by rw [ho]; rfl)
  | infinity s =>
    rw [hd] at ho
    have hx : (single.order a.toNat a.toNat != some .eq) = false := by rw [ho]; rfl
    have h1 := order_endless_max s _ hd
    have h2 := order_endless_min s _ hd
    cases s
    · exact tow_max a w hx h1
    · exact tow_min a w hx h1 h2
  | number s m p =>
    rw [hd] at ho
    have hx : (single.order a.toNat a.toNat != some .eq) = false := by rw [ho]; rfl
    have hm := hc s m p hd
    have h1 := order_ge _ s m p hd hm
    have h2 := order_lt _ s m p hd hm
    have h3 := toInt_num s m p
    cases s
    · rw [show towD (.number false m p) = clampI (truncN m p) from rfl]
      unfold clampI
      rw [if_neg Bool.false_ne_true] at h3
      by_cases ht : 2147483648 ≤ truncN m p
      · rw [decide_eq_true ht] at h1
        refine calls_int (tow_max a w hx h1) ?_
        rw [if_pos (by omega)]
      · rw [decide_eq_false ht] at h1
        refine calls_int (tow_in a (truncN m p) w hx h1 h2 ?_) ?_
        · unfold floatToIntVal
          rw [show (FloatKind.f32.decode a.toNat) = Datum.number false m p from hd, h3]
          simp only
          rw [if_pos ⟨by show (-2147483648 : Int) ≤ _; omega, by show _ ≤ (2147483647 : Int); omega⟩]
        · rw [if_neg (by omega), if_neg (by omega)]
    · rw [show towD (.number true m p) = clampI (-(truncN m p : Int)) from rfl]
      unfold clampI
      rw [if_pos rfl] at h3
      by_cases ht : 2147483648 < truncN m p
      · rw [decide_eq_true ht] at h2
        refine calls_int (tow_min a w hx h1 h2) ?_
        rw [if_neg (by omega), if_pos (by omega)]
      · rw [decide_eq_false ht] at h2
        refine calls_int (tow_in a (-(truncN m p : Int)) w hx h1 h2 ?_) ?_
        · unfold floatToIntVal
          rw [show (FloatKind.f32.decode a.toNat) = Datum.number true m p from hd, h3]
          simp only
          rw [if_pos ⟨by show (-2147483648 : Int) ≤ _; omega, by show _ ≤ (2147483647 : Int); omega⟩]
        · rw [if_neg (by omega), if_neg (by omega)]
end Go.Proofs.Ytllchfdddfmjbaa
