/- Contract of the program's Stand. -/
import Derived.Test.YtllchfdddfmjbaaOrd
namespace Go.Proofs.Ytllchfdddfmjbaa
open Go.RowKit Ieee

theorem Stand_none (a b : Int) (w : World) (h : single.order a.toNat b.toNat = none) : Calls Try.prog 15 #[.int .u32 a, .int .u32 b] w fun e w' => e = .returned (.int .u8 1) ∧ w = w' := by
  have h1 : (FloatKind.f32.format.order a.toNat b.toNat == some .lt) = false := by rw [show FloatKind.f32.format = single from rfl, h]; rfl
  have h2 : (FloatKind.f32.format.order a.toNat b.toNat == some .gt) = false := by rw [show FloatKind.f32.format = single from rfl, h]; rfl
  have h3 : (FloatKind.f32.format.order a.toNat b.toNat == some .eq) = false := by rw [show FloatKind.f32.format = single from rfl, h]; rfl
  clear h
  go_enter Try.func15, Try.ntmps15
  go_wp2_with (go_at_call 40; refine (number_any _ _).mono ?_; rintro e w' ⟨rfl, rfl⟩)
  go_ret
  exact ⟨rfl, rfl⟩

theorem Stand_lt (a b : Int) (w : World) (h : single.order a.toNat b.toNat = some .lt) : Calls Try.prog 15 #[.int .u32 a, .int .u32 b] w fun e w' => e = .returned (.int .u8 2) ∧ w = w' := by
  have h1 : (FloatKind.f32.format.order a.toNat b.toNat == some .lt) = true := by rw [show FloatKind.f32.format = single from rfl, h]; rfl
  have h2 : (FloatKind.f32.format.order a.toNat b.toNat == some .gt) = false := by rw [show FloatKind.f32.format = single from rfl, h]; rfl
  have h3 : (FloatKind.f32.format.order a.toNat b.toNat == some .eq) = false := by rw [show FloatKind.f32.format = single from rfl, h]; rfl
  clear h
  go_enter Try.func15, Try.ntmps15
  go_wp2_with (go_at_call 40; refine (number_any _ _).mono ?_; rintro e w' ⟨rfl, rfl⟩)
  go_ret
  exact ⟨rfl, rfl⟩

theorem Stand_eq (a b : Int) (w : World) (h : single.order a.toNat b.toNat = some .eq) : Calls Try.prog 15 #[.int .u32 a, .int .u32 b] w fun e w' => e = .returned (.int .u8 3) ∧ w = w' := by
  have h1 : (FloatKind.f32.format.order a.toNat b.toNat == some .lt) = false := by rw [show FloatKind.f32.format = single from rfl, h]; rfl
  have h2 : (FloatKind.f32.format.order a.toNat b.toNat == some .gt) = false := by rw [show FloatKind.f32.format = single from rfl, h]; rfl
  have h3 : (FloatKind.f32.format.order a.toNat b.toNat == some .eq) = true := by rw [show FloatKind.f32.format = single from rfl, h]; rfl
  clear h
  go_enter Try.func15, Try.ntmps15
  go_wp2_with (go_at_call 40; refine (number_any _ _).mono ?_; rintro e w' ⟨rfl, rfl⟩)
  go_ret
  exact ⟨rfl, rfl⟩

theorem Stand_gt (a b : Int) (w : World) (h : single.order a.toNat b.toNat = some .gt) : Calls Try.prog 15 #[.int .u32 a, .int .u32 b] w fun e w' => e = .returned (.int .u8 4) ∧ w = w' := by
  have h1 : (FloatKind.f32.format.order a.toNat b.toNat == some .lt) = false := by rw [show FloatKind.f32.format = single from rfl, h]; rfl
  have h2 : (FloatKind.f32.format.order a.toNat b.toNat == some .gt) = true := by rw [show FloatKind.f32.format = single from rfl, h]; rfl
  have h3 : (FloatKind.f32.format.order a.toNat b.toNat == some .eq) = false := by rw [show FloatKind.f32.format = single from rfl, h]; rfl
  clear h
  go_enter Try.func15, Try.ntmps15
  go_wp2_with (go_at_call 40; refine (number_any _ _).mono ?_; rintro e w' ⟨rfl, rfl⟩)
  go_ret
  exact ⟨rfl, rfl⟩

theorem Stand_any (a b : Int) (w : World) : Calls Try.prog 15 #[.int .u32 a, .int .u32 b] w fun e w' => e = .returned (.int .u8 (sideOf (single.order a.toNat b.toNat) : Nat)) ∧ w = w' := by
  cases h : single.order a.toNat b.toNat with
  | none => exact Stand_none a b w h
  | some o => cases o with
    | lt => exact Stand_lt a b w h
    | eq => exact Stand_eq a b w h
    | gt => exact Stand_gt a b w h
end Go.Proofs.Ytllchfdddfmjbaa
