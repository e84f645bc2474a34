/- Contracts of package alu's Swapped and Opposite (printed by a program of ours). -/
import Derived.Test.YtfgbjaejkfkmmaaAluB
namespace Go.Proofs.Ytfgbjaejkfkmmaa
open Go.RowKit Ieee

theorem swap_13 (w : World) : Calls Try.prog 17 #[.int .u8 13] w fun e w' => e = .returned (.tuple #[.int .u8 13, .int .i64 0]) ∧ w = w' := by
  go_enter Try.func17, Try.ntmps17
  go_wp2
  go_ret2
  exact ⟨rfl, rfl⟩
theorem oppo_13 (w : World) : Calls Try.prog 19 #[.int .u8 13] w fun e w' => e = .returned (.tuple #[.int .u8 14, .int .i64 0]) ∧ w = w' := by
  go_enter Try.func19, Try.ntmps19
  go_wp2
  go_ret2
  exact ⟨rfl, rfl⟩

theorem swap_14 (w : World) : Calls Try.prog 17 #[.int .u8 14] w fun e w' => e = .returned (.tuple #[.int .u8 14, .int .i64 0]) ∧ w = w' := by
  go_enter Try.func17, Try.ntmps17
  go_wp2
  go_ret2
  exact ⟨rfl, rfl⟩
theorem oppo_14 (w : World) : Calls Try.prog 19 #[.int .u8 14] w fun e w' => e = .returned (.tuple #[.int .u8 13, .int .i64 0]) ∧ w = w' := by
  go_enter Try.func19, Try.ntmps19
  go_wp2
  go_ret2
  exact ⟨rfl, rfl⟩

theorem swap_15 (w : World) : Calls Try.prog 17 #[.int .u8 15] w fun e w' => e = .returned (.tuple #[.int .u8 17, .int .i64 0]) ∧ w = w' := by
  go_enter Try.func17, Try.ntmps17
  go_wp2
  go_ret2
  exact ⟨rfl, rfl⟩
theorem oppo_15 (w : World) : Calls Try.prog 19 #[.int .u8 15] w fun e w' => e = .returned (.tuple #[.int .u8 18, .int .i64 0]) ∧ w = w' := by
  go_enter Try.func19, Try.ntmps19
  go_wp2
  go_ret2
  exact ⟨rfl, rfl⟩

theorem swap_16 (w : World) : Calls Try.prog 17 #[.int .u8 16] w fun e w' => e = .returned (.tuple #[.int .u8 18, .int .i64 0]) ∧ w = w' := by
  go_enter Try.func17, Try.ntmps17
  go_wp2
  go_ret2
  exact ⟨rfl, rfl⟩
theorem oppo_16 (w : World) : Calls Try.prog 19 #[.int .u8 16] w fun e w' => e = .returned (.tuple #[.int .u8 17, .int .i64 0]) ∧ w = w' := by
  go_enter Try.func19, Try.ntmps19
  go_wp2
  go_ret2
  exact ⟨rfl, rfl⟩

theorem swap_17 (w : World) : Calls Try.prog 17 #[.int .u8 17] w fun e w' => e = .returned (.tuple #[.int .u8 15, .int .i64 0]) ∧ w = w' := by
  go_enter Try.func17, Try.ntmps17
  go_wp2
  go_ret2
  exact ⟨rfl, rfl⟩
theorem oppo_17 (w : World) : Calls Try.prog 19 #[.int .u8 17] w fun e w' => e = .returned (.tuple #[.int .u8 16, .int .i64 0]) ∧ w = w' := by
  go_enter Try.func19, Try.ntmps19
  go_wp2
  go_ret2
  exact ⟨rfl, rfl⟩

theorem swap_18 (w : World) : Calls Try.prog 17 #[.int .u8 18] w fun e w' => e = .returned (.tuple #[.int .u8 16, .int .i64 0]) ∧ w = w' := by
  go_enter Try.func17, Try.ntmps17
  go_wp2
  go_ret2
  exact ⟨rfl, rfl⟩
theorem oppo_18 (w : World) : Calls Try.prog 19 #[.int .u8 18] w fun e w' => e = .returned (.tuple #[.int .u8 15, .int .i64 0]) ∧ w = w' := by
  go_enter Try.func19, Try.ntmps19
  go_wp2
  go_ret2
  exact ⟨rfl, rfl⟩

theorem swap_19 (w : World) : Calls Try.prog 17 #[.int .u8 19] w fun e w' => e = .returned (.tuple #[.int .u8 21, .int .i64 0]) ∧ w = w' := by
  go_enter Try.func17, Try.ntmps17
  go_wp2
  go_ret2
  exact ⟨rfl, rfl⟩
theorem oppo_19 (w : World) : Calls Try.prog 19 #[.int .u8 19] w fun e w' => e = .returned (.tuple #[.int .u8 22, .int .i64 0]) ∧ w = w' := by
  go_enter Try.func19, Try.ntmps19
  go_wp2
  go_ret2
  exact ⟨rfl, rfl⟩

theorem swap_20 (w : World) : Calls Try.prog 17 #[.int .u8 20] w fun e w' => e = .returned (.tuple #[.int .u8 22, .int .i64 0]) ∧ w = w' := by
  go_enter Try.func17, Try.ntmps17
  go_wp2
  go_ret2
  exact ⟨rfl, rfl⟩
theorem oppo_20 (w : World) : Calls Try.prog 19 #[.int .u8 20] w fun e w' => e = .returned (.tuple #[.int .u8 21, .int .i64 0]) ∧ w = w' := by
  go_enter Try.func19, Try.ntmps19
  go_wp2
  go_ret2
  exact ⟨rfl, rfl⟩

theorem swap_21 (w : World) : Calls Try.prog 17 #[.int .u8 21] w fun e w' => e = .returned (.tuple #[.int .u8 19, .int .i64 0]) ∧ w = w' := by
  go_enter Try.func17, Try.ntmps17
  go_wp2
  go_ret2
  exact ⟨rfl, rfl⟩
theorem oppo_21 (w : World) : Calls Try.prog 19 #[.int .u8 21] w fun e w' => e = .returned (.tuple #[.int .u8 20, .int .i64 0]) ∧ w = w' := by
  go_enter Try.func19, Try.ntmps19
  go_wp2
  go_ret2
  exact ⟨rfl, rfl⟩

theorem swap_22 (w : World) : Calls Try.prog 17 #[.int .u8 22] w fun e w' => e = .returned (.tuple #[.int .u8 20, .int .i64 0]) ∧ w = w' := by
  go_enter Try.func17, Try.ntmps17
  go_wp2
  go_ret2
  exact ⟨rfl, rfl⟩
theorem oppo_22 (w : World) : Calls Try.prog 19 #[.int .u8 22] w fun e w' => e = .returned (.tuple #[.int .u8 19, .int .i64 0]) ∧ w = w' := by
  go_enter Try.func19, Try.ntmps19
  go_wp2
  go_ret2
  exact ⟨rfl, rfl⟩

theorem swap_23 (w : World) : Calls Try.prog 17 #[.int .u8 23] w fun e w' => e = .returned (.tuple #[.int .u8 23, .int .i64 0]) ∧ w = w' := by
  go_enter Try.func17, Try.ntmps17
  go_wp2
  go_ret2
  exact ⟨rfl, rfl⟩
theorem oppo_23 (w : World) : Calls Try.prog 19 #[.int .u8 23] w fun e w' => e = .returned (.tuple #[.int .u8 24, .int .i64 0]) ∧ w = w' := by
  go_enter Try.func19, Try.ntmps19
  go_wp2
  go_ret2
  exact ⟨rfl, rfl⟩

theorem swap_24 (w : World) : Calls Try.prog 17 #[.int .u8 24] w fun e w' => e = .returned (.tuple #[.int .u8 24, .int .i64 0]) ∧ w = w' := by
  go_enter Try.func17, Try.ntmps17
  go_wp2
  go_ret2
  exact ⟨rfl, rfl⟩
theorem oppo_24 (w : World) : Calls Try.prog 19 #[.int .u8 24] w fun e w' => e = .returned (.tuple #[.int .u8 23, .int .i64 0]) ∧ w = w' := by
  go_enter Try.func19, Try.ntmps19
  go_wp2
  go_ret2
  exact ⟨rfl, rfl⟩

theorem swap_25 (w : World) : Calls Try.prog 17 #[.int .u8 25] w fun e w' => e = .returned (.tuple #[.int .u8 27, .int .i64 0]) ∧ w = w' := by
  go_enter Try.func17, Try.ntmps17
  go_wp2
  go_ret2
  exact ⟨rfl, rfl⟩
theorem oppo_25 (w : World) : Calls Try.prog 19 #[.int .u8 25] w fun e w' => e = .returned (.tuple #[.int .u8 0, .int .i64 62]) ∧ w = w' := by
  go_enter Try.func19, Try.ntmps19
  go_wp2
  go_ret2
  exact ⟨rfl, rfl⟩

theorem swap_26 (w : World) : Calls Try.prog 17 #[.int .u8 26] w fun e w' => e = .returned (.tuple #[.int .u8 28, .int .i64 0]) ∧ w = w' := by
  go_enter Try.func17, Try.ntmps17
  go_wp2
  go_ret2
  exact ⟨rfl, rfl⟩
theorem oppo_26 (w : World) : Calls Try.prog 19 #[.int .u8 26] w fun e w' => e = .returned (.tuple #[.int .u8 0, .int .i64 62]) ∧ w = w' := by
  go_enter Try.func19, Try.ntmps19
  go_wp2
  go_ret2
  exact ⟨rfl, rfl⟩

theorem swap_27 (w : World) : Calls Try.prog 17 #[.int .u8 27] w fun e w' => e = .returned (.tuple #[.int .u8 25, .int .i64 0]) ∧ w = w' := by
  go_enter Try.func17, Try.ntmps17
  go_wp2
  go_ret2
  exact ⟨rfl, rfl⟩
theorem oppo_27 (w : World) : Calls Try.prog 19 #[.int .u8 27] w fun e w' => e = .returned (.tuple #[.int .u8 0, .int .i64 62]) ∧ w = w' := by
  go_enter Try.func19, Try.ntmps19
  go_wp2
  go_ret2
  exact ⟨rfl, rfl⟩

theorem swap_28 (w : World) : Calls Try.prog 17 #[.int .u8 28] w fun e w' => e = .returned (.tuple #[.int .u8 26, .int .i64 0]) ∧ w = w' := by
  go_enter Try.func17, Try.ntmps17
  go_wp2
  go_ret2
  exact ⟨rfl, rfl⟩
theorem oppo_28 (w : World) : Calls Try.prog 19 #[.int .u8 28] w fun e w' => e = .returned (.tuple #[.int .u8 0, .int .i64 62]) ∧ w = w' := by
  go_enter Try.func19, Try.ntmps19
  go_wp2
  go_ret2
  exact ⟨rfl, rfl⟩

theorem swap_other (op : Int) (h13 : ((op : Int) == 13) = false) (h14 : ((op : Int) == 14) = false) (h15 : ((op : Int) == 15) = false) (h16 : ((op : Int) == 16) = false) (h17 : ((op : Int) == 17) = false) (h18 : ((op : Int) == 18) = false) (h19 : ((op : Int) == 19) = false) (h20 : ((op : Int) == 20) = false) (h21 : ((op : Int) == 21) = false) (h22 : ((op : Int) == 22) = false) (h23 : ((op : Int) == 23) = false) (h24 : ((op : Int) == 24) = false) (h25 : ((op : Int) == 25) = false) (h26 : ((op : Int) == 26) = false) (h27 : ((op : Int) == 27) = false) (h28 : ((op : Int) == 28) = false) (w : World) : Calls Try.prog 17 #[.int .u8 op] w fun e w' => e = .returned (.tuple #[.int .u8 0, .int .i64 61]) ∧ w = w' := by
  go_enter Try.func17, Try.ntmps17
  go_wp2
  go_ret2
  exact ⟨rfl, rfl⟩

theorem oppo_other (op : Int) (h13 : ((op : Int) == 13) = false) (h14 : ((op : Int) == 14) = false) (h15 : ((op : Int) == 15) = false) (h16 : ((op : Int) == 16) = false) (h17 : ((op : Int) == 17) = false) (h18 : ((op : Int) == 18) = false) (h19 : ((op : Int) == 19) = false) (h20 : ((op : Int) == 20) = false) (h21 : ((op : Int) == 21) = false) (h22 : ((op : Int) == 22) = false) (h23 : ((op : Int) == 23) = false) (h24 : ((op : Int) == 24) = false) (h25 : ((op : Int) == 25) = false) (h26 : ((op : Int) == 26) = false) (h27 : ((op : Int) == 27) = false) (h28 : ((op : Int) == 28) = false) (w : World) : Calls Try.prog 19 #[.int .u8 op] w fun e w' => e = .returned (.tuple #[.int .u8 0, .int .i64 61]) ∧ w = w' := by
  go_enter Try.func19, Try.ntmps19
  go_wp2
  go_ret2
  exact ⟨rfl, rfl⟩
end Go.Proofs.Ytfgbjaejkfkmmaa
