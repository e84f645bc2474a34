/- AluTable at each operation (printed by a program of ours). -/
import Derived.Test.YtfgbjaejkfkmmaaAluP
namespace Go.Proofs.Ytfgbjaejkfkmmaa
open Go.RowKit Ieee
set_option linter.unusedVariables false

theorem nat_of_mod (x : Int) : ∃ q : Nat, x % 4294967296 = (q : Int) := Int.eq_ofNat_of_zero_le (Int.emod_nonneg _ (by decide))

set_option maxHeartbeats 1000000 in
theorem tab_13 (a b : Nat) (ha : a ≤ 4294967295) (hb : b ≤ 4294967295) (w : World) :
    Calls Try.prog 14 #[.int .u8 13, .int .u32 (a : Int), .int .u32 (b : Int)] w (Ret w (.bool true)) := by
  have c1 := Lib.hid (fun W => un_other 13 a (by decide) (by decide) (by decide) (by decide) (by decide) (by decide) (by decide) W)
  have c2 := Lib.hid (fun W => Binary_of 13 a b 0 61 (fun W => got_same (bin_other 13 a b (by decide) (by decide) (by decide) (by decide) (by decide) (by decide) (by decide) (by decide) (by decide) (by decide) (by decide) (by decide) (by decide) (by decide) (by decide) (by decide) (by decide) W)) W)
  have c3 := Lib.hid (fun W => hol_13 a b _ rfl W)
  have c4 := Lib.hid (fun W => swap_13 W)
  have c5 := Lib.hid (fun W => oppo_13 W)
  go_enter Try.func14, Try.ntmps14
  go_wp2_with fail
  refine (c1.out _).mono ?_
  rintro e w' ⟨rfl, rfl⟩
  go_wp2_with fail
  refine (c2.out _).mono ?_
  rintro e w' ⟨rfl, g⟩
  go_wp2_with fail
  refine (c3.out _).mono ?_
  rintro e w' ⟨rfl, rfl⟩
  go_wp2_with fail
  refine (c4.out _).mono ?_
  rintro e w' ⟨rfl, rfl⟩
  go_wp2_with fail
  refine (c5.out _).mono ?_
  rintro e w' ⟨rfl, rfl⟩
  go_wp2
  go_ret
  exact ⟨rfl, g⟩

set_option maxHeartbeats 1000000 in
theorem tab_14 (a b : Nat) (ha : a ≤ 4294967295) (hb : b ≤ 4294967295) (w : World) :
    Calls Try.prog 14 #[.int .u8 14, .int .u32 (a : Int), .int .u32 (b : Int)] w (Ret w (.bool true)) := by
  have c1 := Lib.hid (fun W => un_other 14 a (by decide) (by decide) (by decide) (by decide) (by decide) (by decide) (by decide) W)
  have c2 := Lib.hid (fun W => Binary_of 14 a b 0 61 (fun W => got_same (bin_other 14 a b (by decide) (by decide) (by decide) (by decide) (by decide) (by decide) (by decide) (by decide) (by decide) (by decide) (by decide) (by decide) (by decide) (by decide) (by decide) (by decide) (by decide) W)) W)
  have c3 := Lib.hid (fun W => hol_14 a b _ rfl W)
  have c4 := Lib.hid (fun W => swap_14 W)
  have c5 := Lib.hid (fun W => oppo_14 W)
  go_enter Try.func14, Try.ntmps14
  go_wp2_with fail
  refine (c1.out _).mono ?_
  rintro e w' ⟨rfl, rfl⟩
  go_wp2_with fail
  refine (c2.out _).mono ?_
  rintro e w' ⟨rfl, g⟩
  go_wp2_with fail
  refine (c3.out _).mono ?_
  rintro e w' ⟨rfl, rfl⟩
  go_wp2_with fail
  refine (c4.out _).mono ?_
  rintro e w' ⟨rfl, rfl⟩
  go_wp2_with fail
  refine (c5.out _).mono ?_
  rintro e w' ⟨rfl, rfl⟩
  go_wp2
  go_ret
  exact ⟨rfl, g⟩

set_option maxHeartbeats 1000000 in
theorem tab_15 (a b : Nat) (ha : a ≤ 4294967295) (hb : b ≤ 4294967295) (w : World) :
    Calls Try.prog 14 #[.int .u8 15, .int .u32 (a : Int), .int .u32 (b : Int)] w (Ret w (.bool true)) := by
  have c1 := Lib.hid (fun W => un_other 15 a (by decide) (by decide) (by decide) (by decide) (by decide) (by decide) (by decide) W)
  have c2 := Lib.hid (fun W => Binary_of 15 a b 0 61 (fun W => got_same (bin_other 15 a b (by decide) (by decide) (by decide) (by decide) (by decide) (by decide) (by decide) (by decide) (by decide) (by decide) (by decide) (by decide) (by decide) (by decide) (by decide) (by decide) (by decide) W)) W)
  have c3 := Lib.hid (fun W => hol_15 a b _ rfl W)
  have c4 := Lib.hid (fun W => swap_15 W)
  have c5 := Lib.hid (fun W => oppo_15 W)
  go_enter Try.func14, Try.ntmps14
  go_wp2_with fail
  refine (c1.out _).mono ?_
  rintro e w' ⟨rfl, rfl⟩
  go_wp2_with fail
  refine (c2.out _).mono ?_
  rintro e w' ⟨rfl, g⟩
  go_wp2_with fail
  refine (c3.out _).mono ?_
  rintro e w' ⟨rfl, rfl⟩
  go_wp2_with fail
  refine (c4.out _).mono ?_
  rintro e w' ⟨rfl, rfl⟩
  go_wp2_with fail
  refine (c5.out _).mono ?_
  rintro e w' ⟨rfl, rfl⟩
  go_wp2
  go_ret
  exact ⟨rfl, g⟩

set_option maxHeartbeats 1000000 in
theorem tab_16 (a b : Nat) (ha : a ≤ 4294967295) (hb : b ≤ 4294967295) (w : World) :
    Calls Try.prog 14 #[.int .u8 16, .int .u32 (a : Int), .int .u32 (b : Int)] w (Ret w (.bool true)) := by
  have c1 := Lib.hid (fun W => un_other 16 a (by decide) (by decide) (by decide) (by decide) (by decide) (by decide) (by decide) W)
  have c2 := Lib.hid (fun W => Binary_of 16 a b 0 61 (fun W => got_same (bin_other 16 a b (by decide) (by decide) (by decide) (by decide) (by decide) (by decide) (by decide) (by decide) (by decide) (by decide) (by decide) (by decide) (by decide) (by decide) (by decide) (by decide) (by decide) W)) W)
  have c3 := Lib.hid (fun W => hol_16 a b _ rfl W)
  have c4 := Lib.hid (fun W => swap_16 W)
  have c5 := Lib.hid (fun W => oppo_16 W)
  go_enter Try.func14, Try.ntmps14
  go_wp2_with fail
  refine (c1.out _).mono ?_
  rintro e w' ⟨rfl, rfl⟩
  go_wp2_with fail
  refine (c2.out _).mono ?_
  rintro e w' ⟨rfl, g⟩
  go_wp2_with fail
  refine (c3.out _).mono ?_
  rintro e w' ⟨rfl, rfl⟩
  go_wp2_with fail
  refine (c4.out _).mono ?_
  rintro e w' ⟨rfl, rfl⟩
  go_wp2_with fail
  refine (c5.out _).mono ?_
  rintro e w' ⟨rfl, rfl⟩
  go_wp2
  go_ret
  exact ⟨rfl, g⟩

set_option maxHeartbeats 1000000 in
theorem tab_17 (a b : Nat) (ha : a ≤ 4294967295) (hb : b ≤ 4294967295) (w : World) :
    Calls Try.prog 14 #[.int .u8 17, .int .u32 (a : Int), .int .u32 (b : Int)] w (Ret w (.bool true)) := by
  have c1 := Lib.hid (fun W => un_other 17 a (by decide) (by decide) (by decide) (by decide) (by decide) (by decide) (by decide) W)
  have c2 := Lib.hid (fun W => Binary_of 17 a b 0 61 (fun W => got_same (bin_other 17 a b (by decide) (by decide) (by decide) (by decide) (by decide) (by decide) (by decide) (by decide) (by decide) (by decide) (by decide) (by decide) (by decide) (by decide) (by decide) (by decide) (by decide) W)) W)
  have c3 := Lib.hid (fun W => hol_17 a b _ rfl W)
  have c4 := Lib.hid (fun W => swap_17 W)
  have c5 := Lib.hid (fun W => oppo_17 W)
  go_enter Try.func14, Try.ntmps14
  go_wp2_with fail
  refine (c1.out _).mono ?_
  rintro e w' ⟨rfl, rfl⟩
  go_wp2_with fail
  refine (c2.out _).mono ?_
  rintro e w' ⟨rfl, g⟩
  go_wp2_with fail
  refine (c3.out _).mono ?_
  rintro e w' ⟨rfl, rfl⟩
  go_wp2_with fail
  refine (c4.out _).mono ?_
  rintro e w' ⟨rfl, rfl⟩
  go_wp2_with fail
  refine (c5.out _).mono ?_
  rintro e w' ⟨rfl, rfl⟩
  go_wp2
  go_ret
  exact ⟨rfl, g⟩

set_option maxHeartbeats 1000000 in
theorem tab_18 (a b : Nat) (ha : a ≤ 4294967295) (hb : b ≤ 4294967295) (w : World) :
    Calls Try.prog 14 #[.int .u8 18, .int .u32 (a : Int), .int .u32 (b : Int)] w (Ret w (.bool true)) := by
  have c1 := Lib.hid (fun W => un_other 18 a (by decide) (by decide) (by decide) (by decide) (by decide) (by decide) (by decide) W)
  have c2 := Lib.hid (fun W => Binary_of 18 a b 0 61 (fun W => got_same (bin_other 18 a b (by decide) (by decide) (by decide) (by decide) (by decide) (by decide) (by decide) (by decide) (by decide) (by decide) (by decide) (by decide) (by decide) (by decide) (by decide) (by decide) (by decide) W)) W)
  have c3 := Lib.hid (fun W => hol_18 a b _ rfl W)
  have c4 := Lib.hid (fun W => swap_18 W)
  have c5 := Lib.hid (fun W => oppo_18 W)
  go_enter Try.func14, Try.ntmps14
  go_wp2_with fail
  refine (c1.out _).mono ?_
  rintro e w' ⟨rfl, rfl⟩
  go_wp2_with fail
  refine (c2.out _).mono ?_
  rintro e w' ⟨rfl, g⟩
  go_wp2_with fail
  refine (c3.out _).mono ?_
  rintro e w' ⟨rfl, rfl⟩
  go_wp2_with fail
  refine (c4.out _).mono ?_
  rintro e w' ⟨rfl, rfl⟩
  go_wp2_with fail
  refine (c5.out _).mono ?_
  rintro e w' ⟨rfl, rfl⟩
  go_wp2
  go_ret
  exact ⟨rfl, g⟩

set_option maxHeartbeats 1000000 in
theorem tab_19 (a b : Nat) (ha : a ≤ 4294967295) (hb : b ≤ 4294967295) (w : World) :
    Calls Try.prog 14 #[.int .u8 19, .int .u32 (a : Int), .int .u32 (b : Int)] w (Ret w (.bool true)) := by
  have c1 := Lib.hid (fun W => un_other 19 a (by decide) (by decide) (by decide) (by decide) (by decide) (by decide) (by decide) W)
  have c2 := Lib.hid (fun W => Binary_of 19 a b 0 61 (fun W => got_same (bin_other 19 a b (by decide) (by decide) (by decide) (by decide) (by decide) (by decide) (by decide) (by decide) (by decide) (by decide) (by decide) (by decide) (by decide) (by decide) (by decide) (by decide) (by decide) W)) W)
  have c3 := Lib.hid (fun W => hol_19 a b _ rfl W)
  have c4 := Lib.hid (fun W => swap_19 W)
  have c5 := Lib.hid (fun W => oppo_19 W)
  go_enter Try.func14, Try.ntmps14
  go_wp2_with fail
  refine (c1.out _).mono ?_
  rintro e w' ⟨rfl, rfl⟩
  go_wp2_with fail
  refine (c2.out _).mono ?_
  rintro e w' ⟨rfl, g⟩
  go_wp2_with fail
  refine (c3.out _).mono ?_
  rintro e w' ⟨rfl, rfl⟩
  go_wp2_with fail
  refine (c4.out _).mono ?_
  rintro e w' ⟨rfl, rfl⟩
  go_wp2_with fail
  refine (c5.out _).mono ?_
  rintro e w' ⟨rfl, rfl⟩
  go_wp2
  go_ret
  exact ⟨rfl, g⟩

set_option maxHeartbeats 1000000 in
theorem tab_20 (a b : Nat) (ha : a ≤ 4294967295) (hb : b ≤ 4294967295) (w : World) :
    Calls Try.prog 14 #[.int .u8 20, .int .u32 (a : Int), .int .u32 (b : Int)] w (Ret w (.bool true)) := by
  have c1 := Lib.hid (fun W => un_other 20 a (by decide) (by decide) (by decide) (by decide) (by decide) (by decide) (by decide) W)
  have c2 := Lib.hid (fun W => Binary_of 20 a b 0 61 (fun W => got_same (bin_other 20 a b (by decide) (by decide) (by decide) (by decide) (by decide) (by decide) (by decide) (by decide) (by decide) (by decide) (by decide) (by decide) (by decide) (by decide) (by decide) (by decide) (by decide) W)) W)
  have c3 := Lib.hid (fun W => hol_20 a b _ rfl W)
  have c4 := Lib.hid (fun W => swap_20 W)
  have c5 := Lib.hid (fun W => oppo_20 W)
  go_enter Try.func14, Try.ntmps14
  go_wp2_with fail
  refine (c1.out _).mono ?_
  rintro e w' ⟨rfl, rfl⟩
  go_wp2_with fail
  refine (c2.out _).mono ?_
  rintro e w' ⟨rfl, g⟩
  go_wp2_with fail
  refine (c3.out _).mono ?_
  rintro e w' ⟨rfl, rfl⟩
  go_wp2_with fail
  refine (c4.out _).mono ?_
  rintro e w' ⟨rfl, rfl⟩
  go_wp2_with fail
  refine (c5.out _).mono ?_
  rintro e w' ⟨rfl, rfl⟩
  go_wp2
  go_ret
  exact ⟨rfl, g⟩

set_option maxHeartbeats 1000000 in
theorem tab_21 (a b : Nat) (ha : a ≤ 4294967295) (hb : b ≤ 4294967295) (w : World) :
    Calls Try.prog 14 #[.int .u8 21, .int .u32 (a : Int), .int .u32 (b : Int)] w (Ret w (.bool true)) := by
  have c1 := Lib.hid (fun W => un_other 21 a (by decide) (by decide) (by decide) (by decide) (by decide) (by decide) (by decide) W)
  have c2 := Lib.hid (fun W => Binary_of 21 a b 0 61 (fun W => got_same (bin_other 21 a b (by decide) (by decide) (by decide) (by decide) (by decide) (by decide) (by decide) (by decide) (by decide) (by decide) (by decide) (by decide) (by decide) (by decide) (by decide) (by decide) (by decide) W)) W)
  have c3 := Lib.hid (fun W => hol_21 a b _ rfl W)
  have c4 := Lib.hid (fun W => swap_21 W)
  have c5 := Lib.hid (fun W => oppo_21 W)
  go_enter Try.func14, Try.ntmps14
  go_wp2_with fail
  refine (c1.out _).mono ?_
  rintro e w' ⟨rfl, rfl⟩
  go_wp2_with fail
  refine (c2.out _).mono ?_
  rintro e w' ⟨rfl, g⟩
  go_wp2_with fail
  refine (c3.out _).mono ?_
  rintro e w' ⟨rfl, rfl⟩
  go_wp2_with fail
  refine (c4.out _).mono ?_
  rintro e w' ⟨rfl, rfl⟩
  go_wp2_with fail
  refine (c5.out _).mono ?_
  rintro e w' ⟨rfl, rfl⟩
  go_wp2
  go_ret
  exact ⟨rfl, g⟩

set_option maxHeartbeats 1000000 in
theorem tab_22 (a b : Nat) (ha : a ≤ 4294967295) (hb : b ≤ 4294967295) (w : World) :
    Calls Try.prog 14 #[.int .u8 22, .int .u32 (a : Int), .int .u32 (b : Int)] w (Ret w (.bool true)) := by
  have c1 := Lib.hid (fun W => un_other 22 a (by decide) (by decide) (by decide) (by decide) (by decide) (by decide) (by decide) W)
  have c2 := Lib.hid (fun W => Binary_of 22 a b 0 61 (fun W => got_same (bin_other 22 a b (by decide) (by decide) (by decide) (by decide) (by decide) (by decide) (by decide) (by decide) (by decide) (by decide) (by decide) (by decide) (by decide) (by decide) (by decide) (by decide) (by decide) W)) W)
  have c3 := Lib.hid (fun W => hol_22 a b _ rfl W)
  have c4 := Lib.hid (fun W => swap_22 W)
  have c5 := Lib.hid (fun W => oppo_22 W)
  go_enter Try.func14, Try.ntmps14
  go_wp2_with fail
  refine (c1.out _).mono ?_
  rintro e w' ⟨rfl, rfl⟩
  go_wp2_with fail
  refine (c2.out _).mono ?_
  rintro e w' ⟨rfl, g⟩
  go_wp2_with fail
  refine (c3.out _).mono ?_
  rintro e w' ⟨rfl, rfl⟩
  go_wp2_with fail
  refine (c4.out _).mono ?_
  rintro e w' ⟨rfl, rfl⟩
  go_wp2_with fail
  refine (c5.out _).mono ?_
  rintro e w' ⟨rfl, rfl⟩
  go_wp2
  go_ret
  exact ⟨rfl, g⟩

set_option maxHeartbeats 1000000 in
theorem tab_23 (a b : Nat) (ha : a ≤ 4294967295) (hb : b ≤ 4294967295) (w : World) :
    Calls Try.prog 14 #[.int .u8 23, .int .u32 (a : Int), .int .u32 (b : Int)] w (Ret w (.bool true)) := by
  have c1 := Lib.hid (fun W => un_other 23 a (by decide) (by decide) (by decide) (by decide) (by decide) (by decide) (by decide) W)
  have c2 := Lib.hid (fun W => Binary_of 23 a b 0 61 (fun W => got_same (bin_other 23 a b (by decide) (by decide) (by decide) (by decide) (by decide) (by decide) (by decide) (by decide) (by decide) (by decide) (by decide) (by decide) (by decide) (by decide) (by decide) (by decide) (by decide) W)) W)
  have c3 := Lib.hid (fun W => hol_23 a b _ rfl W)
  have c4 := Lib.hid (fun W => swap_23 W)
  have c5 := Lib.hid (fun W => oppo_23 W)
  go_enter Try.func14, Try.ntmps14
  go_wp2_with fail
  refine (c1.out _).mono ?_
  rintro e w' ⟨rfl, rfl⟩
  go_wp2_with fail
  refine (c2.out _).mono ?_
  rintro e w' ⟨rfl, g⟩
  go_wp2_with fail
  refine (c3.out _).mono ?_
  rintro e w' ⟨rfl, rfl⟩
  go_wp2_with fail
  refine (c4.out _).mono ?_
  rintro e w' ⟨rfl, rfl⟩
  go_wp2_with fail
  refine (c5.out _).mono ?_
  rintro e w' ⟨rfl, rfl⟩
  go_wp2
  go_ret
  exact ⟨rfl, g⟩

set_option maxHeartbeats 1000000 in
theorem tab_24 (a b : Nat) (ha : a ≤ 4294967295) (hb : b ≤ 4294967295) (w : World) :
    Calls Try.prog 14 #[.int .u8 24, .int .u32 (a : Int), .int .u32 (b : Int)] w (Ret w (.bool true)) := by
  have c1 := Lib.hid (fun W => un_other 24 a (by decide) (by decide) (by decide) (by decide) (by decide) (by decide) (by decide) W)
  have c2 := Lib.hid (fun W => Binary_of 24 a b 0 61 (fun W => got_same (bin_other 24 a b (by decide) (by decide) (by decide) (by decide) (by decide) (by decide) (by decide) (by decide) (by decide) (by decide) (by decide) (by decide) (by decide) (by decide) (by decide) (by decide) (by decide) W)) W)
  have c3 := Lib.hid (fun W => hol_24 a b _ rfl W)
  have c4 := Lib.hid (fun W => swap_24 W)
  have c5 := Lib.hid (fun W => oppo_24 W)
  go_enter Try.func14, Try.ntmps14
  go_wp2_with fail
  refine (c1.out _).mono ?_
  rintro e w' ⟨rfl, rfl⟩
  go_wp2_with fail
  refine (c2.out _).mono ?_
  rintro e w' ⟨rfl, g⟩
  go_wp2_with fail
  refine (c3.out _).mono ?_
  rintro e w' ⟨rfl, rfl⟩
  go_wp2_with fail
  refine (c4.out _).mono ?_
  rintro e w' ⟨rfl, rfl⟩
  go_wp2_with fail
  refine (c5.out _).mono ?_
  rintro e w' ⟨rfl, rfl⟩
  go_wp2
  go_ret
  exact ⟨rfl, g⟩

set_option maxHeartbeats 1000000 in
theorem tab_25 (a b : Nat) (ha : a ≤ 4294967295) (hb : b ≤ 4294967295) (w : World) :
    Calls Try.prog 14 #[.int .u8 25, .int .u32 (a : Int), .int .u32 (b : Int)] w (Ret w (.bool true)) := by
  have c1 := Lib.hid (fun W => un_other 25 a (by decide) (by decide) (by decide) (by decide) (by decide) (by decide) (by decide) W)
  have c2 := Lib.hid (fun W => Binary_of 25 a b 0 61 (fun W => got_same (bin_other 25 a b (by decide) (by decide) (by decide) (by decide) (by decide) (by decide) (by decide) (by decide) (by decide) (by decide) (by decide) (by decide) (by decide) (by decide) (by decide) (by decide) (by decide) W)) W)
  have c3 := Lib.hid (fun W => hol_25 a b _ rfl W)
  have c4 := Lib.hid (fun W => swap_25 W)
  have c5 := Lib.hid (fun W => oppo_25 W)
  go_enter Try.func14, Try.ntmps14
  go_wp2_with fail
  refine (c1.out _).mono ?_
  rintro e w' ⟨rfl, rfl⟩
  go_wp2_with fail
  refine (c2.out _).mono ?_
  rintro e w' ⟨rfl, g⟩
  go_wp2_with fail
  refine (c3.out _).mono ?_
  rintro e w' ⟨rfl, rfl⟩
  go_wp2_with fail
  refine (c4.out _).mono ?_
  rintro e w' ⟨rfl, rfl⟩
  go_wp2_with fail
  refine (c5.out _).mono ?_
  rintro e w' ⟨rfl, rfl⟩
  go_wp2
  go_ret
  exact ⟨rfl, g⟩

set_option maxHeartbeats 1000000 in
theorem tab_26 (a b : Nat) (ha : a ≤ 4294967295) (hb : b ≤ 4294967295) (w : World) :
    Calls Try.prog 14 #[.int .u8 26, .int .u32 (a : Int), .int .u32 (b : Int)] w (Ret w (.bool true)) := by
  have c1 := Lib.hid (fun W => un_other 26 a (by decide) (by decide) (by decide) (by decide) (by decide) (by decide) (by decide) W)
  have c2 := Lib.hid (fun W => Binary_of 26 a b 0 61 (fun W => got_same (bin_other 26 a b (by decide) (by decide) (by decide) (by decide) (by decide) (by decide) (by decide) (by decide) (by decide) (by decide) (by decide) (by decide) (by decide) (by decide) (by decide) (by decide) (by decide) W)) W)
  have c3 := Lib.hid (fun W => hol_26 a b _ rfl W)
  have c4 := Lib.hid (fun W => swap_26 W)
  have c5 := Lib.hid (fun W => oppo_26 W)
  go_enter Try.func14, Try.ntmps14
  go_wp2_with fail
  refine (c1.out _).mono ?_
  rintro e w' ⟨rfl, rfl⟩
  go_wp2_with fail
  refine (c2.out _).mono ?_
  rintro e w' ⟨rfl, g⟩
  go_wp2_with fail
  refine (c3.out _).mono ?_
  rintro e w' ⟨rfl, rfl⟩
  go_wp2_with fail
  refine (c4.out _).mono ?_
  rintro e w' ⟨rfl, rfl⟩
  go_wp2_with fail
  refine (c5.out _).mono ?_
  rintro e w' ⟨rfl, rfl⟩
  go_wp2
  go_ret
  exact ⟨rfl, g⟩

set_option maxHeartbeats 1000000 in
theorem tab_27 (a b : Nat) (ha : a ≤ 4294967295) (hb : b ≤ 4294967295) (w : World) :
    Calls Try.prog 14 #[.int .u8 27, .int .u32 (a : Int), .int .u32 (b : Int)] w (Ret w (.bool true)) := by
  have c1 := Lib.hid (fun W => un_other 27 a (by decide) (by decide) (by decide) (by decide) (by decide) (by decide) (by decide) W)
  have c2 := Lib.hid (fun W => Binary_of 27 a b 0 61 (fun W => got_same (bin_other 27 a b (by decide) (by decide) (by decide) (by decide) (by decide) (by decide) (by decide) (by decide) (by decide) (by decide) (by decide) (by decide) (by decide) (by decide) (by decide) (by decide) (by decide) W)) W)
  have c3 := Lib.hid (fun W => hol_27 a b _ rfl W)
  have c4 := Lib.hid (fun W => swap_27 W)
  have c5 := Lib.hid (fun W => oppo_27 W)
  go_enter Try.func14, Try.ntmps14
  go_wp2_with fail
  refine (c1.out _).mono ?_
  rintro e w' ⟨rfl, rfl⟩
  go_wp2_with fail
  refine (c2.out _).mono ?_
  rintro e w' ⟨rfl, g⟩
  go_wp2_with fail
  refine (c3.out _).mono ?_
  rintro e w' ⟨rfl, rfl⟩
  go_wp2_with fail
  refine (c4.out _).mono ?_
  rintro e w' ⟨rfl, rfl⟩
  go_wp2_with fail
  refine (c5.out _).mono ?_
  rintro e w' ⟨rfl, rfl⟩
  go_wp2
  go_ret
  exact ⟨rfl, g⟩

set_option maxHeartbeats 1000000 in
theorem tab_28 (a b : Nat) (ha : a ≤ 4294967295) (hb : b ≤ 4294967295) (w : World) :
    Calls Try.prog 14 #[.int .u8 28, .int .u32 (a : Int), .int .u32 (b : Int)] w (Ret w (.bool true)) := by
  have c1 := Lib.hid (fun W => un_other 28 a (by decide) (by decide) (by decide) (by decide) (by decide) (by decide) (by decide) W)
  have c2 := Lib.hid (fun W => Binary_of 28 a b 0 61 (fun W => got_same (bin_other 28 a b (by decide) (by decide) (by decide) (by decide) (by decide) (by decide) (by decide) (by decide) (by decide) (by decide) (by decide) (by decide) (by decide) (by decide) (by decide) (by decide) (by decide) W)) W)
  have c3 := Lib.hid (fun W => hol_28 a b _ rfl W)
  have c4 := Lib.hid (fun W => swap_28 W)
  have c5 := Lib.hid (fun W => oppo_28 W)
  go_enter Try.func14, Try.ntmps14
  go_wp2_with fail
  refine (c1.out _).mono ?_
  rintro e w' ⟨rfl, rfl⟩
  go_wp2_with fail
  refine (c2.out _).mono ?_
  rintro e w' ⟨rfl, g⟩
  go_wp2_with fail
  refine (c3.out _).mono ?_
  rintro e w' ⟨rfl, rfl⟩
  go_wp2_with fail
  refine (c4.out _).mono ?_
  rintro e w' ⟨rfl, rfl⟩
  go_wp2_with fail
  refine (c5.out _).mono ?_
  rintro e w' ⟨rfl, rfl⟩
  go_wp2
  go_ret
  exact ⟨rfl, g⟩

set_option maxHeartbeats 1000000 in
theorem tab_36 (a b : Nat) (ha : a ≤ 4294967295) (hb : b ≤ 4294967295) (w : World) :
    Calls Try.prog 14 #[.int .u8 36, .int .u32 (a : Int), .int .u32 (b : Int)] w (Ret w (.bool true)) := by
  obtain ⟨u, hu⟩ : ∃ u, sex8 a = u := ⟨_, rfl⟩
  have c1 := Lib.hid (fun W => un_36 a u ha hu W)
  have c2 := Lib.hid (fun W => Binary_of 36 a b 0 61 (fun W => got_same (bin_other 36 a b (by decide) (by decide) (by decide) (by decide) (by decide) (by decide) (by decide) (by decide) (by decide) (by decide) (by decide) (by decide) (by decide) (by decide) (by decide) (by decide) (by decide) W)) W)
  have c3 := Lib.hid (fun W => hol_other 36 a b (by decide) (by decide) (by decide) (by decide) (by decide) (by decide) (by decide) (by decide) (by decide) (by decide) (by decide) (by decide) (by decide) (by decide) (by decide) (by decide) W)
  have c4 := Lib.hid (fun W => swap_other 36 (by decide) (by decide) (by decide) (by decide) (by decide) (by decide) (by decide) (by decide) (by decide) (by decide) (by decide) (by decide) (by decide) (by decide) (by decide) (by decide) W)
  have c5 := Lib.hid (fun W => oppo_other 36 (by decide) (by decide) (by decide) (by decide) (by decide) (by decide) (by decide) (by decide) (by decide) (by decide) (by decide) (by decide) (by decide) (by decide) (by decide) (by decide) W)
  go_enter Try.func14, Try.ntmps14
  go_wp2_with fail
  refine (c1.out _).mono ?_
  rintro e w' ⟨rfl, rfl⟩
  go_wp2_with fail
  refine (c2.out _).mono ?_
  rintro e w' ⟨rfl, g⟩
  go_wp2_with fail
  refine (c3.out _).mono ?_
  rintro e w' ⟨rfl, rfl⟩
  go_wp2_with fail
  refine (c4.out _).mono ?_
  rintro e w' ⟨rfl, rfl⟩
  go_wp2_with fail
  refine (c5.out _).mono ?_
  rintro e w' ⟨rfl, rfl⟩
  go_wp2
  go_ret
  exact ⟨rfl, g⟩

set_option maxHeartbeats 1000000 in
theorem tab_37 (a b : Nat) (ha : a ≤ 4294967295) (hb : b ≤ 4294967295) (w : World) :
    Calls Try.prog 14 #[.int .u8 37, .int .u32 (a : Int), .int .u32 (b : Int)] w (Ret w (.bool true)) := by
  obtain ⟨u, hu⟩ : ∃ u, sex16 a = u := ⟨_, rfl⟩
  have c1 := Lib.hid (fun W => un_37 a u ha hu W)
  have c2 := Lib.hid (fun W => Binary_of 37 a b 0 61 (fun W => got_same (bin_other 37 a b (by decide) (by decide) (by decide) (by decide) (by decide) (by decide) (by decide) (by decide) (by decide) (by decide) (by decide) (by decide) (by decide) (by decide) (by decide) (by decide) (by decide) W)) W)
  have c3 := Lib.hid (fun W => hol_other 37 a b (by decide) (by decide) (by decide) (by decide) (by decide) (by decide) (by decide) (by decide) (by decide) (by decide) (by decide) (by decide) (by decide) (by decide) (by decide) (by decide) W)
  have c4 := Lib.hid (fun W => swap_other 37 (by decide) (by decide) (by decide) (by decide) (by decide) (by decide) (by decide) (by decide) (by decide) (by decide) (by decide) (by decide) (by decide) (by decide) (by decide) (by decide) W)
  have c5 := Lib.hid (fun W => oppo_other 37 (by decide) (by decide) (by decide) (by decide) (by decide) (by decide) (by decide) (by decide) (by decide) (by decide) (by decide) (by decide) (by decide) (by decide) (by decide) (by decide) W)
  go_enter Try.func14, Try.ntmps14
  go_wp2_with fail
  refine (c1.out _).mono ?_
  rintro e w' ⟨rfl, rfl⟩
  go_wp2_with fail
  refine (c2.out _).mono ?_
  rintro e w' ⟨rfl, g⟩
  go_wp2_with fail
  refine (c3.out _).mono ?_
  rintro e w' ⟨rfl, rfl⟩
  go_wp2_with fail
  refine (c4.out _).mono ?_
  rintro e w' ⟨rfl, rfl⟩
  go_wp2_with fail
  refine (c5.out _).mono ?_
  rintro e w' ⟨rfl, rfl⟩
  go_wp2
  go_ret
  exact ⟨rfl, g⟩

set_option maxHeartbeats 1000000 in
theorem tab_38 (a b : Nat) (ha : a ≤ 4294967295) (hb : b ≤ 4294967295) (w : World) :
    Calls Try.prog 14 #[.int .u8 38, .int .u32 (a : Int), .int .u32 (b : Int)] w (Ret w (.bool true)) := by
  obtain ⟨u, hu⟩ : ∃ u, (4294967296 - a) % 4294967296 = u := ⟨_, rfl⟩
  have c1 := Lib.hid (fun W => un_38 a u ha hu W)
  have c2 := Lib.hid (fun W => Binary_of 38 a b 0 61 (fun W => got_same (bin_other 38 a b (by decide) (by decide) (by decide) (by decide) (by decide) (by decide) (by decide) (by decide) (by decide) (by decide) (by decide) (by decide) (by decide) (by decide) (by decide) (by decide) (by decide) W)) W)
  have c3 := Lib.hid (fun W => hol_other 38 a b (by decide) (by decide) (by decide) (by decide) (by decide) (by decide) (by decide) (by decide) (by decide) (by decide) (by decide) (by decide) (by decide) (by decide) (by decide) (by decide) W)
  have c4 := Lib.hid (fun W => swap_other 38 (by decide) (by decide) (by decide) (by decide) (by decide) (by decide) (by decide) (by decide) (by decide) (by decide) (by decide) (by decide) (by decide) (by decide) (by decide) (by decide) W)
  have c5 := Lib.hid (fun W => oppo_other 38 (by decide) (by decide) (by decide) (by decide) (by decide) (by decide) (by decide) (by decide) (by decide) (by decide) (by decide) (by decide) (by decide) (by decide) (by decide) (by decide) W)
  go_enter Try.func14, Try.ntmps14
  go_wp2_with fail
  refine (c1.out _).mono ?_
  rintro e w' ⟨rfl, rfl⟩
  go_wp2_with fail
  refine (c2.out _).mono ?_
  rintro e w' ⟨rfl, g⟩
  go_wp2_with fail
  refine (c3.out _).mono ?_
  rintro e w' ⟨rfl, rfl⟩
  go_wp2_with fail
  refine (c4.out _).mono ?_
  rintro e w' ⟨rfl, rfl⟩
  go_wp2_with fail
  refine (c5.out _).mono ?_
  rintro e w' ⟨rfl, rfl⟩
  go_wp2
  go_ret
  exact ⟨rfl, g⟩

set_option maxHeartbeats 1000000 in
theorem tab_39 (a b : Nat) (ha : a ≤ 4294967295) (hb : b ≤ 4294967295) (w : World) :
    Calls Try.prog 14 #[.int .u8 39, .int .u32 (a : Int), .int .u32 (b : Int)] w (Ret w (.bool true)) := by
  have c1 := Lib.hid (fun W => un_other 39 a (by decide) (by decide) (by decide) (by decide) (by decide) (by decide) (by decide) W)
  have c2 := Lib.hid (fun W => Binary_39 a b _ ha hb rfl W)
  have c3 := Lib.hid (fun W => hol_other 39 a b (by decide) (by decide) (by decide) (by decide) (by decide) (by decide) (by decide) (by decide) (by decide) (by decide) (by decide) (by decide) (by decide) (by decide) (by decide) (by decide) W)
  have c4 := Lib.hid (fun W => swap_other 39 (by decide) (by decide) (by decide) (by decide) (by decide) (by decide) (by decide) (by decide) (by decide) (by decide) (by decide) (by decide) (by decide) (by decide) (by decide) (by decide) W)
  have c5 := Lib.hid (fun W => oppo_other 39 (by decide) (by decide) (by decide) (by decide) (by decide) (by decide) (by decide) (by decide) (by decide) (by decide) (by decide) (by decide) (by decide) (by decide) (by decide) (by decide) W)
  go_enter Try.func14, Try.ntmps14
  go_wp2_with fail
  refine (c1.out _).mono ?_
  rintro e w' ⟨rfl, rfl⟩
  go_wp2_with fail
  refine (c2.out _).mono ?_
  rintro e w' ⟨rfl, g⟩
  go_wp2_with fail
  refine (c3.out _).mono ?_
  rintro e w' ⟨rfl, rfl⟩
  go_wp2_with fail
  refine (c4.out _).mono ?_
  rintro e w' ⟨rfl, rfl⟩
  go_wp2_with fail
  refine (c5.out _).mono ?_
  rintro e w' ⟨rfl, rfl⟩
  go_wp2
  go_ret
  exact ⟨rfl, g⟩

set_option maxHeartbeats 1000000 in
theorem tab_40 (a b : Nat) (ha : a ≤ 4294967295) (hb : b ≤ 4294967295) (w : World) :
    Calls Try.prog 14 #[.int .u8 40, .int .u32 (a : Int), .int .u32 (b : Int)] w (Ret w (.bool true)) := by
  have c1 := Lib.hid (fun W => un_other 40 a (by decide) (by decide) (by decide) (by decide) (by decide) (by decide) (by decide) W)
  have c2 := Lib.hid (fun W => Binary_40 a b _ ha hb rfl W)
  have c3 := Lib.hid (fun W => hol_other 40 a b (by decide) (by decide) (by decide) (by decide) (by decide) (by decide) (by decide) (by decide) (by decide) (by decide) (by decide) (by decide) (by decide) (by decide) (by decide) (by decide) W)
  have c4 := Lib.hid (fun W => swap_other 40 (by decide) (by decide) (by decide) (by decide) (by decide) (by decide) (by decide) (by decide) (by decide) (by decide) (by decide) (by decide) (by decide) (by decide) (by decide) (by decide) W)
  have c5 := Lib.hid (fun W => oppo_other 40 (by decide) (by decide) (by decide) (by decide) (by decide) (by decide) (by decide) (by decide) (by decide) (by decide) (by decide) (by decide) (by decide) (by decide) (by decide) (by decide) W)
  go_enter Try.func14, Try.ntmps14
  go_wp2_with fail
  refine (c1.out _).mono ?_
  rintro e w' ⟨rfl, rfl⟩
  go_wp2_with fail
  refine (c2.out _).mono ?_
  rintro e w' ⟨rfl, g⟩
  go_wp2_with fail
  refine (c3.out _).mono ?_
  rintro e w' ⟨rfl, rfl⟩
  go_wp2_with fail
  refine (c4.out _).mono ?_
  rintro e w' ⟨rfl, rfl⟩
  go_wp2_with fail
  refine (c5.out _).mono ?_
  rintro e w' ⟨rfl, rfl⟩
  go_wp2
  go_ret
  exact ⟨rfl, g⟩

set_option maxHeartbeats 1000000 in
theorem tab_41 (a b : Nat) (ha : a ≤ 4294967295) (hb : b ≤ 4294967295) (w : World) :
    Calls Try.prog 14 #[.int .u8 41, .int .u32 (a : Int), .int .u32 (b : Int)] w (Ret w (.bool true)) := by
  have c1 := Lib.hid (fun W => un_other 41 a (by decide) (by decide) (by decide) (by decide) (by decide) (by decide) (by decide) W)
  have c2 := Lib.hid (fun W => Binary_41 a b _ ha hb rfl W)
  have c3 := Lib.hid (fun W => hol_other 41 a b (by decide) (by decide) (by decide) (by decide) (by decide) (by decide) (by decide) (by decide) (by decide) (by decide) (by decide) (by decide) (by decide) (by decide) (by decide) (by decide) W)
  have c4 := Lib.hid (fun W => swap_other 41 (by decide) (by decide) (by decide) (by decide) (by decide) (by decide) (by decide) (by decide) (by decide) (by decide) (by decide) (by decide) (by decide) (by decide) (by decide) (by decide) W)
  have c5 := Lib.hid (fun W => oppo_other 41 (by decide) (by decide) (by decide) (by decide) (by decide) (by decide) (by decide) (by decide) (by decide) (by decide) (by decide) (by decide) (by decide) (by decide) (by decide) (by decide) W)
  go_enter Try.func14, Try.ntmps14
  go_wp2_with fail
  refine (c1.out _).mono ?_
  rintro e w' ⟨rfl, rfl⟩
  go_wp2_with fail
  refine (c2.out _).mono ?_
  rintro e w' ⟨rfl, g⟩
  go_wp2_with fail
  refine (c3.out _).mono ?_
  rintro e w' ⟨rfl, rfl⟩
  go_wp2_with fail
  refine (c4.out _).mono ?_
  rintro e w' ⟨rfl, rfl⟩
  go_wp2_with fail
  refine (c5.out _).mono ?_
  rintro e w' ⟨rfl, rfl⟩
  go_wp2
  go_ret
  exact ⟨rfl, g⟩

set_option maxHeartbeats 1000000 in
theorem tab_42 (a b : Nat) (ha : a ≤ 4294967295) (hb : b ≤ 4294967295) (hb0 : 0 < b) (w : World) :
    Calls Try.prog 14 #[.int .u8 42, .int .u32 (a : Int), .int .u32 (b : Int)] w (Ret w (.bool true)) := by
  have c1 := Lib.hid (fun W => un_other 42 a (by decide) (by decide) (by decide) (by decide) (by decide) (by decide) (by decide) W)
  obtain ⟨q, hq⟩ := nat_of_mod (wrap32 ((wrap32 (a : Int)).tdiv (wrap32 (b : Int))))
  have hz : ¬ wrap32 (b : Int) = 0 := fun h => by have := wrap_mod (b : Int); rw [h] at this; omega
  have c2 := Lib.hid (fun W => Binary_42 a b q ha hb hz hq W)
  have c3 := Lib.hid (fun W => hol_other 42 a b (by decide) (by decide) (by decide) (by decide) (by decide) (by decide) (by decide) (by decide) (by decide) (by decide) (by decide) (by decide) (by decide) (by decide) (by decide) (by decide) W)
  have c4 := Lib.hid (fun W => swap_other 42 (by decide) (by decide) (by decide) (by decide) (by decide) (by decide) (by decide) (by decide) (by decide) (by decide) (by decide) (by decide) (by decide) (by decide) (by decide) (by decide) W)
  have c5 := Lib.hid (fun W => oppo_other 42 (by decide) (by decide) (by decide) (by decide) (by decide) (by decide) (by decide) (by decide) (by decide) (by decide) (by decide) (by decide) (by decide) (by decide) (by decide) (by decide) W)
  clear hb0
  go_enter Try.func14, Try.ntmps14
  go_wp2_with fail
  refine (c1.out _).mono ?_
  rintro e w' ⟨rfl, rfl⟩
  go_wp2_with fail
  refine (c2.out _).mono ?_
  rintro e w' ⟨rfl, g⟩
  go_wp2_with fail
  refine (c3.out _).mono ?_
  rintro e w' ⟨rfl, rfl⟩
  go_wp2_with fail
  refine (c4.out _).mono ?_
  rintro e w' ⟨rfl, rfl⟩
  go_wp2_with fail
  refine (c5.out _).mono ?_
  rintro e w' ⟨rfl, rfl⟩
  go_wp2
  go_ret
  exact ⟨rfl, g⟩

set_option maxHeartbeats 1000000 in
theorem tab_43 (a b : Nat) (ha : a ≤ 4294967295) (hb : b ≤ 4294967295) (hb0 : 0 < b) (w : World) :
    Calls Try.prog 14 #[.int .u8 43, .int .u32 (a : Int), .int .u32 (b : Int)] w (Ret w (.bool true)) := by
  have c1 := Lib.hid (fun W => un_other 43 a (by decide) (by decide) (by decide) (by decide) (by decide) (by decide) (by decide) W)
  have c2 := Lib.hid (fun W => Binary_43 a b _ ha hb hb0 rfl W)
  have c3 := Lib.hid (fun W => hol_other 43 a b (by decide) (by decide) (by decide) (by decide) (by decide) (by decide) (by decide) (by decide) (by decide) (by decide) (by decide) (by decide) (by decide) (by decide) (by decide) (by decide) W)
  have c4 := Lib.hid (fun W => swap_other 43 (by decide) (by decide) (by decide) (by decide) (by decide) (by decide) (by decide) (by decide) (by decide) (by decide) (by decide) (by decide) (by decide) (by decide) (by decide) (by decide) W)
  have c5 := Lib.hid (fun W => oppo_other 43 (by decide) (by decide) (by decide) (by decide) (by decide) (by decide) (by decide) (by decide) (by decide) (by decide) (by decide) (by decide) (by decide) (by decide) (by decide) (by decide) W)
  clear hb0
  go_enter Try.func14, Try.ntmps14
  go_wp2_with fail
  refine (c1.out _).mono ?_
  rintro e w' ⟨rfl, rfl⟩
  go_wp2_with fail
  refine (c2.out _).mono ?_
  rintro e w' ⟨rfl, g⟩
  go_wp2_with fail
  refine (c3.out _).mono ?_
  rintro e w' ⟨rfl, rfl⟩
  go_wp2_with fail
  refine (c4.out _).mono ?_
  rintro e w' ⟨rfl, rfl⟩
  go_wp2_with fail
  refine (c5.out _).mono ?_
  rintro e w' ⟨rfl, rfl⟩
  go_wp2
  go_ret
  exact ⟨rfl, g⟩

set_option maxHeartbeats 1000000 in
theorem tab_44 (a b : Nat) (ha : a ≤ 4294967295) (hb : b ≤ 4294967295) (hb0 : 0 < b) (w : World) :
    Calls Try.prog 14 #[.int .u8 44, .int .u32 (a : Int), .int .u32 (b : Int)] w (Ret w (.bool true)) := by
  have c1 := Lib.hid (fun W => un_other 44 a (by decide) (by decide) (by decide) (by decide) (by decide) (by decide) (by decide) W)
  obtain ⟨q, hq⟩ := nat_of_mod ((wrap32 (a : Int)).tmod (wrap32 (b : Int)))
  have hz : ¬ wrap32 (b : Int) = 0 := fun h => by have := wrap_mod (b : Int); rw [h] at this; omega
  have c2 := Lib.hid (fun W => Binary_44 a b q ha hb hz hq W)
  have c3 := Lib.hid (fun W => hol_other 44 a b (by decide) (by decide) (by decide) (by decide) (by decide) (by decide) (by decide) (by decide) (by decide) (by decide) (by decide) (by decide) (by decide) (by decide) (by decide) (by decide) W)
  have c4 := Lib.hid (fun W => swap_other 44 (by decide) (by decide) (by decide) (by decide) (by decide) (by decide) (by decide) (by decide) (by decide) (by decide) (by decide) (by decide) (by decide) (by decide) (by decide) (by decide) W)
  have c5 := Lib.hid (fun W => oppo_other 44 (by decide) (by decide) (by decide) (by decide) (by decide) (by decide) (by decide) (by decide) (by decide) (by decide) (by decide) (by decide) (by decide) (by decide) (by decide) (by decide) W)
  clear hb0
  go_enter Try.func14, Try.ntmps14
  go_wp2_with fail
  refine (c1.out _).mono ?_
  rintro e w' ⟨rfl, rfl⟩
  go_wp2_with fail
  refine (c2.out _).mono ?_
  rintro e w' ⟨rfl, g⟩
  go_wp2_with fail
  refine (c3.out _).mono ?_
  rintro e w' ⟨rfl, rfl⟩
  go_wp2_with fail
  refine (c4.out _).mono ?_
  rintro e w' ⟨rfl, rfl⟩
  go_wp2_with fail
  refine (c5.out _).mono ?_
  rintro e w' ⟨rfl, rfl⟩
  go_wp2
  go_ret
  exact ⟨rfl, g⟩

set_option maxHeartbeats 1000000 in
theorem tab_45 (a b : Nat) (ha : a ≤ 4294967295) (hb : b ≤ 4294967295) (hb0 : 0 < b) (w : World) :
    Calls Try.prog 14 #[.int .u8 45, .int .u32 (a : Int), .int .u32 (b : Int)] w (Ret w (.bool true)) := by
  have c1 := Lib.hid (fun W => un_other 45 a (by decide) (by decide) (by decide) (by decide) (by decide) (by decide) (by decide) W)
  have c2 := Lib.hid (fun W => Binary_45 a b _ ha hb hb0 rfl W)
  have c3 := Lib.hid (fun W => hol_other 45 a b (by decide) (by decide) (by decide) (by decide) (by decide) (by decide) (by decide) (by decide) (by decide) (by decide) (by decide) (by decide) (by decide) (by decide) (by decide) (by decide) W)
  have c4 := Lib.hid (fun W => swap_other 45 (by decide) (by decide) (by decide) (by decide) (by decide) (by decide) (by decide) (by decide) (by decide) (by decide) (by decide) (by decide) (by decide) (by decide) (by decide) (by decide) W)
  have c5 := Lib.hid (fun W => oppo_other 45 (by decide) (by decide) (by decide) (by decide) (by decide) (by decide) (by decide) (by decide) (by decide) (by decide) (by decide) (by decide) (by decide) (by decide) (by decide) (by decide) W)
  clear hb0
  go_enter Try.func14, Try.ntmps14
  go_wp2_with fail
  refine (c1.out _).mono ?_
  rintro e w' ⟨rfl, rfl⟩
  go_wp2_with fail
  refine (c2.out _).mono ?_
  rintro e w' ⟨rfl, g⟩
  go_wp2_with fail
  refine (c3.out _).mono ?_
  rintro e w' ⟨rfl, rfl⟩
  go_wp2_with fail
  refine (c4.out _).mono ?_
  rintro e w' ⟨rfl, rfl⟩
  go_wp2_with fail
  refine (c5.out _).mono ?_
  rintro e w' ⟨rfl, rfl⟩
  go_wp2
  go_ret
  exact ⟨rfl, g⟩

set_option maxHeartbeats 1000000 in
theorem tab_46 (a b : Nat) (ha : a ≤ 4294967295) (hb : b ≤ 4294967295) (w : World) :
    Calls Try.prog 14 #[.int .u8 46, .int .u32 (a : Int), .int .u32 (b : Int)] w (Ret w (.bool true)) := by
  have c1 := Lib.hid (fun W => un_other 46 a (by decide) (by decide) (by decide) (by decide) (by decide) (by decide) (by decide) W)
  have c2 := Lib.hid (fun W => Binary_46 a b _ ha hb rfl W)
  have c3 := Lib.hid (fun W => hol_other 46 a b (by decide) (by decide) (by decide) (by decide) (by decide) (by decide) (by decide) (by decide) (by decide) (by decide) (by decide) (by decide) (by decide) (by decide) (by decide) (by decide) W)
  have c4 := Lib.hid (fun W => swap_other 46 (by decide) (by decide) (by decide) (by decide) (by decide) (by decide) (by decide) (by decide) (by decide) (by decide) (by decide) (by decide) (by decide) (by decide) (by decide) (by decide) W)
  have c5 := Lib.hid (fun W => oppo_other 46 (by decide) (by decide) (by decide) (by decide) (by decide) (by decide) (by decide) (by decide) (by decide) (by decide) (by decide) (by decide) (by decide) (by decide) (by decide) (by decide) W)
  go_enter Try.func14, Try.ntmps14
  go_wp2_with fail
  refine (c1.out _).mono ?_
  rintro e w' ⟨rfl, rfl⟩
  go_wp2_with fail
  refine (c2.out _).mono ?_
  rintro e w' ⟨rfl, g⟩
  go_wp2_with fail
  refine (c3.out _).mono ?_
  rintro e w' ⟨rfl, rfl⟩
  go_wp2_with fail
  refine (c4.out _).mono ?_
  rintro e w' ⟨rfl, rfl⟩
  go_wp2_with fail
  refine (c5.out _).mono ?_
  rintro e w' ⟨rfl, rfl⟩
  go_wp2
  go_ret
  exact ⟨rfl, g⟩

set_option maxHeartbeats 1000000 in
theorem tab_47 (a b : Nat) (ha : a ≤ 4294967295) (hb : b ≤ 4294967295) (w : World) :
    Calls Try.prog 14 #[.int .u8 47, .int .u32 (a : Int), .int .u32 (b : Int)] w (Ret w (.bool true)) := by
  have c1 := Lib.hid (fun W => un_other 47 a (by decide) (by decide) (by decide) (by decide) (by decide) (by decide) (by decide) W)
  have c2 := Lib.hid (fun W => Binary_47 a b _ ha hb rfl W)
  have c3 := Lib.hid (fun W => hol_other 47 a b (by decide) (by decide) (by decide) (by decide) (by decide) (by decide) (by decide) (by decide) (by decide) (by decide) (by decide) (by decide) (by decide) (by decide) (by decide) (by decide) W)
  have c4 := Lib.hid (fun W => swap_other 47 (by decide) (by decide) (by decide) (by decide) (by decide) (by decide) (by decide) (by decide) (by decide) (by decide) (by decide) (by decide) (by decide) (by decide) (by decide) (by decide) W)
  have c5 := Lib.hid (fun W => oppo_other 47 (by decide) (by decide) (by decide) (by decide) (by decide) (by decide) (by decide) (by decide) (by decide) (by decide) (by decide) (by decide) (by decide) (by decide) (by decide) (by decide) W)
  go_enter Try.func14, Try.ntmps14
  go_wp2_with fail
  refine (c1.out _).mono ?_
  rintro e w' ⟨rfl, rfl⟩
  go_wp2_with fail
  refine (c2.out _).mono ?_
  rintro e w' ⟨rfl, g⟩
  go_wp2_with fail
  refine (c3.out _).mono ?_
  rintro e w' ⟨rfl, rfl⟩
  go_wp2_with fail
  refine (c4.out _).mono ?_
  rintro e w' ⟨rfl, rfl⟩
  go_wp2_with fail
  refine (c5.out _).mono ?_
  rintro e w' ⟨rfl, rfl⟩
  go_wp2
  go_ret
  exact ⟨rfl, g⟩

set_option maxHeartbeats 1000000 in
theorem tab_48 (a b : Nat) (ha : a ≤ 4294967295) (hb : b ≤ 4294967295) (w : World) :
    Calls Try.prog 14 #[.int .u8 48, .int .u32 (a : Int), .int .u32 (b : Int)] w (Ret w (.bool true)) := by
  have c1 := Lib.hid (fun W => un_other 48 a (by decide) (by decide) (by decide) (by decide) (by decide) (by decide) (by decide) W)
  have c2 := Lib.hid (fun W => Binary_48 a b _ ha hb rfl W)
  have c3 := Lib.hid (fun W => hol_other 48 a b (by decide) (by decide) (by decide) (by decide) (by decide) (by decide) (by decide) (by decide) (by decide) (by decide) (by decide) (by decide) (by decide) (by decide) (by decide) (by decide) W)
  have c4 := Lib.hid (fun W => swap_other 48 (by decide) (by decide) (by decide) (by decide) (by decide) (by decide) (by decide) (by decide) (by decide) (by decide) (by decide) (by decide) (by decide) (by decide) (by decide) (by decide) W)
  have c5 := Lib.hid (fun W => oppo_other 48 (by decide) (by decide) (by decide) (by decide) (by decide) (by decide) (by decide) (by decide) (by decide) (by decide) (by decide) (by decide) (by decide) (by decide) (by decide) (by decide) W)
  go_enter Try.func14, Try.ntmps14
  go_wp2_with fail
  refine (c1.out _).mono ?_
  rintro e w' ⟨rfl, rfl⟩
  go_wp2_with fail
  refine (c2.out _).mono ?_
  rintro e w' ⟨rfl, g⟩
  go_wp2_with fail
  refine (c3.out _).mono ?_
  rintro e w' ⟨rfl, rfl⟩
  go_wp2_with fail
  refine (c4.out _).mono ?_
  rintro e w' ⟨rfl, rfl⟩
  go_wp2_with fail
  refine (c5.out _).mono ?_
  rintro e w' ⟨rfl, rfl⟩
  go_wp2
  go_ret
  exact ⟨rfl, g⟩

set_option maxHeartbeats 1000000 in
theorem tab_49 (a b : Nat) (ha : a ≤ 4294967295) (hb : b ≤ 4294967295) (w : World) :
    Calls Try.prog 14 #[.int .u8 49, .int .u32 (a : Int), .int .u32 (b : Int)] w (Ret w (.bool true)) := by
  obtain ⟨u, hu⟩ : ∃ u, 4294967295 - a = u := ⟨_, rfl⟩
  have c1 := Lib.hid (fun W => un_49 a u ha hu W)
  have c2 := Lib.hid (fun W => Binary_of 49 a b 0 61 (fun W => got_same (bin_other 49 a b (by decide) (by decide) (by decide) (by decide) (by decide) (by decide) (by decide) (by decide) (by decide) (by decide) (by decide) (by decide) (by decide) (by decide) (by decide) (by decide) (by decide) W)) W)
  have c3 := Lib.hid (fun W => hol_other 49 a b (by decide) (by decide) (by decide) (by decide) (by decide) (by decide) (by decide) (by decide) (by decide) (by decide) (by decide) (by decide) (by decide) (by decide) (by decide) (by decide) W)
  have c4 := Lib.hid (fun W => swap_other 49 (by decide) (by decide) (by decide) (by decide) (by decide) (by decide) (by decide) (by decide) (by decide) (by decide) (by decide) (by decide) (by decide) (by decide) (by decide) (by decide) W)
  have c5 := Lib.hid (fun W => oppo_other 49 (by decide) (by decide) (by decide) (by decide) (by decide) (by decide) (by decide) (by decide) (by decide) (by decide) (by decide) (by decide) (by decide) (by decide) (by decide) (by decide) W)
  go_enter Try.func14, Try.ntmps14
  go_wp2_with fail
  refine (c1.out _).mono ?_
  rintro e w' ⟨rfl, rfl⟩
  go_wp2_with fail
  refine (c2.out _).mono ?_
  rintro e w' ⟨rfl, g⟩
  go_wp2_with fail
  refine (c3.out _).mono ?_
  rintro e w' ⟨rfl, rfl⟩
  go_wp2_with fail
  refine (c4.out _).mono ?_
  rintro e w' ⟨rfl, rfl⟩
  go_wp2_with fail
  refine (c5.out _).mono ?_
  rintro e w' ⟨rfl, rfl⟩
  go_wp2
  go_ret
  exact ⟨rfl, g⟩

set_option maxHeartbeats 1000000 in
theorem tab_50 (a b : Nat) (ha : a ≤ 4294967295) (hb : b ≤ 4294967295) (w : World) :
    Calls Try.prog 14 #[.int .u8 50, .int .u32 (a : Int), .int .u32 (b : Int)] w (Ret w (.bool true)) := by
  have c1 := Lib.hid (fun W => un_other 50 a (by decide) (by decide) (by decide) (by decide) (by decide) (by decide) (by decide) W)
  have c2 := Lib.hid (fun W => Binary_50 a b _ ha hb rfl W)
  have c3 := Lib.hid (fun W => hol_other 50 a b (by decide) (by decide) (by decide) (by decide) (by decide) (by decide) (by decide) (by decide) (by decide) (by decide) (by decide) (by decide) (by decide) (by decide) (by decide) (by decide) W)
  have c4 := Lib.hid (fun W => swap_other 50 (by decide) (by decide) (by decide) (by decide) (by decide) (by decide) (by decide) (by decide) (by decide) (by decide) (by decide) (by decide) (by decide) (by decide) (by decide) (by decide) W)
  have c5 := Lib.hid (fun W => oppo_other 50 (by decide) (by decide) (by decide) (by decide) (by decide) (by decide) (by decide) (by decide) (by decide) (by decide) (by decide) (by decide) (by decide) (by decide) (by decide) (by decide) W)
  go_enter Try.func14, Try.ntmps14
  go_wp2_with fail
  refine (c1.out _).mono ?_
  rintro e w' ⟨rfl, rfl⟩
  go_wp2_with fail
  refine (c2.out _).mono ?_
  rintro e w' ⟨rfl, g⟩
  go_wp2_with fail
  refine (c3.out _).mono ?_
  rintro e w' ⟨rfl, rfl⟩
  go_wp2_with fail
  refine (c4.out _).mono ?_
  rintro e w' ⟨rfl, rfl⟩
  go_wp2_with fail
  refine (c5.out _).mono ?_
  rintro e w' ⟨rfl, rfl⟩
  go_wp2
  go_ret
  exact ⟨rfl, g⟩

set_option maxHeartbeats 1000000 in
theorem tab_51 (a b : Nat) (ha : a ≤ 4294967295) (hb : b ≤ 4294967295) (w : World) :
    Calls Try.prog 14 #[.int .u8 51, .int .u32 (a : Int), .int .u32 (b : Int)] w (Ret w (.bool true)) := by
  have c1 := Lib.hid (fun W => un_other 51 a (by decide) (by decide) (by decide) (by decide) (by decide) (by decide) (by decide) W)
  obtain ⟨q, hq⟩ := nat_of_mod (wrap32 (a : Int) / 2 ^ (b % 32))
  have c2 := Lib.hid (fun W => Binary_51 a b q ha hb hq W)
  have c3 := Lib.hid (fun W => hol_other 51 a b (by decide) (by decide) (by decide) (by decide) (by decide) (by decide) (by decide) (by decide) (by decide) (by decide) (by decide) (by decide) (by decide) (by decide) (by decide) (by decide) W)
  have c4 := Lib.hid (fun W => swap_other 51 (by decide) (by decide) (by decide) (by decide) (by decide) (by decide) (by decide) (by decide) (by decide) (by decide) (by decide) (by decide) (by decide) (by decide) (by decide) (by decide) W)
  have c5 := Lib.hid (fun W => oppo_other 51 (by decide) (by decide) (by decide) (by decide) (by decide) (by decide) (by decide) (by decide) (by decide) (by decide) (by decide) (by decide) (by decide) (by decide) (by decide) (by decide) W)
  go_enter Try.func14, Try.ntmps14
  go_wp2_with fail
  refine (c1.out _).mono ?_
  rintro e w' ⟨rfl, rfl⟩
  go_wp2_with fail
  refine (c2.out _).mono ?_
  rintro e w' ⟨rfl, g⟩
  go_wp2_with fail
  refine (c3.out _).mono ?_
  rintro e w' ⟨rfl, rfl⟩
  go_wp2_with fail
  refine (c4.out _).mono ?_
  rintro e w' ⟨rfl, rfl⟩
  go_wp2_with fail
  refine (c5.out _).mono ?_
  rintro e w' ⟨rfl, rfl⟩
  go_wp2
  go_ret
  exact ⟨rfl, g⟩

set_option maxHeartbeats 1000000 in
theorem tab_52 (a b : Nat) (ha : a ≤ 4294967295) (hb : b ≤ 4294967295) (w : World) :
    Calls Try.prog 14 #[.int .u8 52, .int .u32 (a : Int), .int .u32 (b : Int)] w (Ret w (.bool true)) := by
  have c1 := Lib.hid (fun W => un_other 52 a (by decide) (by decide) (by decide) (by decide) (by decide) (by decide) (by decide) W)
  have c2 := Lib.hid (fun W => Binary_52 a b _ ha hb rfl W)
  have c3 := Lib.hid (fun W => hol_other 52 a b (by decide) (by decide) (by decide) (by decide) (by decide) (by decide) (by decide) (by decide) (by decide) (by decide) (by decide) (by decide) (by decide) (by decide) (by decide) (by decide) W)
  have c4 := Lib.hid (fun W => swap_other 52 (by decide) (by decide) (by decide) (by decide) (by decide) (by decide) (by decide) (by decide) (by decide) (by decide) (by decide) (by decide) (by decide) (by decide) (by decide) (by decide) W)
  have c5 := Lib.hid (fun W => oppo_other 52 (by decide) (by decide) (by decide) (by decide) (by decide) (by decide) (by decide) (by decide) (by decide) (by decide) (by decide) (by decide) (by decide) (by decide) (by decide) (by decide) W)
  go_enter Try.func14, Try.ntmps14
  go_wp2_with fail
  refine (c1.out _).mono ?_
  rintro e w' ⟨rfl, rfl⟩
  go_wp2_with fail
  refine (c2.out _).mono ?_
  rintro e w' ⟨rfl, g⟩
  go_wp2_with fail
  refine (c3.out _).mono ?_
  rintro e w' ⟨rfl, rfl⟩
  go_wp2_with fail
  refine (c4.out _).mono ?_
  rintro e w' ⟨rfl, rfl⟩
  go_wp2_with fail
  refine (c5.out _).mono ?_
  rintro e w' ⟨rfl, rfl⟩
  go_wp2
  go_ret
  exact ⟨rfl, g⟩

set_option maxHeartbeats 1000000 in
theorem tab_53 (a b : Nat) (ha : a ≤ 4294967295) (hb : b ≤ 4294967295) (w : World) :
    Calls Try.prog 14 #[.int .u8 53, .int .u32 (a : Int), .int .u32 (b : Int)] w (Ret w (.bool true)) := by
  obtain ⟨u, hu⟩ : ∃ u, turnW a = u := ⟨_, rfl⟩
  have c1 := Lib.hid (fun W => un_53 a u ha hu W)
  have c2 := Lib.hid (fun W => Binary_of 53 a b 0 61 (fun W => got_same (bin_other 53 a b (by decide) (by decide) (by decide) (by decide) (by decide) (by decide) (by decide) (by decide) (by decide) (by decide) (by decide) (by decide) (by decide) (by decide) (by decide) (by decide) (by decide) W)) W)
  have c3 := Lib.hid (fun W => hol_other 53 a b (by decide) (by decide) (by decide) (by decide) (by decide) (by decide) (by decide) (by decide) (by decide) (by decide) (by decide) (by decide) (by decide) (by decide) (by decide) (by decide) W)
  have c4 := Lib.hid (fun W => swap_other 53 (by decide) (by decide) (by decide) (by decide) (by decide) (by decide) (by decide) (by decide) (by decide) (by decide) (by decide) (by decide) (by decide) (by decide) (by decide) (by decide) W)
  have c5 := Lib.hid (fun W => oppo_other 53 (by decide) (by decide) (by decide) (by decide) (by decide) (by decide) (by decide) (by decide) (by decide) (by decide) (by decide) (by decide) (by decide) (by decide) (by decide) (by decide) W)
  go_enter Try.func14, Try.ntmps14
  go_wp2_with fail
  refine (c1.out _).mono ?_
  rintro e w' ⟨rfl, rfl⟩
  go_wp2_with fail
  refine (c2.out _).mono ?_
  rintro e w' ⟨rfl, g⟩
  go_wp2_with fail
  refine (c3.out _).mono ?_
  rintro e w' ⟨rfl, rfl⟩
  go_wp2_with fail
  refine (c4.out _).mono ?_
  rintro e w' ⟨rfl, rfl⟩
  go_wp2_with fail
  refine (c5.out _).mono ?_
  rintro e w' ⟨rfl, rfl⟩
  go_wp2
  go_ret
  exact ⟨rfl, g⟩

set_option maxHeartbeats 1000000 in
theorem tab_54 (a b : Nat) (ha : a ≤ 4294967295) (hb : b ≤ 4294967295) (w : World) :
    Calls Try.prog 14 #[.int .u8 54, .int .u32 (a : Int), .int .u32 (b : Int)] w (Ret w (.bool true)) := by
  have c1 := Lib.hid (fun W => un_other 54 a (by decide) (by decide) (by decide) (by decide) (by decide) (by decide) (by decide) W)
  have c2 := Lib.hid (fun W => Binary_54 a b _ rfl W)
  have c3 := Lib.hid (fun W => hol_other 54 a b (by decide) (by decide) (by decide) (by decide) (by decide) (by decide) (by decide) (by decide) (by decide) (by decide) (by decide) (by decide) (by decide) (by decide) (by decide) (by decide) W)
  have c4 := Lib.hid (fun W => swap_other 54 (by decide) (by decide) (by decide) (by decide) (by decide) (by decide) (by decide) (by decide) (by decide) (by decide) (by decide) (by decide) (by decide) (by decide) (by decide) (by decide) W)
  have c5 := Lib.hid (fun W => oppo_other 54 (by decide) (by decide) (by decide) (by decide) (by decide) (by decide) (by decide) (by decide) (by decide) (by decide) (by decide) (by decide) (by decide) (by decide) (by decide) (by decide) W)
  go_enter Try.func14, Try.ntmps14
  go_wp2_with fail
  refine (c1.out _).mono ?_
  rintro e w' ⟨rfl, rfl⟩
  go_wp2_with fail
  refine (c2.out _).mono ?_
  rintro e w' ⟨rfl, g⟩
  go_wp2_with fail
  refine (c3.out _).mono ?_
  rintro e w' ⟨rfl, rfl⟩
  go_wp2_with fail
  refine (c4.out _).mono ?_
  rintro e w' ⟨rfl, rfl⟩
  go_wp2_with fail
  refine (c5.out _).mono ?_
  rintro e w' ⟨rfl, rfl⟩
  go_wp2
  go_ret
  exact ⟨rfl, g⟩

set_option maxHeartbeats 1000000 in
theorem tab_55 (a b : Nat) (ha : a ≤ 4294967295) (hb : b ≤ 4294967295) (w : World) :
    Calls Try.prog 14 #[.int .u8 55, .int .u32 (a : Int), .int .u32 (b : Int)] w (Ret w (.bool true)) := by
  have c1 := Lib.hid (fun W => un_other 55 a (by decide) (by decide) (by decide) (by decide) (by decide) (by decide) (by decide) W)
  have c2 := Lib.hid (fun W => Binary_55 a b _ rfl W)
  have c3 := Lib.hid (fun W => hol_other 55 a b (by decide) (by decide) (by decide) (by decide) (by decide) (by decide) (by decide) (by decide) (by decide) (by decide) (by decide) (by decide) (by decide) (by decide) (by decide) (by decide) W)
  have c4 := Lib.hid (fun W => swap_other 55 (by decide) (by decide) (by decide) (by decide) (by decide) (by decide) (by decide) (by decide) (by decide) (by decide) (by decide) (by decide) (by decide) (by decide) (by decide) (by decide) W)
  have c5 := Lib.hid (fun W => oppo_other 55 (by decide) (by decide) (by decide) (by decide) (by decide) (by decide) (by decide) (by decide) (by decide) (by decide) (by decide) (by decide) (by decide) (by decide) (by decide) (by decide) W)
  go_enter Try.func14, Try.ntmps14
  go_wp2_with fail
  refine (c1.out _).mono ?_
  rintro e w' ⟨rfl, rfl⟩
  go_wp2_with fail
  refine (c2.out _).mono ?_
  rintro e w' ⟨rfl, g⟩
  go_wp2_with fail
  refine (c3.out _).mono ?_
  rintro e w' ⟨rfl, rfl⟩
  go_wp2_with fail
  refine (c4.out _).mono ?_
  rintro e w' ⟨rfl, rfl⟩
  go_wp2_with fail
  refine (c5.out _).mono ?_
  rintro e w' ⟨rfl, rfl⟩
  go_wp2
  go_ret
  exact ⟨rfl, g⟩

set_option maxHeartbeats 1000000 in
theorem tab_56 (a b : Nat) (ha : a ≤ 4294967295) (hb : b ≤ 4294967295) (w : World) :
    Calls Try.prog 14 #[.int .u8 56, .int .u32 (a : Int), .int .u32 (b : Int)] w (Ret w (.bool true)) := by
  have c1 := Lib.hid (fun W => un_other 56 a (by decide) (by decide) (by decide) (by decide) (by decide) (by decide) (by decide) W)
  have c2 := Lib.hid (fun W => Binary_56 a b _ rfl W)
  have c3 := Lib.hid (fun W => hol_other 56 a b (by decide) (by decide) (by decide) (by decide) (by decide) (by decide) (by decide) (by decide) (by decide) (by decide) (by decide) (by decide) (by decide) (by decide) (by decide) (by decide) W)
  have c4 := Lib.hid (fun W => swap_other 56 (by decide) (by decide) (by decide) (by decide) (by decide) (by decide) (by decide) (by decide) (by decide) (by decide) (by decide) (by decide) (by decide) (by decide) (by decide) (by decide) W)
  have c5 := Lib.hid (fun W => oppo_other 56 (by decide) (by decide) (by decide) (by decide) (by decide) (by decide) (by decide) (by decide) (by decide) (by decide) (by decide) (by decide) (by decide) (by decide) (by decide) (by decide) W)
  go_enter Try.func14, Try.ntmps14
  go_wp2_with fail
  refine (c1.out _).mono ?_
  rintro e w' ⟨rfl, rfl⟩
  go_wp2_with fail
  refine (c2.out _).mono ?_
  rintro e w' ⟨rfl, g⟩
  go_wp2_with fail
  refine (c3.out _).mono ?_
  rintro e w' ⟨rfl, rfl⟩
  go_wp2_with fail
  refine (c4.out _).mono ?_
  rintro e w' ⟨rfl, rfl⟩
  go_wp2_with fail
  refine (c5.out _).mono ?_
  rintro e w' ⟨rfl, rfl⟩
  go_wp2
  go_ret
  exact ⟨rfl, g⟩

set_option maxHeartbeats 1000000 in
theorem tab_57 (a b : Nat) (ha : a ≤ 4294967295) (hb : b ≤ 4294967295) (w : World) :
    Calls Try.prog 14 #[.int .u8 57, .int .u32 (a : Int), .int .u32 (b : Int)] w (Ret w (.bool true)) := by
  have c1 := Lib.hid (fun W => un_other 57 a (by decide) (by decide) (by decide) (by decide) (by decide) (by decide) (by decide) W)
  have c2 := Lib.hid (fun W => Binary_57 a b _ rfl W)
  have c3 := Lib.hid (fun W => hol_other 57 a b (by decide) (by decide) (by decide) (by decide) (by decide) (by decide) (by decide) (by decide) (by decide) (by decide) (by decide) (by decide) (by decide) (by decide) (by decide) (by decide) W)
  have c4 := Lib.hid (fun W => swap_other 57 (by decide) (by decide) (by decide) (by decide) (by decide) (by decide) (by decide) (by decide) (by decide) (by decide) (by decide) (by decide) (by decide) (by decide) (by decide) (by decide) W)
  have c5 := Lib.hid (fun W => oppo_other 57 (by decide) (by decide) (by decide) (by decide) (by decide) (by decide) (by decide) (by decide) (by decide) (by decide) (by decide) (by decide) (by decide) (by decide) (by decide) (by decide) W)
  go_enter Try.func14, Try.ntmps14
  go_wp2_with fail
  refine (c1.out _).mono ?_
  rintro e w' ⟨rfl, rfl⟩
  go_wp2_with fail
  refine (c2.out _).mono ?_
  rintro e w' ⟨rfl, g⟩
  go_wp2_with fail
  refine (c3.out _).mono ?_
  rintro e w' ⟨rfl, rfl⟩
  go_wp2_with fail
  refine (c4.out _).mono ?_
  rintro e w' ⟨rfl, rfl⟩
  go_wp2_with fail
  refine (c5.out _).mono ?_
  rintro e w' ⟨rfl, rfl⟩
  go_wp2
  go_ret
  exact ⟨rfl, g⟩

set_option maxHeartbeats 1000000 in
theorem tab_58 (a b : Nat) (ha : a ≤ 4294967295) (hb : b ≤ 4294967295) (w : World) :
    Calls Try.prog 14 #[.int .u8 58, .int .u32 (a : Int), .int .u32 (b : Int)] w (Ret w (.bool true)) := by
  obtain ⟨u, hu⟩ : ∃ u, ofW (wrap32 (a : Int)) = u := ⟨_, rfl⟩
  have c1 := Lib.hid (fun W => un_58 a u ha hu W)
  have c2 := Lib.hid (fun W => Binary_of 58 a b 0 61 (fun W => got_same (bin_other 58 a b (by decide) (by decide) (by decide) (by decide) (by decide) (by decide) (by decide) (by decide) (by decide) (by decide) (by decide) (by decide) (by decide) (by decide) (by decide) (by decide) (by decide) W)) W)
  have c3 := Lib.hid (fun W => hol_other 58 a b (by decide) (by decide) (by decide) (by decide) (by decide) (by decide) (by decide) (by decide) (by decide) (by decide) (by decide) (by decide) (by decide) (by decide) (by decide) (by decide) W)
  have c4 := Lib.hid (fun W => swap_other 58 (by decide) (by decide) (by decide) (by decide) (by decide) (by decide) (by decide) (by decide) (by decide) (by decide) (by decide) (by decide) (by decide) (by decide) (by decide) (by decide) W)
  have c5 := Lib.hid (fun W => oppo_other 58 (by decide) (by decide) (by decide) (by decide) (by decide) (by decide) (by decide) (by decide) (by decide) (by decide) (by decide) (by decide) (by decide) (by decide) (by decide) (by decide) W)
  go_enter Try.func14, Try.ntmps14
  go_wp2_with fail
  refine (c1.out _).mono ?_
  rintro e w' ⟨rfl, rfl⟩
  go_wp2_with fail
  refine (c2.out _).mono ?_
  rintro e w' ⟨rfl, g⟩
  go_wp2_with fail
  refine (c3.out _).mono ?_
  rintro e w' ⟨rfl, rfl⟩
  go_wp2_with fail
  refine (c4.out _).mono ?_
  rintro e w' ⟨rfl, rfl⟩
  go_wp2_with fail
  refine (c5.out _).mono ?_
  rintro e w' ⟨rfl, rfl⟩
  go_wp2
  go_ret
  exact ⟨rfl, g⟩

set_option maxHeartbeats 1000000 in
theorem tab_59 (a b : Nat) (ha : a ≤ 4294967295) (hb : b ≤ 4294967295) (w : World) :
    Calls Try.prog 14 #[.int .u8 59, .int .u32 (a : Int), .int .u32 (b : Int)] w (Ret w (.bool true)) := by
  obtain ⟨u, hu⟩ := nat_of_mod (towD (single.read a))
  have c1 := Lib.hid (fun W => un_59 a u ha hu W)
  have c2 := Lib.hid (fun W => Binary_of 59 a b 0 61 (fun W => got_same (bin_other 59 a b (by decide) (by decide) (by decide) (by decide) (by decide) (by decide) (by decide) (by decide) (by decide) (by decide) (by decide) (by decide) (by decide) (by decide) (by decide) (by decide) (by decide) W)) W)
  have c3 := Lib.hid (fun W => hol_other 59 a b (by decide) (by decide) (by decide) (by decide) (by decide) (by decide) (by decide) (by decide) (by decide) (by decide) (by decide) (by decide) (by decide) (by decide) (by decide) (by decide) W)
  have c4 := Lib.hid (fun W => swap_other 59 (by decide) (by decide) (by decide) (by decide) (by decide) (by decide) (by decide) (by decide) (by decide) (by decide) (by decide) (by decide) (by decide) (by decide) (by decide) (by decide) W)
  have c5 := Lib.hid (fun W => oppo_other 59 (by decide) (by decide) (by decide) (by decide) (by decide) (by decide) (by decide) (by decide) (by decide) (by decide) (by decide) (by decide) (by decide) (by decide) (by decide) (by decide) W)
  go_enter Try.func14, Try.ntmps14
  go_wp2_with fail
  refine (c1.out _).mono ?_
  rintro e w' ⟨rfl, rfl⟩
  go_wp2_with fail
  refine (c2.out _).mono ?_
  rintro e w' ⟨rfl, g⟩
  go_wp2_with fail
  refine (c3.out _).mono ?_
  rintro e w' ⟨rfl, rfl⟩
  go_wp2_with fail
  refine (c4.out _).mono ?_
  rintro e w' ⟨rfl, rfl⟩
  go_wp2_with fail
  refine (c5.out _).mono ?_
  rintro e w' ⟨rfl, rfl⟩
  go_wp2
  go_ret
  exact ⟨rfl, g⟩

set_option maxHeartbeats 1000000 in
theorem tab_42_nought (a : Nat) (ha : a ≤ 4294967295) (w : World) :
    Calls Try.prog 14 #[.int .u8 42, .int .u32 (a : Int), .int .u32 0] w (Ret w (.bool true)) := by
  have c1 := Lib.hid (fun W => un_other 42 a (by decide) (by decide) (by decide) (by decide) (by decide) (by decide) (by decide) W)
  have c2 := Lib.hid (fun W => Binary_42_nought a W)
  have c3 := Lib.hid (fun W => hol_other 42 a 0 (by decide) (by decide) (by decide) (by decide) (by decide) (by decide) (by decide) (by decide) (by decide) (by decide) (by decide) (by decide) (by decide) (by decide) (by decide) (by decide) W)
  have c4 := Lib.hid (fun W => swap_other 42 (by decide) (by decide) (by decide) (by decide) (by decide) (by decide) (by decide) (by decide) (by decide) (by decide) (by decide) (by decide) (by decide) (by decide) (by decide) (by decide) W)
  have c5 := Lib.hid (fun W => oppo_other 42 (by decide) (by decide) (by decide) (by decide) (by decide) (by decide) (by decide) (by decide) (by decide) (by decide) (by decide) (by decide) (by decide) (by decide) (by decide) (by decide) W)
  go_enter Try.func14, Try.ntmps14
  go_wp2_with fail
  refine (c1.out _).mono ?_
  rintro e w' ⟨rfl, rfl⟩
  go_wp2_with fail
  refine (c2.out _).mono ?_
  rintro e w' ⟨rfl, g⟩
  go_wp2_with fail
  refine (c3.out _).mono ?_
  rintro e w' ⟨rfl, rfl⟩
  go_wp2_with fail
  refine (c4.out _).mono ?_
  rintro e w' ⟨rfl, rfl⟩
  go_wp2_with fail
  refine (c5.out _).mono ?_
  rintro e w' ⟨rfl, rfl⟩
  go_wp2
  go_ret
  exact ⟨rfl, g⟩

set_option maxHeartbeats 1000000 in
theorem tab_43_nought (a : Nat) (ha : a ≤ 4294967295) (w : World) :
    Calls Try.prog 14 #[.int .u8 43, .int .u32 (a : Int), .int .u32 0] w (Ret w (.bool true)) := by
  have c1 := Lib.hid (fun W => un_other 43 a (by decide) (by decide) (by decide) (by decide) (by decide) (by decide) (by decide) W)
  have c2 := Lib.hid (fun W => Binary_43_nought a W)
  have c3 := Lib.hid (fun W => hol_other 43 a 0 (by decide) (by decide) (by decide) (by decide) (by decide) (by decide) (by decide) (by decide) (by decide) (by decide) (by decide) (by decide) (by decide) (by decide) (by decide) (by decide) W)
  have c4 := Lib.hid (fun W => swap_other 43 (by decide) (by decide) (by decide) (by decide) (by decide) (by decide) (by decide) (by decide) (by decide) (by decide) (by decide) (by decide) (by decide) (by decide) (by decide) (by decide) W)
  have c5 := Lib.hid (fun W => oppo_other 43 (by decide) (by decide) (by decide) (by decide) (by decide) (by decide) (by decide) (by decide) (by decide) (by decide) (by decide) (by decide) (by decide) (by decide) (by decide) (by decide) W)
  go_enter Try.func14, Try.ntmps14
  go_wp2_with fail
  refine (c1.out _).mono ?_
  rintro e w' ⟨rfl, rfl⟩
  go_wp2_with fail
  refine (c2.out _).mono ?_
  rintro e w' ⟨rfl, g⟩
  go_wp2_with fail
  refine (c3.out _).mono ?_
  rintro e w' ⟨rfl, rfl⟩
  go_wp2_with fail
  refine (c4.out _).mono ?_
  rintro e w' ⟨rfl, rfl⟩
  go_wp2_with fail
  refine (c5.out _).mono ?_
  rintro e w' ⟨rfl, rfl⟩
  go_wp2
  go_ret
  exact ⟨rfl, g⟩

set_option maxHeartbeats 1000000 in
theorem tab_44_nought (a : Nat) (ha : a ≤ 4294967295) (w : World) :
    Calls Try.prog 14 #[.int .u8 44, .int .u32 (a : Int), .int .u32 0] w (Ret w (.bool true)) := by
  have c1 := Lib.hid (fun W => un_other 44 a (by decide) (by decide) (by decide) (by decide) (by decide) (by decide) (by decide) W)
  have c2 := Lib.hid (fun W => Binary_44_nought a W)
  have c3 := Lib.hid (fun W => hol_other 44 a 0 (by decide) (by decide) (by decide) (by decide) (by decide) (by decide) (by decide) (by decide) (by decide) (by decide) (by decide) (by decide) (by decide) (by decide) (by decide) (by decide) W)
  have c4 := Lib.hid (fun W => swap_other 44 (by decide) (by decide) (by decide) (by decide) (by decide) (by decide) (by decide) (by decide) (by decide) (by decide) (by decide) (by decide) (by decide) (by decide) (by decide) (by decide) W)
  have c5 := Lib.hid (fun W => oppo_other 44 (by decide) (by decide) (by decide) (by decide) (by decide) (by decide) (by decide) (by decide) (by decide) (by decide) (by decide) (by decide) (by decide) (by decide) (by decide) (by decide) W)
  go_enter Try.func14, Try.ntmps14
  go_wp2_with fail
  refine (c1.out _).mono ?_
  rintro e w' ⟨rfl, rfl⟩
  go_wp2_with fail
  refine (c2.out _).mono ?_
  rintro e w' ⟨rfl, g⟩
  go_wp2_with fail
  refine (c3.out _).mono ?_
  rintro e w' ⟨rfl, rfl⟩
  go_wp2_with fail
  refine (c4.out _).mono ?_
  rintro e w' ⟨rfl, rfl⟩
  go_wp2_with fail
  refine (c5.out _).mono ?_
  rintro e w' ⟨rfl, rfl⟩
  go_wp2
  go_ret
  exact ⟨rfl, g⟩

set_option maxHeartbeats 1000000 in
theorem tab_45_nought (a : Nat) (ha : a ≤ 4294967295) (w : World) :
    Calls Try.prog 14 #[.int .u8 45, .int .u32 (a : Int), .int .u32 0] w (Ret w (.bool true)) := by
  have c1 := Lib.hid (fun W => un_other 45 a (by decide) (by decide) (by decide) (by decide) (by decide) (by decide) (by decide) W)
  have c2 := Lib.hid (fun W => Binary_45_nought a W)
  have c3 := Lib.hid (fun W => hol_other 45 a 0 (by decide) (by decide) (by decide) (by decide) (by decide) (by decide) (by decide) (by decide) (by decide) (by decide) (by decide) (by decide) (by decide) (by decide) (by decide) (by decide) W)
  have c4 := Lib.hid (fun W => swap_other 45 (by decide) (by decide) (by decide) (by decide) (by decide) (by decide) (by decide) (by decide) (by decide) (by decide) (by decide) (by decide) (by decide) (by decide) (by decide) (by decide) W)
  have c5 := Lib.hid (fun W => oppo_other 45 (by decide) (by decide) (by decide) (by decide) (by decide) (by decide) (by decide) (by decide) (by decide) (by decide) (by decide) (by decide) (by decide) (by decide) (by decide) (by decide) W)
  go_enter Try.func14, Try.ntmps14
  go_wp2_with fail
  refine (c1.out _).mono ?_
  rintro e w' ⟨rfl, rfl⟩
  go_wp2_with fail
  refine (c2.out _).mono ?_
  rintro e w' ⟨rfl, g⟩
  go_wp2_with fail
  refine (c3.out _).mono ?_
  rintro e w' ⟨rfl, rfl⟩
  go_wp2_with fail
  refine (c4.out _).mono ?_
  rintro e w' ⟨rfl, rfl⟩
  go_wp2_with fail
  refine (c5.out _).mono ?_
  rintro e w' ⟨rfl, rfl⟩
  go_wp2
  go_ret
  exact ⟨rfl, g⟩

set_option maxHeartbeats 1000000 in
theorem tab_other (op : Int) (a b : Nat) (hn : ∀ k : Int, 13 ≤ k → k ≤ 28 → (op == k) = false) (hn2 : ∀ k : Int, 36 ≤ k → k ≤ 59 → (op == k) = false)
    (t1 t2 t3 t4 : Bool) (h1 : decide (13 ≤ op) = t1) (h2 : decide (op ≤ 28) = t2) (h3 : decide (36 ≤ op) = t3) (h4 : decide (op ≤ 59) = t4) (h5 : (t1 && t2 || t3 && t4) = false) (h6 : (t1 && t2) = false) (w : World) :
    Calls Try.prog 14 #[.int .u8 op, .int .u32 (a : Int), .int .u32 (b : Int)] w (Ret w (.bool true)) := by
  have c1 := Lib.hid (fun W => un_other op a (hn2 36 (by decide) (by decide)) (hn2 37 (by decide) (by decide)) (hn2 38 (by decide) (by decide)) (hn2 49 (by decide) (by decide)) (hn2 53 (by decide) (by decide)) (hn2 58 (by decide) (by decide)) (hn2 59 (by decide) (by decide)) W)
  have c2 := Lib.hid (fun W => Binary_of op a b 0 61 (fun W => got_same (bin_other op a b (hn2 39 (by decide) (by decide)) (hn2 40 (by decide) (by decide)) (hn2 41 (by decide) (by decide)) (hn2 42 (by decide) (by decide)) (hn2 43 (by decide) (by decide)) (hn2 44 (by decide) (by decide)) (hn2 45 (by decide) (by decide)) (hn2 46 (by decide) (by decide)) (hn2 47 (by decide) (by decide)) (hn2 48 (by decide) (by decide)) (hn2 50 (by decide) (by decide)) (hn2 51 (by decide) (by decide)) (hn2 52 (by decide) (by decide)) (hn2 54 (by decide) (by decide)) (hn2 55 (by decide) (by decide)) (hn2 56 (by decide) (by decide)) (hn2 57 (by decide) (by decide)) W)) W)
  have c3 := Lib.hid (fun W => hol_other op a b (hn 13 (by decide) (by decide)) (hn 14 (by decide) (by decide)) (hn 15 (by decide) (by decide)) (hn 16 (by decide) (by decide)) (hn 17 (by decide) (by decide)) (hn 18 (by decide) (by decide)) (hn 19 (by decide) (by decide)) (hn 20 (by decide) (by decide)) (hn 21 (by decide) (by decide)) (hn 22 (by decide) (by decide)) (hn 23 (by decide) (by decide)) (hn 24 (by decide) (by decide)) (hn 25 (by decide) (by decide)) (hn 26 (by decide) (by decide)) (hn 27 (by decide) (by decide)) (hn 28 (by decide) (by decide)) W)
  have c4 := Lib.hid (fun W => swap_other op (hn 13 (by decide) (by decide)) (hn 14 (by decide) (by decide)) (hn 15 (by decide) (by decide)) (hn 16 (by decide) (by decide)) (hn 17 (by decide) (by decide)) (hn 18 (by decide) (by decide)) (hn 19 (by decide) (by decide)) (hn 20 (by decide) (by decide)) (hn 21 (by decide) (by decide)) (hn 22 (by decide) (by decide)) (hn 23 (by decide) (by decide)) (hn 24 (by decide) (by decide)) (hn 25 (by decide) (by decide)) (hn 26 (by decide) (by decide)) (hn 27 (by decide) (by decide)) (hn 28 (by decide) (by decide)) W)
  have c5 := Lib.hid (fun W => oppo_other op (hn 13 (by decide) (by decide)) (hn 14 (by decide) (by decide)) (hn 15 (by decide) (by decide)) (hn 16 (by decide) (by decide)) (hn 17 (by decide) (by decide)) (hn 18 (by decide) (by decide)) (hn 19 (by decide) (by decide)) (hn 20 (by decide) (by decide)) (hn 21 (by decide) (by decide)) (hn 22 (by decide) (by decide)) (hn 23 (by decide) (by decide)) (hn 24 (by decide) (by decide)) (hn 25 (by decide) (by decide)) (hn 26 (by decide) (by decide)) (hn 27 (by decide) (by decide)) (hn 28 (by decide) (by decide)) W)
  clear hn hn2
  cases t1 <;> cases t2 <;> cases t3 <;> cases t4 <;> first | (exact absurd h5 (by decide)) | (exact absurd h6 (by decide)) | skip
  all_goals
    clear h5 h6
    go_enter Try.func14, Try.ntmps14
    go_wp2_with fail
    refine (c1.out _).mono ?_
    rintro e w' ⟨rfl, rfl⟩
    go_wp2_with fail
    refine (c2.out _).mono ?_
    rintro e w' ⟨rfl, g⟩
    go_wp2_with fail
    refine (c3.out _).mono ?_
    rintro e w' ⟨rfl, rfl⟩
    go_wp2_with fail
    refine (c4.out _).mono ?_
    rintro e w' ⟨rfl, rfl⟩
    go_wp2_with fail
    refine (c5.out _).mono ?_
    rintro e w' ⟨rfl, rfl⟩
    go_wp2
    go_ret
    exact ⟨rfl, g⟩
end Go.Proofs.Ytfgbjaejkfkmmaa
