/- AluUnary and AluHolds at each operation (printed by a program of ours). -/
import Derived.Test.YtfgbjaejkfkmmaaAluR
namespace Go.Proofs.Ytfgbjaejkfkmmaa
open Go.RowKit Ieee
set_option linter.unusedVariables false

theorem lun_36 (a : Nat) (ha : a ≤ 4294967295) (w : World) : Calls Try.prog 4 #[.int .u8 36, .int .u32 (a : Int)] w (Ret w (.bool true)) := by
  obtain ⟨u, hu⟩ : ∃ u, sex8 a = u := ⟨_, rfl⟩
  have c1 := Lib.hid (fun W => un_36 a u ha hu W)
  have c2 := Lib.hid (fun W => run_36 a u ha hu W)
  clear hu ha
  go_enter Try.func4, Try.ntmps4
  go_wp2_with fail
  refine (c1.out _).mono ?_
  rintro e w' ⟨rfl, rfl⟩
  go_wp2_with fail
  refine (c2.out _).mono ?_
  rintro e w' ⟨rfl, hb⟩
  go_wp2
  go_ret
  exact ⟨ret_same (by simp), hb⟩

theorem lun_37 (a : Nat) (ha : a ≤ 4294967295) (w : World) : Calls Try.prog 4 #[.int .u8 37, .int .u32 (a : Int)] w (Ret w (.bool true)) := by
  obtain ⟨u, hu⟩ : ∃ u, sex16 a = u := ⟨_, rfl⟩
  have c1 := Lib.hid (fun W => un_37 a u ha hu W)
  have c2 := Lib.hid (fun W => run_37 a u ha hu W)
  clear hu ha
  go_enter Try.func4, Try.ntmps4
  go_wp2_with fail
  refine (c1.out _).mono ?_
  rintro e w' ⟨rfl, rfl⟩
  go_wp2_with fail
  refine (c2.out _).mono ?_
  rintro e w' ⟨rfl, hb⟩
  go_wp2
  go_ret
  exact ⟨ret_same (by simp), hb⟩

theorem lun_38 (a : Nat) (ha : a ≤ 4294967295) (w : World) : Calls Try.prog 4 #[.int .u8 38, .int .u32 (a : Int)] w (Ret w (.bool true)) := by
  obtain ⟨u, hu⟩ : ∃ u, (4294967296 - a) % 4294967296 = u := ⟨_, rfl⟩
  have c1 := Lib.hid (fun W => un_38 a u ha hu W)
  have c2 := Lib.hid (fun W => run_38 a u ha hu W)
  clear hu ha
  go_enter Try.func4, Try.ntmps4
  go_wp2_with fail
  refine (c1.out _).mono ?_
  rintro e w' ⟨rfl, rfl⟩
  go_wp2_with fail
  refine (c2.out _).mono ?_
  rintro e w' ⟨rfl, hb⟩
  go_wp2
  go_ret
  exact ⟨ret_same (by simp), hb⟩

theorem lun_49 (a : Nat) (ha : a ≤ 4294967295) (w : World) : Calls Try.prog 4 #[.int .u8 49, .int .u32 (a : Int)] w (Ret w (.bool true)) := by
  obtain ⟨u, hu⟩ : ∃ u, 4294967295 - a = u := ⟨_, rfl⟩
  have c1 := Lib.hid (fun W => un_49 a u ha hu W)
  have c2 := Lib.hid (fun W => run_49 a u ha hu W)
  clear hu ha
  go_enter Try.func4, Try.ntmps4
  go_wp2_with fail
  refine (c1.out _).mono ?_
  rintro e w' ⟨rfl, rfl⟩
  go_wp2_with fail
  refine (c2.out _).mono ?_
  rintro e w' ⟨rfl, hb⟩
  go_wp2
  go_ret
  exact ⟨ret_same (by simp), hb⟩

theorem lun_53 (a : Nat) (ha : a ≤ 4294967295) (w : World) : Calls Try.prog 4 #[.int .u8 53, .int .u32 (a : Int)] w (Ret w (.bool true)) := by
  obtain ⟨u, hu⟩ : ∃ u, turnW a = u := ⟨_, rfl⟩
  have c1 := Lib.hid (fun W => un_53 a u ha hu W)
  have c2 := Lib.hid (fun W => run_53 a u ha hu W)
  clear hu ha
  go_enter Try.func4, Try.ntmps4
  go_wp2_with fail
  refine (c1.out _).mono ?_
  rintro e w' ⟨rfl, rfl⟩
  go_wp2_with fail
  refine (c2.out _).mono ?_
  rintro e w' ⟨rfl, hb⟩
  go_wp2
  go_ret
  exact ⟨ret_same (by simp), hb⟩

theorem lun_58 (a : Nat) (ha : a ≤ 4294967295) (w : World) : Calls Try.prog 4 #[.int .u8 58, .int .u32 (a : Int)] w (Ret w (.bool true)) := by
  obtain ⟨u, hu⟩ : ∃ u, ofW (wrap32 (a : Int)) = u := ⟨_, rfl⟩
  have c1 := Lib.hid (fun W => un_58 a u ha hu W)
  have c2 := Lib.hid (fun W => run_58 a u ha hu W)
  clear hu ha
  go_enter Try.func4, Try.ntmps4
  go_wp2_with fail
  refine (c1.out _).mono ?_
  rintro e w' ⟨rfl, rfl⟩
  go_wp2_with fail
  refine (c2.out _).mono ?_
  rintro e w' ⟨rfl, hb⟩
  go_wp2
  go_ret
  exact ⟨ret_same (by simp), hb⟩

theorem lun_59 (a : Nat) (ha : a ≤ 4294967295) (w : World) : Calls Try.prog 4 #[.int .u8 59, .int .u32 (a : Int)] w (Ret w (.bool true)) := by
  obtain ⟨u, hu⟩ : ∃ q : Nat, towD (single.read a) % 4294967296 = (q : Int) := Int.eq_ofNat_of_zero_le (Int.emod_nonneg _ (by decide))
  have c1 := Lib.hid (fun W => un_59 a u ha hu W)
  have c2 := Lib.hid (fun W => run_59 a u ha hu W)
  clear hu ha
  go_enter Try.func4, Try.ntmps4
  go_wp2_with fail
  refine (c1.out _).mono ?_
  rintro e w' ⟨rfl, rfl⟩
  go_wp2_with fail
  refine (c2.out _).mono ?_
  rintro e w' ⟨rfl, hb⟩
  go_wp2
  go_ret
  exact ⟨ret_same (by simp), hb⟩

theorem lun_other (op : Int) (a : Int) (h36 : ((op : Int) == 36) = false) (h37 : ((op : Int) == 37) = false) (h38 : ((op : Int) == 38) = false) (h49 : ((op : Int) == 49) = false) (h53 : ((op : Int) == 53) = false) (h58 : ((op : Int) == 58) = false) (h59 : ((op : Int) == 59) = false) (w : World) : Calls Try.prog 4 #[.int .u8 op, .int .u32 a] w (Ret w (.bool true)) := by
  have c1 := Lib.hid (fun W => un_other op a h36 h37 h38 h49 h53 h58 h59 W)
  have c2 := Lib.hid (fun W => run_other op a h36 h37 h38 h49 h53 h58 h59 W)
  clear h36 h37 h38 h49 h53 h58 h59
  go_enter Try.func4, Try.ntmps4
  go_wp2_with fail
  refine (c1.out _).mono ?_
  rintro e w' ⟨rfl, rfl⟩
  go_wp2_with fail
  refine (c2.out _).mono ?_
  rintro e w' ⟨rfl, hb⟩
  go_wp2
  go_ret
  exact ⟨ret_same (by simp), hb⟩

theorem lho_13 (a b : Nat) (ha : a ≤ 4294967295) (hb : b ≤ 4294967295) (w : World) : Calls Try.prog 5 #[.int .u8 13, .int .u32 (a : Int), .int .u32 (b : Int)] w (Ret w (.bool true)) := by
  obtain ⟨u, hu⟩ : ∃ u, decide (a = b) = u := ⟨_, rfl⟩
  have c1 := Lib.hid (fun W => hol_13 a b u hu W)
  have c2 := Lib.hid (fun W => rhol_13 a b ha hb u hu W)
  clear hu ha hb
  cases u
  all_goals
    go_enter Try.func5, Try.ntmps5
    go_wp2_with fail
    refine (c1.out _).mono ?_
    rintro e w' ⟨rfl, rfl⟩
    go_wp2_with fail
    refine (c2.out _).mono ?_
    rintro e w' ⟨rfl, hb⟩
    go_wp2
    go_ret
    exact ⟨ret_same (by simp), hb⟩

theorem lho_14 (a b : Nat) (ha : a ≤ 4294967295) (hb : b ≤ 4294967295) (w : World) : Calls Try.prog 5 #[.int .u8 14, .int .u32 (a : Int), .int .u32 (b : Int)] w (Ret w (.bool true)) := by
  obtain ⟨u, hu⟩ : ∃ u, decide (¬ a = b) = u := ⟨_, rfl⟩
  have c1 := Lib.hid (fun W => hol_14 a b u hu W)
  have c2 := Lib.hid (fun W => rhol_14 a b ha hb u hu W)
  clear hu ha hb
  cases u
  all_goals
    go_enter Try.func5, Try.ntmps5
    go_wp2_with fail
    refine (c1.out _).mono ?_
    rintro e w' ⟨rfl, rfl⟩
    go_wp2_with fail
    refine (c2.out _).mono ?_
    rintro e w' ⟨rfl, hb⟩
    go_wp2
    go_ret
    exact ⟨ret_same (by simp), hb⟩

theorem lho_15 (a b : Nat) (ha : a ≤ 4294967295) (hb : b ≤ 4294967295) (w : World) : Calls Try.prog 5 #[.int .u8 15, .int .u32 (a : Int), .int .u32 (b : Int)] w (Ret w (.bool true)) := by
  obtain ⟨u, hu⟩ : ∃ u, decide (wrap32 (a : Int) < wrap32 (b : Int)) = u := ⟨_, rfl⟩
  have c1 := Lib.hid (fun W => hol_15 a b u hu W)
  have c2 := Lib.hid (fun W => rhol_15 a b ha hb u hu W)
  clear hu ha hb
  cases u
  all_goals
    go_enter Try.func5, Try.ntmps5
    go_wp2_with fail
    refine (c1.out _).mono ?_
    rintro e w' ⟨rfl, rfl⟩
    go_wp2_with fail
    refine (c2.out _).mono ?_
    rintro e w' ⟨rfl, hb⟩
    go_wp2
    go_ret
    exact ⟨ret_same (by simp), hb⟩

theorem lho_16 (a b : Nat) (ha : a ≤ 4294967295) (hb : b ≤ 4294967295) (w : World) : Calls Try.prog 5 #[.int .u8 16, .int .u32 (a : Int), .int .u32 (b : Int)] w (Ret w (.bool true)) := by
  obtain ⟨u, hu⟩ : ∃ u, decide (wrap32 (a : Int) ≤ wrap32 (b : Int)) = u := ⟨_, rfl⟩
  have c1 := Lib.hid (fun W => hol_16 a b u hu W)
  have c2 := Lib.hid (fun W => rhol_16 a b ha hb u hu W)
  clear hu ha hb
  cases u
  all_goals
    go_enter Try.func5, Try.ntmps5
    go_wp2_with fail
    refine (c1.out _).mono ?_
    rintro e w' ⟨rfl, rfl⟩
    go_wp2_with fail
    refine (c2.out _).mono ?_
    rintro e w' ⟨rfl, hb⟩
    go_wp2
    go_ret
    exact ⟨ret_same (by simp), hb⟩

theorem lho_17 (a b : Nat) (ha : a ≤ 4294967295) (hb : b ≤ 4294967295) (w : World) : Calls Try.prog 5 #[.int .u8 17, .int .u32 (a : Int), .int .u32 (b : Int)] w (Ret w (.bool true)) := by
  obtain ⟨u, hu⟩ : ∃ u, decide (wrap32 (b : Int) < wrap32 (a : Int)) = u := ⟨_, rfl⟩
  have c1 := Lib.hid (fun W => hol_17 a b u hu W)
  have c2 := Lib.hid (fun W => rhol_17 a b ha hb u hu W)
  clear hu ha hb
  cases u
  all_goals
    go_enter Try.func5, Try.ntmps5
    go_wp2_with fail
    refine (c1.out _).mono ?_
    rintro e w' ⟨rfl, rfl⟩
    go_wp2_with fail
    refine (c2.out _).mono ?_
    rintro e w' ⟨rfl, hb⟩
    go_wp2
    go_ret
    exact ⟨ret_same (by simp), hb⟩

theorem lho_18 (a b : Nat) (ha : a ≤ 4294967295) (hb : b ≤ 4294967295) (w : World) : Calls Try.prog 5 #[.int .u8 18, .int .u32 (a : Int), .int .u32 (b : Int)] w (Ret w (.bool true)) := by
  obtain ⟨u, hu⟩ : ∃ u, decide (wrap32 (b : Int) ≤ wrap32 (a : Int)) = u := ⟨_, rfl⟩
  have c1 := Lib.hid (fun W => hol_18 a b u hu W)
  have c2 := Lib.hid (fun W => rhol_18 a b ha hb u hu W)
  clear hu ha hb
  cases u
  all_goals
    go_enter Try.func5, Try.ntmps5
    go_wp2_with fail
    refine (c1.out _).mono ?_
    rintro e w' ⟨rfl, rfl⟩
    go_wp2_with fail
    refine (c2.out _).mono ?_
    rintro e w' ⟨rfl, hb⟩
    go_wp2
    go_ret
    exact ⟨ret_same (by simp), hb⟩

theorem lho_19 (a b : Nat) (ha : a ≤ 4294967295) (hb : b ≤ 4294967295) (w : World) : Calls Try.prog 5 #[.int .u8 19, .int .u32 (a : Int), .int .u32 (b : Int)] w (Ret w (.bool true)) := by
  obtain ⟨u, hu⟩ : ∃ u, decide (a < b) = u := ⟨_, rfl⟩
  have c1 := Lib.hid (fun W => hol_19 a b u hu W)
  have c2 := Lib.hid (fun W => rhol_19 a b ha hb u hu W)
  clear hu ha hb
  cases u
  all_goals
    go_enter Try.func5, Try.ntmps5
    go_wp2_with fail
    refine (c1.out _).mono ?_
    rintro e w' ⟨rfl, rfl⟩
    go_wp2_with fail
    refine (c2.out _).mono ?_
    rintro e w' ⟨rfl, hb⟩
    go_wp2
    go_ret
    exact ⟨ret_same (by simp), hb⟩

theorem lho_20 (a b : Nat) (ha : a ≤ 4294967295) (hb : b ≤ 4294967295) (w : World) : Calls Try.prog 5 #[.int .u8 20, .int .u32 (a : Int), .int .u32 (b : Int)] w (Ret w (.bool true)) := by
  obtain ⟨u, hu⟩ : ∃ u, decide (a ≤ b) = u := ⟨_, rfl⟩
  have c1 := Lib.hid (fun W => hol_20 a b u hu W)
  have c2 := Lib.hid (fun W => rhol_20 a b ha hb u hu W)
  clear hu ha hb
  cases u
  all_goals
    go_enter Try.func5, Try.ntmps5
    go_wp2_with fail
    refine (c1.out _).mono ?_
    rintro e w' ⟨rfl, rfl⟩
    go_wp2_with fail
    refine (c2.out _).mono ?_
    rintro e w' ⟨rfl, hb⟩
    go_wp2
    go_ret
    exact ⟨ret_same (by simp), hb⟩

theorem lho_21 (a b : Nat) (ha : a ≤ 4294967295) (hb : b ≤ 4294967295) (w : World) : Calls Try.prog 5 #[.int .u8 21, .int .u32 (a : Int), .int .u32 (b : Int)] w (Ret w (.bool true)) := by
  obtain ⟨u, hu⟩ : ∃ u, decide (b < a) = u := ⟨_, rfl⟩
  have c1 := Lib.hid (fun W => hol_21 a b u hu W)
  have c2 := Lib.hid (fun W => rhol_21 a b ha hb u hu W)
  clear hu ha hb
  cases u
  all_goals
    go_enter Try.func5, Try.ntmps5
    go_wp2_with fail
    refine (c1.out _).mono ?_
    rintro e w' ⟨rfl, rfl⟩
    go_wp2_with fail
    refine (c2.out _).mono ?_
    rintro e w' ⟨rfl, hb⟩
    go_wp2
    go_ret
    exact ⟨ret_same (by simp), hb⟩

theorem lho_22 (a b : Nat) (ha : a ≤ 4294967295) (hb : b ≤ 4294967295) (w : World) : Calls Try.prog 5 #[.int .u8 22, .int .u32 (a : Int), .int .u32 (b : Int)] w (Ret w (.bool true)) := by
  obtain ⟨u, hu⟩ : ∃ u, decide (b ≤ a) = u := ⟨_, rfl⟩
  have c1 := Lib.hid (fun W => hol_22 a b u hu W)
  have c2 := Lib.hid (fun W => rhol_22 a b ha hb u hu W)
  clear hu ha hb
  cases u
  all_goals
    go_enter Try.func5, Try.ntmps5
    go_wp2_with fail
    refine (c1.out _).mono ?_
    rintro e w' ⟨rfl, rfl⟩
    go_wp2_with fail
    refine (c2.out _).mono ?_
    rintro e w' ⟨rfl, hb⟩
    go_wp2
    go_ret
    exact ⟨ret_same (by simp), hb⟩

theorem lho_23 (a b : Nat) (ha : a ≤ 4294967295) (hb : b ≤ 4294967295) (w : World) : Calls Try.prog 5 #[.int .u8 23, .int .u32 (a : Int), .int .u32 (b : Int)] w (Ret w (.bool true)) := by
  obtain ⟨u, hu⟩ : ∃ u, fcmp 23 (sideOf (single.order a b)) = u := ⟨_, rfl⟩
  have c1 := Lib.hid (fun W => hol_23 a b u hu W)
  have c2 := Lib.hid (fun W => rhol_23 a b ha hb u hu W)
  clear hu ha hb
  cases u
  all_goals
    go_enter Try.func5, Try.ntmps5
    go_wp2_with fail
    refine (c1.out _).mono ?_
    rintro e w' ⟨rfl, rfl⟩
    go_wp2_with fail
    refine (c2.out _).mono ?_
    rintro e w' ⟨rfl, hb⟩
    go_wp2
    go_ret
    exact ⟨ret_same (by simp), hb⟩

theorem lho_24 (a b : Nat) (ha : a ≤ 4294967295) (hb : b ≤ 4294967295) (w : World) : Calls Try.prog 5 #[.int .u8 24, .int .u32 (a : Int), .int .u32 (b : Int)] w (Ret w (.bool true)) := by
  obtain ⟨u, hu⟩ : ∃ u, fcmp 24 (sideOf (single.order a b)) = u := ⟨_, rfl⟩
  have c1 := Lib.hid (fun W => hol_24 a b u hu W)
  have c2 := Lib.hid (fun W => rhol_24 a b ha hb u hu W)
  clear hu ha hb
  cases u
  all_goals
    go_enter Try.func5, Try.ntmps5
    go_wp2_with fail
    refine (c1.out _).mono ?_
    rintro e w' ⟨rfl, rfl⟩
    go_wp2_with fail
    refine (c2.out _).mono ?_
    rintro e w' ⟨rfl, hb⟩
    go_wp2
    go_ret
    exact ⟨ret_same (by simp), hb⟩

theorem lho_25 (a b : Nat) (ha : a ≤ 4294967295) (hb : b ≤ 4294967295) (w : World) : Calls Try.prog 5 #[.int .u8 25, .int .u32 (a : Int), .int .u32 (b : Int)] w (Ret w (.bool true)) := by
  obtain ⟨u, hu⟩ : ∃ u, fcmp 25 (sideOf (single.order a b)) = u := ⟨_, rfl⟩
  have c1 := Lib.hid (fun W => hol_25 a b u hu W)
  have c2 := Lib.hid (fun W => rhol_25 a b ha hb u hu W)
  clear hu ha hb
  cases u
  all_goals
    go_enter Try.func5, Try.ntmps5
    go_wp2_with fail
    refine (c1.out _).mono ?_
    rintro e w' ⟨rfl, rfl⟩
    go_wp2_with fail
    refine (c2.out _).mono ?_
    rintro e w' ⟨rfl, hb⟩
    go_wp2
    go_ret
    exact ⟨ret_same (by simp), hb⟩

theorem lho_26 (a b : Nat) (ha : a ≤ 4294967295) (hb : b ≤ 4294967295) (w : World) : Calls Try.prog 5 #[.int .u8 26, .int .u32 (a : Int), .int .u32 (b : Int)] w (Ret w (.bool true)) := by
  obtain ⟨u, hu⟩ : ∃ u, fcmp 26 (sideOf (single.order a b)) = u := ⟨_, rfl⟩
  have c1 := Lib.hid (fun W => hol_26 a b u hu W)
  have c2 := Lib.hid (fun W => rhol_26 a b ha hb u hu W)
  clear hu ha hb
  cases u
  all_goals
    go_enter Try.func5, Try.ntmps5
    go_wp2_with fail
    refine (c1.out _).mono ?_
    rintro e w' ⟨rfl, rfl⟩
    go_wp2_with fail
    refine (c2.out _).mono ?_
    rintro e w' ⟨rfl, hb⟩
    go_wp2
    go_ret
    exact ⟨ret_same (by simp), hb⟩

theorem lho_27 (a b : Nat) (ha : a ≤ 4294967295) (hb : b ≤ 4294967295) (w : World) : Calls Try.prog 5 #[.int .u8 27, .int .u32 (a : Int), .int .u32 (b : Int)] w (Ret w (.bool true)) := by
  obtain ⟨u, hu⟩ : ∃ u, fcmp 27 (sideOf (single.order a b)) = u := ⟨_, rfl⟩
  have c1 := Lib.hid (fun W => hol_27 a b u hu W)
  have c2 := Lib.hid (fun W => rhol_27 a b ha hb u hu W)
  clear hu ha hb
  cases u
  all_goals
    go_enter Try.func5, Try.ntmps5
    go_wp2_with fail
    refine (c1.out _).mono ?_
    rintro e w' ⟨rfl, rfl⟩
    go_wp2_with fail
    refine (c2.out _).mono ?_
    rintro e w' ⟨rfl, hb⟩
    go_wp2
    go_ret
    exact ⟨ret_same (by simp), hb⟩

theorem lho_28 (a b : Nat) (ha : a ≤ 4294967295) (hb : b ≤ 4294967295) (w : World) : Calls Try.prog 5 #[.int .u8 28, .int .u32 (a : Int), .int .u32 (b : Int)] w (Ret w (.bool true)) := by
  obtain ⟨u, hu⟩ : ∃ u, fcmp 28 (sideOf (single.order a b)) = u := ⟨_, rfl⟩
  have c1 := Lib.hid (fun W => hol_28 a b u hu W)
  have c2 := Lib.hid (fun W => rhol_28 a b ha hb u hu W)
  clear hu ha hb
  cases u
  all_goals
    go_enter Try.func5, Try.ntmps5
    go_wp2_with fail
    refine (c1.out _).mono ?_
    rintro e w' ⟨rfl, rfl⟩
    go_wp2_with fail
    refine (c2.out _).mono ?_
    rintro e w' ⟨rfl, hb⟩
    go_wp2
    go_ret
    exact ⟨ret_same (by simp), hb⟩

theorem lho_other (op : Int) (a b : Nat) (ha : a ≤ 4294967295) (hb : b ≤ 4294967295) (h13 : ((op : Int) == 13) = false) (h14 : ((op : Int) == 14) = false) (h15 : ((op : Int) == 15) = false) (h16 : ((op : Int) == 16) = false) (h17 : ((op : Int) == 17) = false) (h18 : ((op : Int) == 18) = false) (h19 : ((op : Int) == 19) = false) (h20 : ((op : Int) == 20) = false) (h21 : ((op : Int) == 21) = false) (h22 : ((op : Int) == 22) = false) (h23 : ((op : Int) == 23) = false) (h24 : ((op : Int) == 24) = false) (h25 : ((op : Int) == 25) = false) (h26 : ((op : Int) == 26) = false) (h27 : ((op : Int) == 27) = false) (h28 : ((op : Int) == 28) = false) (w : World) : Calls Try.prog 5 #[.int .u8 op, .int .u32 (a : Int), .int .u32 (b : Int)] w (Ret w (.bool true)) := by
  have c1 := Lib.hid (fun W => hol_other op a b h13 h14 h15 h16 h17 h18 h19 h20 h21 h22 h23 h24 h25 h26 h27 h28 W)
  have c2 := Lib.hid (fun W => rhol_other op a b ha hb h13 h14 h15 h16 h17 h18 h19 h20 h21 h22 h23 h24 h25 h26 h27 h28 W)
  clear ha hb h13 h14 h15 h16 h17 h18 h19 h20 h21 h22 h23 h24 h25 h26 h27 h28
  go_enter Try.func5, Try.ntmps5
  go_wp2_with fail
  refine (c1.out _).mono ?_
  rintro e w' ⟨rfl, rfl⟩
  go_wp2_with fail
  refine (c2.out _).mono ?_
  rintro e w' ⟨rfl, hb⟩
  go_wp2
  go_ret
  exact ⟨ret_same (by simp), hb⟩
end Go.Proofs.Ytfgbjaejkfkmmaa
