/- AluTurns at each operation (printed by a program of ours). -/
import Derived.Test.YtfgbjaejkfkmmaaAluA
namespace Go.Proofs.Ytfgbjaejkfkmmaa
open Go.RowKit Ieee
set_option linter.unusedVariables false

theorem below_all (sw : Bool) (op r : Nat) (h : ((List.range r).all fun p => decide (p < 13) || !agB sw op p) = true) (p : Nat) (h1 : p < r) (h2 : 13 ≤ p) : agB sw op p = false := by
  have := List.all_eq_true.1 h p (List.mem_range.2 h1)
  rw [decide_eq_false (by omega), Bool.false_or] at this
  simpa using this

theorem turns_13 (w : World) : Calls Try.prog 7 #[.int .u8 13] w (Ret w (.bool true)) := by
  have c1 := Lib.hid (fun W => swap_13 W)
  have c2 := Lib.hid (fun W => rswap_at 13 13 0 (by decide) (by decide) (.inl ⟨by decide, by decide, rfl, by decide +kernel, below_all true 13 13 (by decide +kernel)⟩) W)
  have c3 := Lib.hid (fun W => oppo_13 W)
  have c4 := Lib.hid (fun W => roppo_at 13 14 0 (by decide) (by decide) (.inl ⟨by decide, by decide, rfl, by decide +kernel, below_all false 13 14 (by decide +kernel)⟩) W)
  go_enter Try.func7, Try.ntmps7
  go_wp2_with fail
  refine (c1.out _).mono ?_
  rintro e w' ⟨rfl, rfl⟩
  go_wp2_with fail
  refine (c2.out _).mono ?_
  rintro e w' ⟨rfl, hb1⟩
  go_wp2_with fail
  refine (c3.out _).mono ?_
  rintro e w' ⟨rfl, rfl⟩
  go_wp2_with fail
  refine (c4.out _).mono ?_
  rintro e w' ⟨rfl, hb2⟩
  go_wp2
  go_ret
  exact ⟨ret_same (by simp), bs_step hb1 hb2⟩

theorem turns_14 (w : World) : Calls Try.prog 7 #[.int .u8 14] w (Ret w (.bool true)) := by
  have c1 := Lib.hid (fun W => swap_14 W)
  have c2 := Lib.hid (fun W => rswap_at 14 14 0 (by decide) (by decide) (.inl ⟨by decide, by decide, rfl, by decide +kernel, below_all true 14 14 (by decide +kernel)⟩) W)
  have c3 := Lib.hid (fun W => oppo_14 W)
  have c4 := Lib.hid (fun W => roppo_at 14 13 0 (by decide) (by decide) (.inl ⟨by decide, by decide, rfl, by decide +kernel, below_all false 14 13 (by decide +kernel)⟩) W)
  go_enter Try.func7, Try.ntmps7
  go_wp2_with fail
  refine (c1.out _).mono ?_
  rintro e w' ⟨rfl, rfl⟩
  go_wp2_with fail
  refine (c2.out _).mono ?_
  rintro e w' ⟨rfl, hb1⟩
  go_wp2_with fail
  refine (c3.out _).mono ?_
  rintro e w' ⟨rfl, rfl⟩
  go_wp2_with fail
  refine (c4.out _).mono ?_
  rintro e w' ⟨rfl, hb2⟩
  go_wp2
  go_ret
  exact ⟨ret_same (by simp), bs_step hb1 hb2⟩

theorem turns_15 (w : World) : Calls Try.prog 7 #[.int .u8 15] w (Ret w (.bool true)) := by
  have c1 := Lib.hid (fun W => swap_15 W)
  have c2 := Lib.hid (fun W => rswap_at 15 17 0 (by decide) (by decide) (.inl ⟨by decide, by decide, rfl, by decide +kernel, below_all true 15 17 (by decide +kernel)⟩) W)
  have c3 := Lib.hid (fun W => oppo_15 W)
  have c4 := Lib.hid (fun W => roppo_at 15 18 0 (by decide) (by decide) (.inl ⟨by decide, by decide, rfl, by decide +kernel, below_all false 15 18 (by decide +kernel)⟩) W)
  go_enter Try.func7, Try.ntmps7
  go_wp2_with fail
  refine (c1.out _).mono ?_
  rintro e w' ⟨rfl, rfl⟩
  go_wp2_with fail
  refine (c2.out _).mono ?_
  rintro e w' ⟨rfl, hb1⟩
  go_wp2_with fail
  refine (c3.out _).mono ?_
  rintro e w' ⟨rfl, rfl⟩
  go_wp2_with fail
  refine (c4.out _).mono ?_
  rintro e w' ⟨rfl, hb2⟩
  go_wp2
  go_ret
  exact ⟨ret_same (by simp), bs_step hb1 hb2⟩

theorem turns_16 (w : World) : Calls Try.prog 7 #[.int .u8 16] w (Ret w (.bool true)) := by
  have c1 := Lib.hid (fun W => swap_16 W)
  have c2 := Lib.hid (fun W => rswap_at 16 18 0 (by decide) (by decide) (.inl ⟨by decide, by decide, rfl, by decide +kernel, below_all true 16 18 (by decide +kernel)⟩) W)
  have c3 := Lib.hid (fun W => oppo_16 W)
  have c4 := Lib.hid (fun W => roppo_at 16 17 0 (by decide) (by decide) (.inl ⟨by decide, by decide, rfl, by decide +kernel, below_all false 16 17 (by decide +kernel)⟩) W)
  go_enter Try.func7, Try.ntmps7
  go_wp2_with fail
  refine (c1.out _).mono ?_
  rintro e w' ⟨rfl, rfl⟩
  go_wp2_with fail
  refine (c2.out _).mono ?_
  rintro e w' ⟨rfl, hb1⟩
  go_wp2_with fail
  refine (c3.out _).mono ?_
  rintro e w' ⟨rfl, rfl⟩
  go_wp2_with fail
  refine (c4.out _).mono ?_
  rintro e w' ⟨rfl, hb2⟩
  go_wp2
  go_ret
  exact ⟨ret_same (by simp), bs_step hb1 hb2⟩

theorem turns_17 (w : World) : Calls Try.prog 7 #[.int .u8 17] w (Ret w (.bool true)) := by
  have c1 := Lib.hid (fun W => swap_17 W)
  have c2 := Lib.hid (fun W => rswap_at 17 15 0 (by decide) (by decide) (.inl ⟨by decide, by decide, rfl, by decide +kernel, below_all true 17 15 (by decide +kernel)⟩) W)
  have c3 := Lib.hid (fun W => oppo_17 W)
  have c4 := Lib.hid (fun W => roppo_at 17 16 0 (by decide) (by decide) (.inl ⟨by decide, by decide, rfl, by decide +kernel, below_all false 17 16 (by decide +kernel)⟩) W)
  go_enter Try.func7, Try.ntmps7
  go_wp2_with fail
  refine (c1.out _).mono ?_
  rintro e w' ⟨rfl, rfl⟩
  go_wp2_with fail
  refine (c2.out _).mono ?_
  rintro e w' ⟨rfl, hb1⟩
  go_wp2_with fail
  refine (c3.out _).mono ?_
  rintro e w' ⟨rfl, rfl⟩
  go_wp2_with fail
  refine (c4.out _).mono ?_
  rintro e w' ⟨rfl, hb2⟩
  go_wp2
  go_ret
  exact ⟨ret_same (by simp), bs_step hb1 hb2⟩

theorem turns_18 (w : World) : Calls Try.prog 7 #[.int .u8 18] w (Ret w (.bool true)) := by
  have c1 := Lib.hid (fun W => swap_18 W)
  have c2 := Lib.hid (fun W => rswap_at 18 16 0 (by decide) (by decide) (.inl ⟨by decide, by decide, rfl, by decide +kernel, below_all true 18 16 (by decide +kernel)⟩) W)
  have c3 := Lib.hid (fun W => oppo_18 W)
  have c4 := Lib.hid (fun W => roppo_at 18 15 0 (by decide) (by decide) (.inl ⟨by decide, by decide, rfl, by decide +kernel, below_all false 18 15 (by decide +kernel)⟩) W)
  go_enter Try.func7, Try.ntmps7
  go_wp2_with fail
  refine (c1.out _).mono ?_
  rintro e w' ⟨rfl, rfl⟩
  go_wp2_with fail
  refine (c2.out _).mono ?_
  rintro e w' ⟨rfl, hb1⟩
  go_wp2_with fail
  refine (c3.out _).mono ?_
  rintro e w' ⟨rfl, rfl⟩
  go_wp2_with fail
  refine (c4.out _).mono ?_
  rintro e w' ⟨rfl, hb2⟩
  go_wp2
  go_ret
  exact ⟨ret_same (by simp), bs_step hb1 hb2⟩

theorem turns_19 (w : World) : Calls Try.prog 7 #[.int .u8 19] w (Ret w (.bool true)) := by
  have c1 := Lib.hid (fun W => swap_19 W)
  have c2 := Lib.hid (fun W => rswap_at 19 21 0 (by decide) (by decide) (.inl ⟨by decide, by decide, rfl, by decide +kernel, below_all true 19 21 (by decide +kernel)⟩) W)
  have c3 := Lib.hid (fun W => oppo_19 W)
  have c4 := Lib.hid (fun W => roppo_at 19 22 0 (by decide) (by decide) (.inl ⟨by decide, by decide, rfl, by decide +kernel, below_all false 19 22 (by decide +kernel)⟩) W)
  go_enter Try.func7, Try.ntmps7
  go_wp2_with fail
  refine (c1.out _).mono ?_
  rintro e w' ⟨rfl, rfl⟩
  go_wp2_with fail
  refine (c2.out _).mono ?_
  rintro e w' ⟨rfl, hb1⟩
  go_wp2_with fail
  refine (c3.out _).mono ?_
  rintro e w' ⟨rfl, rfl⟩
  go_wp2_with fail
  refine (c4.out _).mono ?_
  rintro e w' ⟨rfl, hb2⟩
  go_wp2
  go_ret
  exact ⟨ret_same (by simp), bs_step hb1 hb2⟩

theorem turns_20 (w : World) : Calls Try.prog 7 #[.int .u8 20] w (Ret w (.bool true)) := by
  have c1 := Lib.hid (fun W => swap_20 W)
  have c2 := Lib.hid (fun W => rswap_at 20 22 0 (by decide) (by decide) (.inl ⟨by decide, by decide, rfl, by decide +kernel, below_all true 20 22 (by decide +kernel)⟩) W)
  have c3 := Lib.hid (fun W => oppo_20 W)
  have c4 := Lib.hid (fun W => roppo_at 20 21 0 (by decide) (by decide) (.inl ⟨by decide, by decide, rfl, by decide +kernel, below_all false 20 21 (by decide +kernel)⟩) W)
  go_enter Try.func7, Try.ntmps7
  go_wp2_with fail
  refine (c1.out _).mono ?_
  rintro e w' ⟨rfl, rfl⟩
  go_wp2_with fail
  refine (c2.out _).mono ?_
  rintro e w' ⟨rfl, hb1⟩
  go_wp2_with fail
  refine (c3.out _).mono ?_
  rintro e w' ⟨rfl, rfl⟩
  go_wp2_with fail
  refine (c4.out _).mono ?_
  rintro e w' ⟨rfl, hb2⟩
  go_wp2
  go_ret
  exact ⟨ret_same (by simp), bs_step hb1 hb2⟩

theorem turns_21 (w : World) : Calls Try.prog 7 #[.int .u8 21] w (Ret w (.bool true)) := by
  have c1 := Lib.hid (fun W => swap_21 W)
  have c2 := Lib.hid (fun W => rswap_at 21 19 0 (by decide) (by decide) (.inl ⟨by decide, by decide, rfl, by decide +kernel, below_all true 21 19 (by decide +kernel)⟩) W)
  have c3 := Lib.hid (fun W => oppo_21 W)
  have c4 := Lib.hid (fun W => roppo_at 21 20 0 (by decide) (by decide) (.inl ⟨by decide, by decide, rfl, by decide +kernel, below_all false 21 20 (by decide +kernel)⟩) W)
  go_enter Try.func7, Try.ntmps7
  go_wp2_with fail
  refine (c1.out _).mono ?_
  rintro e w' ⟨rfl, rfl⟩
  go_wp2_with fail
  refine (c2.out _).mono ?_
  rintro e w' ⟨rfl, hb1⟩
  go_wp2_with fail
  refine (c3.out _).mono ?_
  rintro e w' ⟨rfl, rfl⟩
  go_wp2_with fail
  refine (c4.out _).mono ?_
  rintro e w' ⟨rfl, hb2⟩
  go_wp2
  go_ret
  exact ⟨ret_same (by simp), bs_step hb1 hb2⟩

theorem turns_22 (w : World) : Calls Try.prog 7 #[.int .u8 22] w (Ret w (.bool true)) := by
  have c1 := Lib.hid (fun W => swap_22 W)
  have c2 := Lib.hid (fun W => rswap_at 22 20 0 (by decide) (by decide) (.inl ⟨by decide, by decide, rfl, by decide +kernel, below_all true 22 20 (by decide +kernel)⟩) W)
  have c3 := Lib.hid (fun W => oppo_22 W)
  have c4 := Lib.hid (fun W => roppo_at 22 19 0 (by decide) (by decide) (.inl ⟨by decide, by decide, rfl, by decide +kernel, below_all false 22 19 (by decide +kernel)⟩) W)
  go_enter Try.func7, Try.ntmps7
  go_wp2_with fail
  refine (c1.out _).mono ?_
  rintro e w' ⟨rfl, rfl⟩
  go_wp2_with fail
  refine (c2.out _).mono ?_
  rintro e w' ⟨rfl, hb1⟩
  go_wp2_with fail
  refine (c3.out _).mono ?_
  rintro e w' ⟨rfl, rfl⟩
  go_wp2_with fail
  refine (c4.out _).mono ?_
  rintro e w' ⟨rfl, hb2⟩
  go_wp2
  go_ret
  exact ⟨ret_same (by simp), bs_step hb1 hb2⟩

theorem turns_23 (w : World) : Calls Try.prog 7 #[.int .u8 23] w (Ret w (.bool true)) := by
  have c1 := Lib.hid (fun W => swap_23 W)
  have c2 := Lib.hid (fun W => rswap_at 23 23 0 (by decide) (by decide) (.inl ⟨by decide, by decide, rfl, by decide +kernel, below_all true 23 23 (by decide +kernel)⟩) W)
  have c3 := Lib.hid (fun W => oppo_23 W)
  have c4 := Lib.hid (fun W => roppo_at 23 24 0 (by decide) (by decide) (.inl ⟨by decide, by decide, rfl, by decide +kernel, below_all false 23 24 (by decide +kernel)⟩) W)
  go_enter Try.func7, Try.ntmps7
  go_wp2_with fail
  refine (c1.out _).mono ?_
  rintro e w' ⟨rfl, rfl⟩
  go_wp2_with fail
  refine (c2.out _).mono ?_
  rintro e w' ⟨rfl, hb1⟩
  go_wp2_with fail
  refine (c3.out _).mono ?_
  rintro e w' ⟨rfl, rfl⟩
  go_wp2_with fail
  refine (c4.out _).mono ?_
  rintro e w' ⟨rfl, hb2⟩
  go_wp2
  go_ret
  exact ⟨ret_same (by simp), bs_step hb1 hb2⟩

theorem turns_24 (w : World) : Calls Try.prog 7 #[.int .u8 24] w (Ret w (.bool true)) := by
  have c1 := Lib.hid (fun W => swap_24 W)
  have c2 := Lib.hid (fun W => rswap_at 24 24 0 (by decide) (by decide) (.inl ⟨by decide, by decide, rfl, by decide +kernel, below_all true 24 24 (by decide +kernel)⟩) W)
  have c3 := Lib.hid (fun W => oppo_24 W)
  have c4 := Lib.hid (fun W => roppo_at 24 23 0 (by decide) (by decide) (.inl ⟨by decide, by decide, rfl, by decide +kernel, below_all false 24 23 (by decide +kernel)⟩) W)
  go_enter Try.func7, Try.ntmps7
  go_wp2_with fail
  refine (c1.out _).mono ?_
  rintro e w' ⟨rfl, rfl⟩
  go_wp2_with fail
  refine (c2.out _).mono ?_
  rintro e w' ⟨rfl, hb1⟩
  go_wp2_with fail
  refine (c3.out _).mono ?_
  rintro e w' ⟨rfl, rfl⟩
  go_wp2_with fail
  refine (c4.out _).mono ?_
  rintro e w' ⟨rfl, hb2⟩
  go_wp2
  go_ret
  exact ⟨ret_same (by simp), bs_step hb1 hb2⟩

theorem turns_25 (w : World) : Calls Try.prog 7 #[.int .u8 25] w (Ret w (.bool true)) := by
  have c1 := Lib.hid (fun W => swap_25 W)
  have c2 := Lib.hid (fun W => rswap_at 25 27 0 (by decide) (by decide) (.inl ⟨by decide, by decide, rfl, by decide +kernel, below_all true 25 27 (by decide +kernel)⟩) W)
  have c3 := Lib.hid (fun W => oppo_25 W)
  have c4 := Lib.hid (fun W => roppo_at 25 0 62 (by decide) (by decide) (.inr ⟨rfl, rfl, fun p hp => below_all false 25 29 (by decide +kernel) p (by omega)⟩) W)
  go_enter Try.func7, Try.ntmps7
  go_wp2_with fail
  refine (c1.out _).mono ?_
  rintro e w' ⟨rfl, rfl⟩
  go_wp2_with fail
  refine (c2.out _).mono ?_
  rintro e w' ⟨rfl, hb1⟩
  go_wp2_with fail
  refine (c3.out _).mono ?_
  rintro e w' ⟨rfl, rfl⟩
  go_wp2_with fail
  refine (c4.out _).mono ?_
  rintro e w' ⟨rfl, hb2⟩
  go_wp2
  go_ret
  exact ⟨ret_same (by simp), bs_step hb1 hb2⟩

theorem turns_26 (w : World) : Calls Try.prog 7 #[.int .u8 26] w (Ret w (.bool true)) := by
  have c1 := Lib.hid (fun W => swap_26 W)
  have c2 := Lib.hid (fun W => rswap_at 26 28 0 (by decide) (by decide) (.inl ⟨by decide, by decide, rfl, by decide +kernel, below_all true 26 28 (by decide +kernel)⟩) W)
  have c3 := Lib.hid (fun W => oppo_26 W)
  have c4 := Lib.hid (fun W => roppo_at 26 0 62 (by decide) (by decide) (.inr ⟨rfl, rfl, fun p hp => below_all false 26 29 (by decide +kernel) p (by omega)⟩) W)
  go_enter Try.func7, Try.ntmps7
  go_wp2_with fail
  refine (c1.out _).mono ?_
  rintro e w' ⟨rfl, rfl⟩
  go_wp2_with fail
  refine (c2.out _).mono ?_
  rintro e w' ⟨rfl, hb1⟩
  go_wp2_with fail
  refine (c3.out _).mono ?_
  rintro e w' ⟨rfl, rfl⟩
  go_wp2_with fail
  refine (c4.out _).mono ?_
  rintro e w' ⟨rfl, hb2⟩
  go_wp2
  go_ret
  exact ⟨ret_same (by simp), bs_step hb1 hb2⟩

theorem turns_27 (w : World) : Calls Try.prog 7 #[.int .u8 27] w (Ret w (.bool true)) := by
  have c1 := Lib.hid (fun W => swap_27 W)
  have c2 := Lib.hid (fun W => rswap_at 27 25 0 (by decide) (by decide) (.inl ⟨by decide, by decide, rfl, by decide +kernel, below_all true 27 25 (by decide +kernel)⟩) W)
  have c3 := Lib.hid (fun W => oppo_27 W)
  have c4 := Lib.hid (fun W => roppo_at 27 0 62 (by decide) (by decide) (.inr ⟨rfl, rfl, fun p hp => below_all false 27 29 (by decide +kernel) p (by omega)⟩) W)
  go_enter Try.func7, Try.ntmps7
  go_wp2_with fail
  refine (c1.out _).mono ?_
  rintro e w' ⟨rfl, rfl⟩
  go_wp2_with fail
  refine (c2.out _).mono ?_
  rintro e w' ⟨rfl, hb1⟩
  go_wp2_with fail
  refine (c3.out _).mono ?_
  rintro e w' ⟨rfl, rfl⟩
  go_wp2_with fail
  refine (c4.out _).mono ?_
  rintro e w' ⟨rfl, hb2⟩
  go_wp2
  go_ret
  exact ⟨ret_same (by simp), bs_step hb1 hb2⟩

theorem turns_28 (w : World) : Calls Try.prog 7 #[.int .u8 28] w (Ret w (.bool true)) := by
  have c1 := Lib.hid (fun W => swap_28 W)
  have c2 := Lib.hid (fun W => rswap_at 28 26 0 (by decide) (by decide) (.inl ⟨by decide, by decide, rfl, by decide +kernel, below_all true 28 26 (by decide +kernel)⟩) W)
  have c3 := Lib.hid (fun W => oppo_28 W)
  have c4 := Lib.hid (fun W => roppo_at 28 0 62 (by decide) (by decide) (.inr ⟨rfl, rfl, fun p hp => below_all false 28 29 (by decide +kernel) p (by omega)⟩) W)
  go_enter Try.func7, Try.ntmps7
  go_wp2_with fail
  refine (c1.out _).mono ?_
  rintro e w' ⟨rfl, rfl⟩
  go_wp2_with fail
  refine (c2.out _).mono ?_
  rintro e w' ⟨rfl, hb1⟩
  go_wp2_with fail
  refine (c3.out _).mono ?_
  rintro e w' ⟨rfl, rfl⟩
  go_wp2_with fail
  refine (c4.out _).mono ?_
  rintro e w' ⟨rfl, hb2⟩
  go_wp2
  go_ret
  exact ⟨ret_same (by simp), bs_step hb1 hb2⟩

theorem turns_other (op : Int) (h13 : ((op : Int) == 13) = false) (h14 : ((op : Int) == 14) = false) (h15 : ((op : Int) == 15) = false) (h16 : ((op : Int) == 16) = false) (h17 : ((op : Int) == 17) = false) (h18 : ((op : Int) == 18) = false) (h19 : ((op : Int) == 19) = false) (h20 : ((op : Int) == 20) = false) (h21 : ((op : Int) == 21) = false) (h22 : ((op : Int) == 22) = false) (h23 : ((op : Int) == 23) = false) (h24 : ((op : Int) == 24) = false) (h25 : ((op : Int) == 25) = false) (h26 : ((op : Int) == 26) = false) (h27 : ((op : Int) == 27) = false) (h28 : ((op : Int) == 28) = false) (w : World) : Calls Try.prog 7 #[.int .u8 op] w (Ret w (.bool true)) := by
  have c1 := Lib.hid (fun W => swap_other op h13 h14 h15 h16 h17 h18 h19 h20 h21 h22 h23 h24 h25 h26 h27 h28 W)
  have c2 := Lib.hid (fun W => rswap_other op h13 h14 h15 h16 h17 h18 h19 h20 h21 h22 h23 h24 h25 h26 h27 h28 W)
  have c3 := Lib.hid (fun W => oppo_other op h13 h14 h15 h16 h17 h18 h19 h20 h21 h22 h23 h24 h25 h26 h27 h28 W)
  have c4 := Lib.hid (fun W => roppo_other op h13 h14 h15 h16 h17 h18 h19 h20 h21 h22 h23 h24 h25 h26 h27 h28 W)
  clear h13 h14 h15 h16 h17 h18 h19 h20 h21 h22 h23 h24 h25 h26 h27 h28
  go_enter Try.func7, Try.ntmps7
  go_wp2_with fail
  refine (c1.out _).mono ?_
  rintro e w' ⟨rfl, rfl⟩
  go_wp2_with fail
  refine (c2.out _).mono ?_
  rintro e w' ⟨rfl, hb1⟩
  go_wp2_with fail
  refine (c3.out _).mono ?_
  rintro e w' ⟨rfl, rfl⟩
  go_wp2_with fail
  refine (c4.out _).mono ?_
  rintro e w' ⟨rfl, hb2⟩
  go_wp2
  go_ret
  exact ⟨ret_same (by simp), bs_step hb1 hb2⟩
end Go.Proofs.Ytfgbjaejkfkmmaa
