/- Contracts of package alu's comparisons (printed by a program of ours). -/
import Derived.Test.YtfgbjaejkfkmmaaAluB
import Derived.Test.YtfgbjaejkfkmmaaStandB
namespace Go.Proofs.Ytfgbjaejkfkmmaa
open Go.RowKit Ieee
set_option linter.unusedVariables false

/-- A comparison of floats, by how they stand. -/
def fcmp (k s : Nat) : Bool := match k with
  | 23 => s == 3 | 24 => s != 3 | 25 => s == 2 | 26 => s == 2 || s == 3 | 27 => s == 4 | 28 => s == 4 || s == 3 | _ => false
theorem side_in (o : Option Ordering) : sideOf o = 1 ∨ sideOf o = 2 ∨ sideOf o = 3 ∨ sideOf o = 4 := by
  cases o with
  | none => exact .inl rfl
  | some x => cases x
              · exact .inr (.inl rfl)
              · exact .inr (.inr (.inl rfl))
              · exact .inr (.inr (.inr rfl))

theorem hol_13 (a b : Nat) (t : Bool) (h : decide (a = b) = t) (w : World) :
    Calls Try.prog 15 #[.int .u8 13, .int .u32 (a : Int), .int .u32 (b : Int)] w fun e w' => e = .returned (.tuple #[.bool t, .int .i64 0]) ∧ w = w' := by
  have HR := Lib.hid h
  clear h
  go_enter Try.func15, Try.ntmps15
  go_wp2
  go_ret2
  exact ⟨ret_bool (by first | (rw [← HR.out]; done) | (rw [← HR.out, Bool.eq_iff_iff]; simp; done) | (rw [← HR.out, Bool.eq_iff_iff]; simp; omega)), rfl⟩

theorem hol_14 (a b : Nat) (t : Bool) (h : decide (¬ a = b) = t) (w : World) :
    Calls Try.prog 15 #[.int .u8 14, .int .u32 (a : Int), .int .u32 (b : Int)] w fun e w' => e = .returned (.tuple #[.bool t, .int .i64 0]) ∧ w = w' := by
  have HR := Lib.hid h
  clear h
  go_enter Try.func15, Try.ntmps15
  go_wp2
  go_ret2
  exact ⟨ret_bool (by first | (rw [← HR.out]; done) | (rw [← HR.out, Bool.eq_iff_iff]; simp; done) | (rw [← HR.out, Bool.eq_iff_iff]; simp; omega)), rfl⟩

theorem hol_15 (a b : Nat) (t : Bool) (h : decide (wrap32 (a : Int) < wrap32 (b : Int)) = t) (w : World) :
    Calls Try.prog 15 #[.int .u8 15, .int .u32 (a : Int), .int .u32 (b : Int)] w fun e w' => e = .returned (.tuple #[.bool t, .int .i64 0]) ∧ w = w' := by
  have HR := Lib.hid h
  clear h
  go_enter Try.func15, Try.ntmps15
  go_wp2
  go_ret2
  exact ⟨ret_bool (by first | (rw [← HR.out]; done) | (rw [← HR.out, Bool.eq_iff_iff]; simp; done) | (rw [← HR.out, Bool.eq_iff_iff]; simp; omega)), rfl⟩

theorem hol_16 (a b : Nat) (t : Bool) (h : decide (wrap32 (a : Int) ≤ wrap32 (b : Int)) = t) (w : World) :
    Calls Try.prog 15 #[.int .u8 16, .int .u32 (a : Int), .int .u32 (b : Int)] w fun e w' => e = .returned (.tuple #[.bool t, .int .i64 0]) ∧ w = w' := by
  have HR := Lib.hid h
  clear h
  go_enter Try.func15, Try.ntmps15
  go_wp2
  go_ret2
  exact ⟨ret_bool (by first | (rw [← HR.out]; done) | (rw [← HR.out, Bool.eq_iff_iff]; simp; done) | (rw [← HR.out, Bool.eq_iff_iff]; simp; omega)), rfl⟩

theorem hol_17 (a b : Nat) (t : Bool) (h : decide (wrap32 (b : Int) < wrap32 (a : Int)) = t) (w : World) :
    Calls Try.prog 15 #[.int .u8 17, .int .u32 (a : Int), .int .u32 (b : Int)] w fun e w' => e = .returned (.tuple #[.bool t, .int .i64 0]) ∧ w = w' := by
  have HR := Lib.hid h
  clear h
  go_enter Try.func15, Try.ntmps15
  go_wp2
  go_ret2
  exact ⟨ret_bool (by first | (rw [← HR.out]; done) | (rw [← HR.out, Bool.eq_iff_iff]; simp; done) | (rw [← HR.out, Bool.eq_iff_iff]; simp; omega)), rfl⟩

theorem hol_18 (a b : Nat) (t : Bool) (h : decide (wrap32 (b : Int) ≤ wrap32 (a : Int)) = t) (w : World) :
    Calls Try.prog 15 #[.int .u8 18, .int .u32 (a : Int), .int .u32 (b : Int)] w fun e w' => e = .returned (.tuple #[.bool t, .int .i64 0]) ∧ w = w' := by
  have HR := Lib.hid h
  clear h
  go_enter Try.func15, Try.ntmps15
  go_wp2
  go_ret2
  exact ⟨ret_bool (by first | (rw [← HR.out]; done) | (rw [← HR.out, Bool.eq_iff_iff]; simp; done) | (rw [← HR.out, Bool.eq_iff_iff]; simp; omega)), rfl⟩

theorem hol_19 (a b : Nat) (t : Bool) (h : decide (a < b) = t) (w : World) :
    Calls Try.prog 15 #[.int .u8 19, .int .u32 (a : Int), .int .u32 (b : Int)] w fun e w' => e = .returned (.tuple #[.bool t, .int .i64 0]) ∧ w = w' := by
  have HR := Lib.hid h
  clear h
  go_enter Try.func15, Try.ntmps15
  go_wp2
  go_ret2
  exact ⟨ret_bool (by first | (rw [← HR.out]; done) | (rw [← HR.out, Bool.eq_iff_iff]; simp; done) | (rw [← HR.out, Bool.eq_iff_iff]; simp; omega)), rfl⟩

theorem hol_20 (a b : Nat) (t : Bool) (h : decide (a ≤ b) = t) (w : World) :
    Calls Try.prog 15 #[.int .u8 20, .int .u32 (a : Int), .int .u32 (b : Int)] w fun e w' => e = .returned (.tuple #[.bool t, .int .i64 0]) ∧ w = w' := by
  have HR := Lib.hid h
  clear h
  go_enter Try.func15, Try.ntmps15
  go_wp2
  go_ret2
  exact ⟨ret_bool (by first | (rw [← HR.out]; done) | (rw [← HR.out, Bool.eq_iff_iff]; simp; done) | (rw [← HR.out, Bool.eq_iff_iff]; simp; omega)), rfl⟩

theorem hol_21 (a b : Nat) (t : Bool) (h : decide (b < a) = t) (w : World) :
    Calls Try.prog 15 #[.int .u8 21, .int .u32 (a : Int), .int .u32 (b : Int)] w fun e w' => e = .returned (.tuple #[.bool t, .int .i64 0]) ∧ w = w' := by
  have HR := Lib.hid h
  clear h
  go_enter Try.func15, Try.ntmps15
  go_wp2
  go_ret2
  exact ⟨ret_bool (by first | (rw [← HR.out]; done) | (rw [← HR.out, Bool.eq_iff_iff]; simp; done) | (rw [← HR.out, Bool.eq_iff_iff]; simp; omega)), rfl⟩

theorem hol_22 (a b : Nat) (t : Bool) (h : decide (b ≤ a) = t) (w : World) :
    Calls Try.prog 15 #[.int .u8 22, .int .u32 (a : Int), .int .u32 (b : Int)] w fun e w' => e = .returned (.tuple #[.bool t, .int .i64 0]) ∧ w = w' := by
  have HR := Lib.hid h
  clear h
  go_enter Try.func15, Try.ntmps15
  go_wp2
  go_ret2
  exact ⟨ret_bool (by first | (rw [← HR.out]; done) | (rw [← HR.out, Bool.eq_iff_iff]; simp; done) | (rw [← HR.out, Bool.eq_iff_iff]; simp; omega)), rfl⟩

theorem float_23 (s : Nat) (hs : s = 1 ∨ s = 2 ∨ s = 3 ∨ s = 4) (w : World) :
    Calls Try.prog 30 #[.int .u8 23, .int .u8 (s : Int)] w fun e w' => e = .returned (.tuple #[.bool (fcmp 23 s), .int .i64 0]) ∧ w = w' := by
  rcases hs with rfl | rfl | rfl | rfl
  all_goals
    go_enter Try.func30, Try.ntmps30
    go_wp2
    go_ret2
    exact ⟨rfl, rfl⟩

theorem hol_23 (a b : Nat) (t : Bool) (h : fcmp 23 (sideOf (single.order a b)) = t) (w : World) :
    Calls Try.prog 15 #[.int .u8 23, .int .u32 (a : Int), .int .u32 (b : Int)] w fun e w' => e = .returned (.tuple #[.bool t, .int .i64 0]) ∧ w = w' := by
  subst h
  have HC := Lib.hid (fun W => Stand_any (a : Int) (b : Int) W)
  simp only [Int.toNat_natCast] at HC
  have hs := side_in (single.order a b)
  generalize sideOf (single.order a b) = s at *
  have HF := Lib.hid (fun W => float_23 s hs W)
  generalize fcmp 23 s = t at *
  clear hs
  go_enter Try.func15, Try.ntmps15
  go_wp2_with fail
  refine (HC.out _).mono ?_
  rintro e w' ⟨rfl, rfl⟩
  go_wp2_with fail
  refine (HF.out _).mono ?_
  rintro e w' ⟨rfl, rfl⟩
  go_wp2
  go_ret2
  exact ⟨rfl, rfl⟩

theorem float_24 (s : Nat) (hs : s = 1 ∨ s = 2 ∨ s = 3 ∨ s = 4) (w : World) :
    Calls Try.prog 30 #[.int .u8 24, .int .u8 (s : Int)] w fun e w' => e = .returned (.tuple #[.bool (fcmp 24 s), .int .i64 0]) ∧ w = w' := by
  rcases hs with rfl | rfl | rfl | rfl
  all_goals
    go_enter Try.func30, Try.ntmps30
    go_wp2
    go_ret2
    exact ⟨rfl, rfl⟩

theorem hol_24 (a b : Nat) (t : Bool) (h : fcmp 24 (sideOf (single.order a b)) = t) (w : World) :
    Calls Try.prog 15 #[.int .u8 24, .int .u32 (a : Int), .int .u32 (b : Int)] w fun e w' => e = .returned (.tuple #[.bool t, .int .i64 0]) ∧ w = w' := by
  subst h
  have HC := Lib.hid (fun W => Stand_any (a : Int) (b : Int) W)
  simp only [Int.toNat_natCast] at HC
  have hs := side_in (single.order a b)
  generalize sideOf (single.order a b) = s at *
  have HF := Lib.hid (fun W => float_24 s hs W)
  generalize fcmp 24 s = t at *
  clear hs
  go_enter Try.func15, Try.ntmps15
  go_wp2_with fail
  refine (HC.out _).mono ?_
  rintro e w' ⟨rfl, rfl⟩
  go_wp2_with fail
  refine (HF.out _).mono ?_
  rintro e w' ⟨rfl, rfl⟩
  go_wp2
  go_ret2
  exact ⟨rfl, rfl⟩

theorem float_25 (s : Nat) (hs : s = 1 ∨ s = 2 ∨ s = 3 ∨ s = 4) (w : World) :
    Calls Try.prog 30 #[.int .u8 25, .int .u8 (s : Int)] w fun e w' => e = .returned (.tuple #[.bool (fcmp 25 s), .int .i64 0]) ∧ w = w' := by
  rcases hs with rfl | rfl | rfl | rfl
  all_goals
    go_enter Try.func30, Try.ntmps30
    go_wp2
    go_ret2
    exact ⟨rfl, rfl⟩

theorem hol_25 (a b : Nat) (t : Bool) (h : fcmp 25 (sideOf (single.order a b)) = t) (w : World) :
    Calls Try.prog 15 #[.int .u8 25, .int .u32 (a : Int), .int .u32 (b : Int)] w fun e w' => e = .returned (.tuple #[.bool t, .int .i64 0]) ∧ w = w' := by
  subst h
  have HC := Lib.hid (fun W => Stand_any (a : Int) (b : Int) W)
  simp only [Int.toNat_natCast] at HC
  have hs := side_in (single.order a b)
  generalize sideOf (single.order a b) = s at *
  have HF := Lib.hid (fun W => float_25 s hs W)
  generalize fcmp 25 s = t at *
  clear hs
  go_enter Try.func15, Try.ntmps15
  go_wp2_with fail
  refine (HC.out _).mono ?_
  rintro e w' ⟨rfl, rfl⟩
  go_wp2_with fail
  refine (HF.out _).mono ?_
  rintro e w' ⟨rfl, rfl⟩
  go_wp2
  go_ret2
  exact ⟨rfl, rfl⟩

theorem float_26 (s : Nat) (hs : s = 1 ∨ s = 2 ∨ s = 3 ∨ s = 4) (w : World) :
    Calls Try.prog 30 #[.int .u8 26, .int .u8 (s : Int)] w fun e w' => e = .returned (.tuple #[.bool (fcmp 26 s), .int .i64 0]) ∧ w = w' := by
  rcases hs with rfl | rfl | rfl | rfl
  all_goals
    go_enter Try.func30, Try.ntmps30
    go_wp2
    go_ret2
    exact ⟨rfl, rfl⟩

theorem hol_26 (a b : Nat) (t : Bool) (h : fcmp 26 (sideOf (single.order a b)) = t) (w : World) :
    Calls Try.prog 15 #[.int .u8 26, .int .u32 (a : Int), .int .u32 (b : Int)] w fun e w' => e = .returned (.tuple #[.bool t, .int .i64 0]) ∧ w = w' := by
  subst h
  have HC := Lib.hid (fun W => Stand_any (a : Int) (b : Int) W)
  simp only [Int.toNat_natCast] at HC
  have hs := side_in (single.order a b)
  generalize sideOf (single.order a b) = s at *
  have HF := Lib.hid (fun W => float_26 s hs W)
  generalize fcmp 26 s = t at *
  clear hs
  go_enter Try.func15, Try.ntmps15
  go_wp2_with fail
  refine (HC.out _).mono ?_
  rintro e w' ⟨rfl, rfl⟩
  go_wp2_with fail
  refine (HF.out _).mono ?_
  rintro e w' ⟨rfl, rfl⟩
  go_wp2
  go_ret2
  exact ⟨rfl, rfl⟩

theorem float_27 (s : Nat) (hs : s = 1 ∨ s = 2 ∨ s = 3 ∨ s = 4) (w : World) :
    Calls Try.prog 30 #[.int .u8 27, .int .u8 (s : Int)] w fun e w' => e = .returned (.tuple #[.bool (fcmp 27 s), .int .i64 0]) ∧ w = w' := by
  rcases hs with rfl | rfl | rfl | rfl
  all_goals
    go_enter Try.func30, Try.ntmps30
    go_wp2
    go_ret2
    exact ⟨rfl, rfl⟩

theorem hol_27 (a b : Nat) (t : Bool) (h : fcmp 27 (sideOf (single.order a b)) = t) (w : World) :
    Calls Try.prog 15 #[.int .u8 27, .int .u32 (a : Int), .int .u32 (b : Int)] w fun e w' => e = .returned (.tuple #[.bool t, .int .i64 0]) ∧ w = w' := by
  subst h
  have HC := Lib.hid (fun W => Stand_any (a : Int) (b : Int) W)
  simp only [Int.toNat_natCast] at HC
  have hs := side_in (single.order a b)
  generalize sideOf (single.order a b) = s at *
  have HF := Lib.hid (fun W => float_27 s hs W)
  generalize fcmp 27 s = t at *
  clear hs
  go_enter Try.func15, Try.ntmps15
  go_wp2_with fail
  refine (HC.out _).mono ?_
  rintro e w' ⟨rfl, rfl⟩
  go_wp2_with fail
  refine (HF.out _).mono ?_
  rintro e w' ⟨rfl, rfl⟩
  go_wp2
  go_ret2
  exact ⟨rfl, rfl⟩

theorem float_28 (s : Nat) (hs : s = 1 ∨ s = 2 ∨ s = 3 ∨ s = 4) (w : World) :
    Calls Try.prog 30 #[.int .u8 28, .int .u8 (s : Int)] w fun e w' => e = .returned (.tuple #[.bool (fcmp 28 s), .int .i64 0]) ∧ w = w' := by
  rcases hs with rfl | rfl | rfl | rfl
  all_goals
    go_enter Try.func30, Try.ntmps30
    go_wp2
    go_ret2
    exact ⟨rfl, rfl⟩

theorem hol_28 (a b : Nat) (t : Bool) (h : fcmp 28 (sideOf (single.order a b)) = t) (w : World) :
    Calls Try.prog 15 #[.int .u8 28, .int .u32 (a : Int), .int .u32 (b : Int)] w fun e w' => e = .returned (.tuple #[.bool t, .int .i64 0]) ∧ w = w' := by
  subst h
  have HC := Lib.hid (fun W => Stand_any (a : Int) (b : Int) W)
  simp only [Int.toNat_natCast] at HC
  have hs := side_in (single.order a b)
  generalize sideOf (single.order a b) = s at *
  have HF := Lib.hid (fun W => float_28 s hs W)
  generalize fcmp 28 s = t at *
  clear hs
  go_enter Try.func15, Try.ntmps15
  go_wp2_with fail
  refine (HC.out _).mono ?_
  rintro e w' ⟨rfl, rfl⟩
  go_wp2_with fail
  refine (HF.out _).mono ?_
  rintro e w' ⟨rfl, rfl⟩
  go_wp2
  go_ret2
  exact ⟨rfl, rfl⟩

theorem float_other (op s : Int) (h23 : ((op : Int) == 23) = false) (h24 : ((op : Int) == 24) = false) (h25 : ((op : Int) == 25) = false) (h26 : ((op : Int) == 26) = false) (h27 : ((op : Int) == 27) = false) (h28 : ((op : Int) == 28) = false) (w : World) :
    Calls Try.prog 30 #[.int .u8 op, .int .u8 s] w fun e w' => e = .returned (.tuple #[.bool false, .int .i64 61]) ∧ w = w' := by
  go_enter Try.func30, Try.ntmps30
  go_wp2
  go_ret2
  exact ⟨rfl, rfl⟩

theorem hol_other (op a b : Int) (h13 : ((op : Int) == 13) = false) (h14 : ((op : Int) == 14) = false) (h15 : ((op : Int) == 15) = false) (h16 : ((op : Int) == 16) = false) (h17 : ((op : Int) == 17) = false) (h18 : ((op : Int) == 18) = false) (h19 : ((op : Int) == 19) = false) (h20 : ((op : Int) == 20) = false) (h21 : ((op : Int) == 21) = false) (h22 : ((op : Int) == 22) = false) (h23 : ((op : Int) == 23) = false) (h24 : ((op : Int) == 24) = false) (h25 : ((op : Int) == 25) = false) (h26 : ((op : Int) == 26) = false) (h27 : ((op : Int) == 27) = false) (h28 : ((op : Int) == 28) = false) (w : World) :
    Calls Try.prog 15 #[.int .u8 op, .int .u32 a, .int .u32 b] w fun e w' => e = .returned (.tuple #[.bool false, .int .i64 61]) ∧ w = w' := by
  have HF := Lib.hid (fun s W => float_other op s h23 h24 h25 h26 h27 h28 W)
  go_enter Try.func15, Try.ntmps15
  go_wp2_with fail
  refine (Stand_any a b _).mono ?_
  rintro e w' ⟨rfl, rfl⟩
  go_wp2_with fail
  refine (HF.out _ _).mono ?_
  rintro e w' ⟨rfl, rfl⟩
  go_wp2
  go_ret2
  exact ⟨rfl, rfl⟩

theorem is_of (op a b x : Int) (t : Bool) (h : ∀ W, Calls Try.prog 15 #[.int .u8 op, .int .u32 a, .int .u32 b] W fun e w' => e = .returned (.tuple #[.bool t, .int .i64 x]) ∧ W = w') (w : World) :
    Calls Try.prog 18 #[.int .u8 op, .int .u32 a, .int .u32 b] w fun e w' => e = .returned (.bool t) ∧ w = w' := by
  have HC := Lib.hid h
  clear h
  go_enter Try.func18, Try.ntmps18
  go_wp2_with fail
  refine (HC.out _).mono ?_
  rintro e w' ⟨rfl, rfl⟩
  go_wp2
  go_ret
  exact ⟨rfl, rfl⟩
end Go.Proofs.Ytfgbjaejkfkmmaa
