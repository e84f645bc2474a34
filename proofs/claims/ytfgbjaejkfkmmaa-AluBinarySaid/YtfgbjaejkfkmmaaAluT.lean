/- Contracts of the outright laws' two, one, is, and awake (printed by a program of ours). -/
import Derived.Test.YtfgbjaejkfkmmaaAluU
import Derived.Test.YtfgbjaejkfkmmaaAluH
import Derived.Test.YtfgbjaejkfkmmaaAluS
namespace Go.Proofs.Ytfgbjaejkfkmmaa
open Go.RowKit Ieee
set_option linter.unusedVariables false

theorem Binary_39 (a b r : Nat) (ha : a ≤ 4294967295) (hb : b ≤ 4294967295)  (h : (a + b) % 4294967296 = r) (w : World) :
    Calls Try.prog 23 #[.int .u8 39, .int .u32 (a : Int), .int .u32 (b : Int)] w (Ret w (.tuple #[.int .u32 (r : Nat), .int .i64 0])) :=
  Binary_of _ _ _ _ _ (fun W => got_same (bin_39 a b r ha hb h W)) w
theorem two_39 (a b r : Nat) (ha : a ≤ 4294967295) (hb : b ≤ 4294967295)  (h : (a + b) % 4294967296 = r) (w : World) :
    Calls Try.prog 27 #[.int .u8 39, .int .u32 (a : Int), .int .u32 (b : Int)] w (Ret w (.int .u32 (r : Nat))) :=
  two_of _ _ _ _ _ (fun W => Binary_39 a b r ha hb h W) w

theorem Binary_40 (a b r : Nat) (ha : a ≤ 4294967295) (hb : b ≤ 4294967295)  (h : (a + 4294967296 - b) % 4294967296 = r) (w : World) :
    Calls Try.prog 23 #[.int .u8 40, .int .u32 (a : Int), .int .u32 (b : Int)] w (Ret w (.tuple #[.int .u32 (r : Nat), .int .i64 0])) :=
  Binary_of _ _ _ _ _ (fun W => got_same (bin_40 a b r ha hb h W)) w
theorem two_40 (a b r : Nat) (ha : a ≤ 4294967295) (hb : b ≤ 4294967295)  (h : (a + 4294967296 - b) % 4294967296 = r) (w : World) :
    Calls Try.prog 27 #[.int .u8 40, .int .u32 (a : Int), .int .u32 (b : Int)] w (Ret w (.int .u32 (r : Nat))) :=
  two_of _ _ _ _ _ (fun W => Binary_40 a b r ha hb h W) w

theorem Binary_41 (a b r : Nat) (ha : a ≤ 4294967295) (hb : b ≤ 4294967295)  (h : a * b % 4294967296 = r) (w : World) :
    Calls Try.prog 23 #[.int .u8 41, .int .u32 (a : Int), .int .u32 (b : Int)] w (Ret w (.tuple #[.int .u32 (r : Nat), .int .i64 0])) :=
  Binary_of _ _ _ _ _ (fun W => got_same (bin_41 a b r ha hb h W)) w
theorem two_41 (a b r : Nat) (ha : a ≤ 4294967295) (hb : b ≤ 4294967295)  (h : a * b % 4294967296 = r) (w : World) :
    Calls Try.prog 27 #[.int .u8 41, .int .u32 (a : Int), .int .u32 (b : Int)] w (Ret w (.int .u32 (r : Nat))) :=
  two_of _ _ _ _ _ (fun W => Binary_41 a b r ha hb h W) w

theorem Binary_42 (a b r : Nat) (ha : a ≤ 4294967295) (hb : b ≤ 4294967295) (hz : ¬ wrap32 (b : Int) = 0) (h : wrap32 ((wrap32 (a : Int)).tdiv (wrap32 (b : Int))) % 4294967296 = (r : Int)) (w : World) :
    Calls Try.prog 23 #[.int .u8 42, .int .u32 (a : Int), .int .u32 (b : Int)] w (Ret w (.tuple #[.int .u32 (r : Nat), .int .i64 0])) :=
  Binary_of _ _ _ _ _ (fun W => got_same (bin_42 a b r ha hb hz h W)) w
theorem two_42 (a b r : Nat) (ha : a ≤ 4294967295) (hb : b ≤ 4294967295) (hz : ¬ wrap32 (b : Int) = 0) (h : wrap32 ((wrap32 (a : Int)).tdiv (wrap32 (b : Int))) % 4294967296 = (r : Int)) (w : World) :
    Calls Try.prog 27 #[.int .u8 42, .int .u32 (a : Int), .int .u32 (b : Int)] w (Ret w (.int .u32 (r : Nat))) :=
  two_of _ _ _ _ _ (fun W => Binary_42 a b r ha hb hz h W) w

theorem Binary_43 (a b r : Nat) (ha : a ≤ 4294967295) (hb : b ≤ 4294967295) (hz : 0 < b) (h : a / b = r) (w : World) :
    Calls Try.prog 23 #[.int .u8 43, .int .u32 (a : Int), .int .u32 (b : Int)] w (Ret w (.tuple #[.int .u32 (r : Nat), .int .i64 0])) :=
  Binary_of _ _ _ _ _ (fun W => got_same (bin_43 a b r ha hb hz h W)) w
theorem two_43 (a b r : Nat) (ha : a ≤ 4294967295) (hb : b ≤ 4294967295) (hz : 0 < b) (h : a / b = r) (w : World) :
    Calls Try.prog 27 #[.int .u8 43, .int .u32 (a : Int), .int .u32 (b : Int)] w (Ret w (.int .u32 (r : Nat))) :=
  two_of _ _ _ _ _ (fun W => Binary_43 a b r ha hb hz h W) w

theorem Binary_44 (a b r : Nat) (ha : a ≤ 4294967295) (hb : b ≤ 4294967295) (hz : ¬ wrap32 (b : Int) = 0) (h : (wrap32 (a : Int)).tmod (wrap32 (b : Int)) % 4294967296 = (r : Int)) (w : World) :
    Calls Try.prog 23 #[.int .u8 44, .int .u32 (a : Int), .int .u32 (b : Int)] w (Ret w (.tuple #[.int .u32 (r : Nat), .int .i64 0])) :=
  Binary_of _ _ _ _ _ (fun W => got_same (bin_44 a b r ha hb hz h W)) w
theorem two_44 (a b r : Nat) (ha : a ≤ 4294967295) (hb : b ≤ 4294967295) (hz : ¬ wrap32 (b : Int) = 0) (h : (wrap32 (a : Int)).tmod (wrap32 (b : Int)) % 4294967296 = (r : Int)) (w : World) :
    Calls Try.prog 27 #[.int .u8 44, .int .u32 (a : Int), .int .u32 (b : Int)] w (Ret w (.int .u32 (r : Nat))) :=
  two_of _ _ _ _ _ (fun W => Binary_44 a b r ha hb hz h W) w

theorem Binary_45 (a b r : Nat) (ha : a ≤ 4294967295) (hb : b ≤ 4294967295) (hz : 0 < b) (h : a % b = r) (w : World) :
    Calls Try.prog 23 #[.int .u8 45, .int .u32 (a : Int), .int .u32 (b : Int)] w (Ret w (.tuple #[.int .u32 (r : Nat), .int .i64 0])) :=
  Binary_of _ _ _ _ _ (fun W => got_same (bin_45 a b r ha hb hz h W)) w
theorem two_45 (a b r : Nat) (ha : a ≤ 4294967295) (hb : b ≤ 4294967295) (hz : 0 < b) (h : a % b = r) (w : World) :
    Calls Try.prog 27 #[.int .u8 45, .int .u32 (a : Int), .int .u32 (b : Int)] w (Ret w (.int .u32 (r : Nat))) :=
  two_of _ _ _ _ _ (fun W => Binary_45 a b r ha hb hz h W) w

theorem Binary_46 (a b r : Nat) (ha : a ≤ 4294967295) (hb : b ≤ 4294967295)  (h : a &&& b = r) (w : World) :
    Calls Try.prog 23 #[.int .u8 46, .int .u32 (a : Int), .int .u32 (b : Int)] w (Ret w (.tuple #[.int .u32 (r : Nat), .int .i64 0])) :=
  Binary_of _ _ _ _ _ (fun W => got_same (bin_46 a b r ha hb h W)) w
theorem two_46 (a b r : Nat) (ha : a ≤ 4294967295) (hb : b ≤ 4294967295)  (h : a &&& b = r) (w : World) :
    Calls Try.prog 27 #[.int .u8 46, .int .u32 (a : Int), .int .u32 (b : Int)] w (Ret w (.int .u32 (r : Nat))) :=
  two_of _ _ _ _ _ (fun W => Binary_46 a b r ha hb h W) w

theorem Binary_47 (a b r : Nat) (ha : a ≤ 4294967295) (hb : b ≤ 4294967295)  (h : a ||| b = r) (w : World) :
    Calls Try.prog 23 #[.int .u8 47, .int .u32 (a : Int), .int .u32 (b : Int)] w (Ret w (.tuple #[.int .u32 (r : Nat), .int .i64 0])) :=
  Binary_of _ _ _ _ _ (fun W => got_same (bin_47 a b r ha hb h W)) w
theorem two_47 (a b r : Nat) (ha : a ≤ 4294967295) (hb : b ≤ 4294967295)  (h : a ||| b = r) (w : World) :
    Calls Try.prog 27 #[.int .u8 47, .int .u32 (a : Int), .int .u32 (b : Int)] w (Ret w (.int .u32 (r : Nat))) :=
  two_of _ _ _ _ _ (fun W => Binary_47 a b r ha hb h W) w

theorem Binary_48 (a b r : Nat) (ha : a ≤ 4294967295) (hb : b ≤ 4294967295)  (h : a ^^^ b = r) (w : World) :
    Calls Try.prog 23 #[.int .u8 48, .int .u32 (a : Int), .int .u32 (b : Int)] w (Ret w (.tuple #[.int .u32 (r : Nat), .int .i64 0])) :=
  Binary_of _ _ _ _ _ (fun W => got_same (bin_48 a b r ha hb h W)) w
theorem two_48 (a b r : Nat) (ha : a ≤ 4294967295) (hb : b ≤ 4294967295)  (h : a ^^^ b = r) (w : World) :
    Calls Try.prog 27 #[.int .u8 48, .int .u32 (a : Int), .int .u32 (b : Int)] w (Ret w (.int .u32 (r : Nat))) :=
  two_of _ _ _ _ _ (fun W => Binary_48 a b r ha hb h W) w

theorem Binary_50 (a b r : Nat) (ha : a ≤ 4294967295) (hb : b ≤ 4294967295)  (h : a * 2 ^ (b % 32) % 4294967296 = r) (w : World) :
    Calls Try.prog 23 #[.int .u8 50, .int .u32 (a : Int), .int .u32 (b : Int)] w (Ret w (.tuple #[.int .u32 (r : Nat), .int .i64 0])) :=
  Binary_of _ _ _ _ _ (fun W => got_same (bin_50 a b r ha hb h W)) w
theorem two_50 (a b r : Nat) (ha : a ≤ 4294967295) (hb : b ≤ 4294967295)  (h : a * 2 ^ (b % 32) % 4294967296 = r) (w : World) :
    Calls Try.prog 27 #[.int .u8 50, .int .u32 (a : Int), .int .u32 (b : Int)] w (Ret w (.int .u32 (r : Nat))) :=
  two_of _ _ _ _ _ (fun W => Binary_50 a b r ha hb h W) w

theorem Binary_51 (a b r : Nat) (ha : a ≤ 4294967295) (hb : b ≤ 4294967295)  (h : wrap32 (a : Int) / 2 ^ (b % 32) % 4294967296 = (r : Int)) (w : World) :
    Calls Try.prog 23 #[.int .u8 51, .int .u32 (a : Int), .int .u32 (b : Int)] w (Ret w (.tuple #[.int .u32 (r : Nat), .int .i64 0])) :=
  Binary_of _ _ _ _ _ (fun W => got_same (bin_51 a b r ha hb h W)) w
theorem two_51 (a b r : Nat) (ha : a ≤ 4294967295) (hb : b ≤ 4294967295)  (h : wrap32 (a : Int) / 2 ^ (b % 32) % 4294967296 = (r : Int)) (w : World) :
    Calls Try.prog 27 #[.int .u8 51, .int .u32 (a : Int), .int .u32 (b : Int)] w (Ret w (.int .u32 (r : Nat))) :=
  two_of _ _ _ _ _ (fun W => Binary_51 a b r ha hb h W) w

theorem Binary_52 (a b r : Nat) (ha : a ≤ 4294967295) (hb : b ≤ 4294967295)  (h : a / 2 ^ (b % 32) = r) (w : World) :
    Calls Try.prog 23 #[.int .u8 52, .int .u32 (a : Int), .int .u32 (b : Int)] w (Ret w (.tuple #[.int .u32 (r : Nat), .int .i64 0])) :=
  Binary_of _ _ _ _ _ (fun W => got_same (bin_52 a b r ha hb h W)) w
theorem two_52 (a b r : Nat) (ha : a ≤ 4294967295) (hb : b ≤ 4294967295)  (h : a / 2 ^ (b % 32) = r) (w : World) :
    Calls Try.prog 27 #[.int .u8 52, .int .u32 (a : Int), .int .u32 (b : Int)] w (Ret w (.int .u32 (r : Nat))) :=
  two_of _ _ _ _ _ (fun W => Binary_52 a b r ha hb h W) w

theorem Binary_54 (a b r : Nat) (h : sumW a b = r) (w : World) :
    Calls Try.prog 23 #[.int .u8 54, .int .u32 (a : Int), .int .u32 (b : Int)] w (Ret w (.tuple #[.int .u32 (r : Nat), .int .i64 0])) :=
  Binary_of _ _ _ _ _ (fun W => bin_54 a b r h W) w
theorem two_54 (a b r : Nat) (h : sumW a b = r) (w : World) :
    Calls Try.prog 27 #[.int .u8 54, .int .u32 (a : Int), .int .u32 (b : Int)] w (Ret w (.int .u32 (r : Nat))) :=
  two_of _ _ _ _ _ (fun W => Binary_54 a b r h W) w

theorem Binary_55 (a b r : Nat) (h : restW a b = r) (w : World) :
    Calls Try.prog 23 #[.int .u8 55, .int .u32 (a : Int), .int .u32 (b : Int)] w (Ret w (.tuple #[.int .u32 (r : Nat), .int .i64 0])) :=
  Binary_of _ _ _ _ _ (fun W => bin_55 a b r h W) w
theorem two_55 (a b r : Nat) (h : restW a b = r) (w : World) :
    Calls Try.prog 27 #[.int .u8 55, .int .u32 (a : Int), .int .u32 (b : Int)] w (Ret w (.int .u32 (r : Nat))) :=
  two_of _ _ _ _ _ (fun W => Binary_55 a b r h W) w

theorem Binary_56 (a b r : Nat) (h : productW a b = r) (w : World) :
    Calls Try.prog 23 #[.int .u8 56, .int .u32 (a : Int), .int .u32 (b : Int)] w (Ret w (.tuple #[.int .u32 (r : Nat), .int .i64 0])) :=
  Binary_of _ _ _ _ _ (fun W => bin_56 a b r h W) w
theorem two_56 (a b r : Nat) (h : productW a b = r) (w : World) :
    Calls Try.prog 27 #[.int .u8 56, .int .u32 (a : Int), .int .u32 (b : Int)] w (Ret w (.int .u32 (r : Nat))) :=
  two_of _ _ _ _ _ (fun W => Binary_56 a b r h W) w

theorem Binary_57 (a b r : Nat) (h : ratioW a b = r) (w : World) :
    Calls Try.prog 23 #[.int .u8 57, .int .u32 (a : Int), .int .u32 (b : Int)] w (Ret w (.tuple #[.int .u32 (r : Nat), .int .i64 0])) :=
  Binary_of _ _ _ _ _ (fun W => bin_57 a b r h W) w
theorem two_57 (a b r : Nat) (h : ratioW a b = r) (w : World) :
    Calls Try.prog 27 #[.int .u8 57, .int .u32 (a : Int), .int .u32 (b : Int)] w (Ret w (.int .u32 (r : Nat))) :=
  two_of _ _ _ _ _ (fun W => Binary_57 a b r h W) w

theorem Binary_42_nought (a : Nat) (w : World) :
    Calls Try.prog 23 #[.int .u8 42, .int .u32 (a : Int), .int .u32 0] w (Ret w (.tuple #[.int .u32 0, .int .i64 60])) :=
  Binary_nought _ _ _ _ _ (fun W => bin_42_nought a W) w

theorem Binary_43_nought (a : Nat) (w : World) :
    Calls Try.prog 23 #[.int .u8 43, .int .u32 (a : Int), .int .u32 0] w (Ret w (.tuple #[.int .u32 0, .int .i64 60])) :=
  Binary_nought _ _ _ _ _ (fun W => bin_43_nought a W) w

theorem Binary_44_nought (a : Nat) (w : World) :
    Calls Try.prog 23 #[.int .u8 44, .int .u32 (a : Int), .int .u32 0] w (Ret w (.tuple #[.int .u32 0, .int .i64 60])) :=
  Binary_nought _ _ _ _ _ (fun W => bin_44_nought a W) w

theorem Binary_45_nought (a : Nat) (w : World) :
    Calls Try.prog 23 #[.int .u8 45, .int .u32 (a : Int), .int .u32 0] w (Ret w (.tuple #[.int .u32 0, .int .i64 60])) :=
  Binary_nought _ _ _ _ _ (fun W => bin_45_nought a W) w

theorem one_36 (a r : Nat) (ha : a ≤ 4294967295) (h : sex8 a = r) (w : World) :
    Calls Try.prog 28 #[.int .u8 36, .int .u32 (a : Int)] w fun e w' => e = .returned (.int .u32 (r : Nat)) ∧ w = w' :=
  one_of _ _ _ _ (fun W => un_36 a r ha h W) w

theorem one_37 (a r : Nat) (ha : a ≤ 4294967295) (h : sex16 a = r) (w : World) :
    Calls Try.prog 28 #[.int .u8 37, .int .u32 (a : Int)] w fun e w' => e = .returned (.int .u32 (r : Nat)) ∧ w = w' :=
  one_of _ _ _ _ (fun W => un_37 a r ha h W) w

theorem one_38 (a r : Nat) (ha : a ≤ 4294967295) (h : (4294967296 - a) % 4294967296 = r) (w : World) :
    Calls Try.prog 28 #[.int .u8 38, .int .u32 (a : Int)] w fun e w' => e = .returned (.int .u32 (r : Nat)) ∧ w = w' :=
  one_of _ _ _ _ (fun W => un_38 a r ha h W) w

theorem one_49 (a r : Nat) (ha : a ≤ 4294967295) (h : 4294967295 - a = r) (w : World) :
    Calls Try.prog 28 #[.int .u8 49, .int .u32 (a : Int)] w fun e w' => e = .returned (.int .u32 (r : Nat)) ∧ w = w' :=
  one_of _ _ _ _ (fun W => un_49 a r ha h W) w

theorem one_53 (a r : Nat) (ha : a ≤ 4294967295) (h : turnW a = r) (w : World) :
    Calls Try.prog 28 #[.int .u8 53, .int .u32 (a : Int)] w fun e w' => e = .returned (.int .u32 (r : Nat)) ∧ w = w' :=
  one_of _ _ _ _ (fun W => un_53 a r ha h W) w

theorem one_58 (a r : Nat) (ha : a ≤ 4294967295) (h : ofW (wrap32 (a : Int)) = r) (w : World) :
    Calls Try.prog 28 #[.int .u8 58, .int .u32 (a : Int)] w fun e w' => e = .returned (.int .u32 (r : Nat)) ∧ w = w' :=
  one_of _ _ _ _ (fun W => un_58 a r ha h W) w

theorem one_59 (a r : Nat) (ha : a ≤ 4294967295) (h : towD (single.read a) % 4294967296 = (r : Int)) (w : World) :
    Calls Try.prog 28 #[.int .u8 59, .int .u32 (a : Int)] w fun e w' => e = .returned (.int .u32 (r : Nat)) ∧ w = w' :=
  one_of _ _ _ _ (fun W => un_59 a r ha h W) w

theorem is_13 (a b : Nat) (t : Bool) (h : decide (a = b) = t) (w : World) :
    Calls Try.prog 18 #[.int .u8 13, .int .u32 (a : Int), .int .u32 (b : Int)] w fun e w' => e = .returned (.bool t) ∧ w = w' :=
  is_of _ _ _ _ _ (fun W => hol_13 a b t h W) w

theorem is_14 (a b : Nat) (t : Bool) (h : decide (¬ a = b) = t) (w : World) :
    Calls Try.prog 18 #[.int .u8 14, .int .u32 (a : Int), .int .u32 (b : Int)] w fun e w' => e = .returned (.bool t) ∧ w = w' :=
  is_of _ _ _ _ _ (fun W => hol_14 a b t h W) w

theorem is_15 (a b : Nat) (t : Bool) (h : decide (wrap32 (a : Int) < wrap32 (b : Int)) = t) (w : World) :
    Calls Try.prog 18 #[.int .u8 15, .int .u32 (a : Int), .int .u32 (b : Int)] w fun e w' => e = .returned (.bool t) ∧ w = w' :=
  is_of _ _ _ _ _ (fun W => hol_15 a b t h W) w

theorem is_16 (a b : Nat) (t : Bool) (h : decide (wrap32 (a : Int) ≤ wrap32 (b : Int)) = t) (w : World) :
    Calls Try.prog 18 #[.int .u8 16, .int .u32 (a : Int), .int .u32 (b : Int)] w fun e w' => e = .returned (.bool t) ∧ w = w' :=
  is_of _ _ _ _ _ (fun W => hol_16 a b t h W) w

theorem is_17 (a b : Nat) (t : Bool) (h : decide (wrap32 (b : Int) < wrap32 (a : Int)) = t) (w : World) :
    Calls Try.prog 18 #[.int .u8 17, .int .u32 (a : Int), .int .u32 (b : Int)] w fun e w' => e = .returned (.bool t) ∧ w = w' :=
  is_of _ _ _ _ _ (fun W => hol_17 a b t h W) w

theorem is_18 (a b : Nat) (t : Bool) (h : decide (wrap32 (b : Int) ≤ wrap32 (a : Int)) = t) (w : World) :
    Calls Try.prog 18 #[.int .u8 18, .int .u32 (a : Int), .int .u32 (b : Int)] w fun e w' => e = .returned (.bool t) ∧ w = w' :=
  is_of _ _ _ _ _ (fun W => hol_18 a b t h W) w

theorem is_19 (a b : Nat) (t : Bool) (h : decide (a < b) = t) (w : World) :
    Calls Try.prog 18 #[.int .u8 19, .int .u32 (a : Int), .int .u32 (b : Int)] w fun e w' => e = .returned (.bool t) ∧ w = w' :=
  is_of _ _ _ _ _ (fun W => hol_19 a b t h W) w

theorem is_20 (a b : Nat) (t : Bool) (h : decide (a ≤ b) = t) (w : World) :
    Calls Try.prog 18 #[.int .u8 20, .int .u32 (a : Int), .int .u32 (b : Int)] w fun e w' => e = .returned (.bool t) ∧ w = w' :=
  is_of _ _ _ _ _ (fun W => hol_20 a b t h W) w

theorem is_21 (a b : Nat) (t : Bool) (h : decide (b < a) = t) (w : World) :
    Calls Try.prog 18 #[.int .u8 21, .int .u32 (a : Int), .int .u32 (b : Int)] w fun e w' => e = .returned (.bool t) ∧ w = w' :=
  is_of _ _ _ _ _ (fun W => hol_21 a b t h W) w

theorem is_22 (a b : Nat) (t : Bool) (h : decide (b ≤ a) = t) (w : World) :
    Calls Try.prog 18 #[.int .u8 22, .int .u32 (a : Int), .int .u32 (b : Int)] w fun e w' => e = .returned (.bool t) ∧ w = w' :=
  is_of _ _ _ _ _ (fun W => hol_22 a b t h W) w

theorem is_23 (a b : Nat) (t : Bool) (h : fcmp 23 (sideOf (single.order a b)) = t) (w : World) :
    Calls Try.prog 18 #[.int .u8 23, .int .u32 (a : Int), .int .u32 (b : Int)] w fun e w' => e = .returned (.bool t) ∧ w = w' :=
  is_of _ _ _ _ _ (fun W => hol_23 a b t h W) w

theorem is_24 (a b : Nat) (t : Bool) (h : fcmp 24 (sideOf (single.order a b)) = t) (w : World) :
    Calls Try.prog 18 #[.int .u8 24, .int .u32 (a : Int), .int .u32 (b : Int)] w fun e w' => e = .returned (.bool t) ∧ w = w' :=
  is_of _ _ _ _ _ (fun W => hol_24 a b t h W) w

theorem is_25 (a b : Nat) (t : Bool) (h : fcmp 25 (sideOf (single.order a b)) = t) (w : World) :
    Calls Try.prog 18 #[.int .u8 25, .int .u32 (a : Int), .int .u32 (b : Int)] w fun e w' => e = .returned (.bool t) ∧ w = w' :=
  is_of _ _ _ _ _ (fun W => hol_25 a b t h W) w

theorem is_26 (a b : Nat) (t : Bool) (h : fcmp 26 (sideOf (single.order a b)) = t) (w : World) :
    Calls Try.prog 18 #[.int .u8 26, .int .u32 (a : Int), .int .u32 (b : Int)] w fun e w' => e = .returned (.bool t) ∧ w = w' :=
  is_of _ _ _ _ _ (fun W => hol_26 a b t h W) w

theorem is_27 (a b : Nat) (t : Bool) (h : fcmp 27 (sideOf (single.order a b)) = t) (w : World) :
    Calls Try.prog 18 #[.int .u8 27, .int .u32 (a : Int), .int .u32 (b : Int)] w fun e w' => e = .returned (.bool t) ∧ w = w' :=
  is_of _ _ _ _ _ (fun W => hol_27 a b t h W) w

theorem is_28 (a b : Nat) (t : Bool) (h : fcmp 28 (sideOf (single.order a b)) = t) (w : World) :
    Calls Try.prog 18 #[.int .u8 28, .int .u32 (a : Int), .int .u32 (b : Int)] w fun e w' => e = .returned (.bool t) ∧ w = w' :=
  is_of _ _ _ _ _ (fun W => hol_28 a b t h W) w

set_option maxHeartbeats 1000000 in
theorem awake_any (w : World) : Calls Try.prog 16 #[] w (Ret w (.bool true)) := by
  have a1 := Lib.hid (fun W => Binary_45_nought 5 W)
  have a2 := Lib.hid (fun W => two_39 2 3 5 (by decide) (by decide) (by decide) W)
  have a3 := Lib.hid (fun W => two_41 6 7 42 (by decide) (by decide) (by decide) W)
  have a4 := Lib.hid (fun W => two_42 7 2 3 (by decide) (by decide) (by decide +kernel) (by decide +kernel) W)
  have a5 := Lib.hid (fun W => one_38 1 4294967295 (by decide) (by decide) W)
  have a6 := Lib.hid (fun W => one_36 511 4294967295 (by decide) (by decide) W)
  have a7 := Lib.hid (fun W => two_50 1 33 2 (by decide) (by decide) (by decide) W)
  have a8 := Lib.hid (fun W => is_15 4294967295 0 true (by decide +kernel) W)
  have a9 := Lib.hid (fun W => is_21 4294967295 0 true (by decide +kernel) W)
  have b1 := Lib.hid (fun W => is_24 2143289344 2143289344 true (by decide +kernel) W)
  go_enter Try.func16, Try.ntmps16
  go_wp2_with fail
  refine (a1.out _).mono ?_
  rintro e w' ⟨rfl, h1⟩
  go_wp2_with fail
  refine (a2.out _).mono ?_
  rintro e w' ⟨rfl, h2⟩
  go_wp2_with fail
  refine (a3.out _).mono ?_
  rintro e w' ⟨rfl, h3⟩
  go_wp2_with fail
  refine (a4.out _).mono ?_
  rintro e w' ⟨rfl, h4⟩
  go_wp2_with fail
  refine (a5.out _).mono ?_
  rintro e w' ⟨rfl, rfl⟩
  go_wp2_with fail
  refine (a6.out _).mono ?_
  rintro e w' ⟨rfl, rfl⟩
  go_wp2_with fail
  refine (a7.out _).mono ?_
  rintro e w' ⟨rfl, h5⟩
  go_wp2_with fail
  refine (a8.out _).mono ?_
  rintro e w' ⟨rfl, rfl⟩
  go_wp2_with fail
  refine (a9.out _).mono ?_
  rintro e w' ⟨rfl, rfl⟩
  go_wp2_with fail
  refine (b1.out _).mono ?_
  rintro e w' ⟨rfl, rfl⟩
  go_wp2
  go_ret
  exact ⟨rfl, bs_step (bs_step (bs_step (bs_step h1 h2) h3) h4) h5⟩
end Go.Proofs.Ytfgbjaejkfkmmaa
