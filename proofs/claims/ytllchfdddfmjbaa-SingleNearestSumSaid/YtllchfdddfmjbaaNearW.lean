/- SingleNearestSum (printed by a program of ours). -/
import Derived.Test.YtllchfdddfmjbaaNear3
import Derived.Test.YtllchfdddfmjbaaBel
import Derived.Test.YtllchfdddfmjbaaAwake
namespace Go.Proofs.Ytllchfdddfmjbaa
open Go.RowKit Ieee
set_option linter.unusedVariables false

set_option maxRecDepth 100000 in
set_option maxHeartbeats 2000000 in
theorem ns_inf1 (a b : Nat) (f1 : ∀ W, Calls Try.prog 25 #[.int .u32 (a : Int)] W fun e w' => e = .returned (.bool false) ∧ W = w') (w : World) : Calls Try.prog 6 #[.int .u32 (a : Int), .int .u32 (b : Int)] w (Ret w (.bool true)) := by
  have F1 := Lib.hid f1
  clear f1
  go_enter Try.func6, Try.ntmps6
  go_wp2_with fail
  refine (F1.out _).mono ?_
  rintro e w' ⟨rfl, rfl⟩
  go_wp2_with fail
  refine (awake_any _).mono ?_
  rintro e w' ⟨rfl, n9, rfl⟩
  go_wp2
  go_ret
  exact ⟨rfl, by repeat (first | exact Below.refl _ _ | refine bs_drew ?_ | refine bs_drewN ?_ _)⟩

set_option maxRecDepth 100000 in
set_option maxHeartbeats 2000000 in
theorem ns_inf2 (a b : Nat) (f1 : ∀ W, Calls Try.prog 25 #[.int .u32 (a : Int)] W fun e w' => e = .returned (.bool true) ∧ W = w') (f2 : ∀ W, Calls Try.prog 25 #[.int .u32 (b : Int)] W fun e w' => e = .returned (.bool false) ∧ W = w') (w : World) : Calls Try.prog 6 #[.int .u32 (a : Int), .int .u32 (b : Int)] w (Ret w (.bool true)) := by
  have F1 := Lib.hid f1
  have F2 := Lib.hid f2
  clear f1 f2
  go_enter Try.func6, Try.ntmps6
  go_wp2_with fail
  refine (F1.out _).mono ?_
  rintro e w' ⟨rfl, rfl⟩
  go_wp2_with fail
  refine (F2.out _).mono ?_
  rintro e w' ⟨rfl, rfl⟩
  go_wp2_with fail
  refine (awake_any _).mono ?_
  rintro e w' ⟨rfl, n9, rfl⟩
  go_wp2
  go_ret
  exact ⟨rfl, by repeat (first | exact Below.refl _ _ | refine bs_drew ?_ | refine bs_drewN ?_ _)⟩

set_option maxRecDepth 100000 in
set_option maxHeartbeats 2000000 in
theorem ns_far1 (a b ma mb : Nat) (A B : Int) (f1 : ∀ W, Calls Try.prog 25 #[.int .u32 (a : Int)] W fun e w' => e = .returned (.bool true) ∧ W = w') (f2 : ∀ W, Calls Try.prog 25 #[.int .u32 (b : Int)] W fun e w' => e = .returned (.bool true) ∧ W = w') (r1 : ∀ W, Calls Try.prog 26 #[.int .u32 (a : Int)] W fun e w' => e = .returned (.tuple #[.int .u64 (ma : Int), .int .i64 A]) ∧ W = w') (r2 : ∀ W, Calls Try.prog 26 #[.int .u32 (b : Int)] W fun e w' => e = .returned (.tuple #[.int .u64 (mb : Int), .int .i64 B]) ∧ W = w') (hS : ∀ W, Calls Try.prog 14 #[.int .u32 (a : Int), .int .u32 (b : Int)] W (Got W (.int .u32 (a : Int)))) (D : Int) (g1 : IntKind.i64.wrap (A - B) = D) (g3 : decide (38 < D) = true) (hT : ∀ W, Calls Try.prog 14 #[.int .u32 (b : Int), .int .u32 (a : Int)] W (Got W (.int .u32 (a : Int)))) (w : World) : Calls Try.prog 6 #[.int .u32 (a : Int), .int .u32 (b : Int)] w (Ret w (.bool true)) := by
  have F1 := Lib.hid f1
  have F2 := Lib.hid f2
  have R1 := Lib.hid r1
  have R2 := Lib.hid r2
  have HS := Lib.hid hS
  clear f1 f2 r1 r2 hS
  have HT := Lib.hid hT
  clear hT
  go_enter Try.func6, Try.ntmps6
  go_wp2_with fail
  refine (F1.out _).mono ?_
  rintro e w' ⟨rfl, rfl⟩
  go_wp2_with fail
  refine (F2.out _).mono ?_
  rintro e w' ⟨rfl, rfl⟩
  go_wp2_with fail
  refine (R1.out _).mono ?_
  rintro e w' ⟨rfl, rfl⟩
  go_wp2_with fail
  refine (R2.out _).mono ?_
  rintro e w' ⟨rfl, rfl⟩
  go_wp2_with fail
  refine (HS.out _).mono ?_
  rintro e w' ⟨rfl, n1, rfl⟩
  go_wp2_with fail
  refine (HT.out _).mono ?_
  rintro e w' ⟨rfl, n2, rfl⟩
  go_wp2_with fail
  refine (awake_any _).mono ?_
  rintro e w' ⟨rfl, n9, rfl⟩
  go_wp2
  go_ret
  exact ⟨rfl, by repeat (first | exact Below.refl _ _ | refine bs_drew ?_ | refine bs_drewN ?_ _)⟩

set_option maxRecDepth 100000 in
set_option maxHeartbeats 2000000 in
theorem ns_far2 (a b ma mb : Nat) (A B : Int) (f1 : ∀ W, Calls Try.prog 25 #[.int .u32 (a : Int)] W fun e w' => e = .returned (.bool true) ∧ W = w') (f2 : ∀ W, Calls Try.prog 25 #[.int .u32 (b : Int)] W fun e w' => e = .returned (.bool true) ∧ W = w') (r1 : ∀ W, Calls Try.prog 26 #[.int .u32 (a : Int)] W fun e w' => e = .returned (.tuple #[.int .u64 (ma : Int), .int .i64 A]) ∧ W = w') (r2 : ∀ W, Calls Try.prog 26 #[.int .u32 (b : Int)] W fun e w' => e = .returned (.tuple #[.int .u64 (mb : Int), .int .i64 B]) ∧ W = w') (hS : ∀ W, Calls Try.prog 14 #[.int .u32 (a : Int), .int .u32 (b : Int)] W (Got W (.int .u32 (b : Int)))) (D E : Int) (g1 : IntKind.i64.wrap (A - B) = D) (g3 : decide (38 < D) = false) (g2 : IntKind.i64.wrap (B - A) = E) (g4 : decide (38 < E) = true) (hT : ∀ W, Calls Try.prog 14 #[.int .u32 (b : Int), .int .u32 (a : Int)] W (Got W (.int .u32 (b : Int)))) (w : World) : Calls Try.prog 6 #[.int .u32 (a : Int), .int .u32 (b : Int)] w (Ret w (.bool true)) := by
  have F1 := Lib.hid f1
  have F2 := Lib.hid f2
  have R1 := Lib.hid r1
  have R2 := Lib.hid r2
  have HS := Lib.hid hS
  clear f1 f2 r1 r2 hS
  have HT := Lib.hid hT
  clear hT
  go_enter Try.func6, Try.ntmps6
  go_wp2_with fail
  refine (F1.out _).mono ?_
  rintro e w' ⟨rfl, rfl⟩
  go_wp2_with fail
  refine (F2.out _).mono ?_
  rintro e w' ⟨rfl, rfl⟩
  go_wp2_with fail
  refine (R1.out _).mono ?_
  rintro e w' ⟨rfl, rfl⟩
  go_wp2_with fail
  refine (R2.out _).mono ?_
  rintro e w' ⟨rfl, rfl⟩
  go_wp2_with fail
  refine (HS.out _).mono ?_
  rintro e w' ⟨rfl, n1, rfl⟩
  go_wp2_with fail
  refine (HT.out _).mono ?_
  rintro e w' ⟨rfl, n2, rfl⟩
  go_wp2_with fail
  refine (awake_any _).mono ?_
  rintro e w' ⟨rfl, n9, rfl⟩
  go_wp2
  go_ret
  exact ⟨rfl, by repeat (first | exact Below.refl _ _ | refine bs_drew ?_ | refine bs_drewN ?_ _)⟩

set_option maxRecDepth 100000 in
set_option maxHeartbeats 2000000 in
theorem ns_zeroA (a b S ma mb : Nat) (A B : Int) (f1 : ∀ W, Calls Try.prog 25 #[.int .u32 (a : Int)] W fun e w' => e = .returned (.bool true) ∧ W = w') (f2 : ∀ W, Calls Try.prog 25 #[.int .u32 (b : Int)] W fun e w' => e = .returned (.bool true) ∧ W = w') (r1 : ∀ W, Calls Try.prog 26 #[.int .u32 (a : Int)] W fun e w' => e = .returned (.tuple #[.int .u64 (ma : Int), .int .i64 A]) ∧ W = w') (r2 : ∀ W, Calls Try.prog 26 #[.int .u32 (b : Int)] W fun e w' => e = .returned (.tuple #[.int .u64 (mb : Int), .int .i64 B]) ∧ W = w') (hS : ∀ W, Calls Try.prog 14 #[.int .u32 (a : Int), .int .u32 (b : Int)] W (Got W (.int .u32 (S : Int)))) (D : Int) (n : Nat) (g1 : IntKind.i64.wrap (A - B) = D) (g3 : decide (38 < D) = false) (g2 : IntKind.i64.wrap (B - A) = (n : Int)) (g4 : decide ((38 : Int) < (n : Int)) = false) (g4n : ¬ 38 < n) (gl : decide (B < A) = false) (X1 X2 : Int) (s1 : ∀ W, Calls Try.prog 29 #[.int .u32 (a : Int), .int .i64 0] W fun e w' => e = .returned (.int .i64 X1) ∧ W = w') (s2 : ∀ W, Calls Try.prog 29 #[.int .u32 (b : Int), .int .i64 (n : Int)] W fun e w' => e = .returned (.int .i64 X2) ∧ W = w') (hsum : IntKind.i64.wrap (X1 + X2) = 0) (hz : bits .and .u32 (S : Int) 2147483647 = 0) (w : World) : Calls Try.prog 6 #[.int .u32 (a : Int), .int .u32 (b : Int)] w (Ret w (.bool true)) := by
  have F1 := Lib.hid f1
  have F2 := Lib.hid f2
  have R1 := Lib.hid r1
  have R2 := Lib.hid r2
  have HS := Lib.hid hS
  clear f1 f2 r1 r2 hS
  have S1 := Lib.hid s1
  have S2 := Lib.hid s2
  clear s1 s2
  go_enter Try.func6, Try.ntmps6
  go_wp2_with fail
  refine (F1.out _).mono ?_
  rintro e w' ⟨rfl, rfl⟩
  go_wp2_with fail
  refine (F2.out _).mono ?_
  rintro e w' ⟨rfl, rfl⟩
  go_wp2_with fail
  refine (R1.out _).mono ?_
  rintro e w' ⟨rfl, rfl⟩
  go_wp2_with fail
  refine (R2.out _).mono ?_
  rintro e w' ⟨rfl, rfl⟩
  go_wp2_with fail
  refine (HS.out _).mono ?_
  rintro e w' ⟨rfl, n1, rfl⟩
  go_wp2_with fail
  refine (S1.out _).mono ?_
  rintro e w' ⟨rfl, rfl⟩
  go_wp2_with fail
  refine (S2.out _).mono ?_
  rintro e w' ⟨rfl, rfl⟩
  go_wp2_with fail
  refine (awake_any _).mono ?_
  rintro e w' ⟨rfl, n9, rfl⟩
  go_wp2
  go_ret
  exact ⟨rfl, by repeat (first | exact Below.refl _ _ | refine bs_drew ?_ | refine bs_drewN ?_ _)⟩

set_option maxRecDepth 100000 in
set_option maxHeartbeats 2000000 in
theorem ns_pgreatA (a b S ma mb : Nat) (A B : Int) (f1 : ∀ W, Calls Try.prog 25 #[.int .u32 (a : Int)] W fun e w' => e = .returned (.bool true) ∧ W = w') (f2 : ∀ W, Calls Try.prog 25 #[.int .u32 (b : Int)] W fun e w' => e = .returned (.bool true) ∧ W = w') (r1 : ∀ W, Calls Try.prog 26 #[.int .u32 (a : Int)] W fun e w' => e = .returned (.tuple #[.int .u64 (ma : Int), .int .i64 A]) ∧ W = w') (r2 : ∀ W, Calls Try.prog 26 #[.int .u32 (b : Int)] W fun e w' => e = .returned (.tuple #[.int .u64 (mb : Int), .int .i64 B]) ∧ W = w') (hS : ∀ W, Calls Try.prog 14 #[.int .u32 (a : Int), .int .u32 (b : Int)] W (Got W (.int .u32 (S : Int)))) (D : Int) (n : Nat) (g1 : IntKind.i64.wrap (A - B) = D) (g3 : decide (38 < D) = false) (g2 : IntKind.i64.wrap (B - A) = (n : Int)) (g4 : decide ((38 : Int) < (n : Int)) = false) (g4n : ¬ 38 < n) (gl : decide (B < A) = false) (X1 X2 : Int) (s1 : ∀ W, Calls Try.prog 29 #[.int .u32 (a : Int), .int .i64 0] W fun e w' => e = .returned (.int .i64 X1) ∧ W = w') (s2 : ∀ W, Calls Try.prog 29 #[.int .u32 (b : Int), .int .i64 (n : Int)] W fun e w' => e = .returned (.int .i64 X2) ∧ W = w') (x z : Nat) (hsum : IntKind.i64.wrap (X1 + X2) = (x : Int)) (hx0 : ((x : Int) == 0) = false) (hxn : ¬ x = 0) (hng : decide ((x : Int) < 0) = false) (hz : bits .and .u32 (S : Int) 2147483647 = (z : Int)) (hzs : ((S : Int) != (z : Int)) = false) (hwu : IntKind.u64.wrap (x : Int) = (x : Int)) (tg : ∀ W, Calls Try.prog 30 #[.int .u64 (x : Int), .int .i64 A] W fun e w' => e = .returned (.bool true) ∧ W = w') (hzi : ((z : Int) == 2139095040) = true) (w : World) : Calls Try.prog 6 #[.int .u32 (a : Int), .int .u32 (b : Int)] w (Ret w (.bool true)) := by
  have F1 := Lib.hid f1
  have F2 := Lib.hid f2
  have R1 := Lib.hid r1
  have R2 := Lib.hid r2
  have HS := Lib.hid hS
  clear f1 f2 r1 r2 hS
  have S1 := Lib.hid s1
  have S2 := Lib.hid s2
  clear s1 s2
  have TG := Lib.hid tg
  clear tg
  go_enter Try.func6, Try.ntmps6
  go_wp2_with fail
  refine (F1.out _).mono ?_
  rintro e w' ⟨rfl, rfl⟩
  go_wp2_with fail
  refine (F2.out _).mono ?_
  rintro e w' ⟨rfl, rfl⟩
  go_wp2_with fail
  refine (R1.out _).mono ?_
  rintro e w' ⟨rfl, rfl⟩
  go_wp2_with fail
  refine (R2.out _).mono ?_
  rintro e w' ⟨rfl, rfl⟩
  go_wp2_with fail
  refine (HS.out _).mono ?_
  rintro e w' ⟨rfl, n1, rfl⟩
  go_wp2_with fail
  refine (S1.out _).mono ?_
  rintro e w' ⟨rfl, rfl⟩
  go_wp2_with fail
  refine (S2.out _).mono ?_
  rintro e w' ⟨rfl, rfl⟩
  go_wp2_with fail
  refine (TG.out _).mono ?_
  rintro e w' ⟨rfl, rfl⟩
  go_wp2_with fail
  refine (awake_any _).mono ?_
  rintro e w' ⟨rfl, n9, rfl⟩
  go_wp2
  go_ret
  exact ⟨rfl, by repeat (first | exact Below.refl _ _ | refine bs_drew ?_ | refine bs_drewN ?_ _)⟩

set_option maxRecDepth 100000 in
set_option maxHeartbeats 2000000 in
theorem ns_pfineA (a b S ma mb : Nat) (A B : Int) (f1 : ∀ W, Calls Try.prog 25 #[.int .u32 (a : Int)] W fun e w' => e = .returned (.bool true) ∧ W = w') (f2 : ∀ W, Calls Try.prog 25 #[.int .u32 (b : Int)] W fun e w' => e = .returned (.bool true) ∧ W = w') (r1 : ∀ W, Calls Try.prog 26 #[.int .u32 (a : Int)] W fun e w' => e = .returned (.tuple #[.int .u64 (ma : Int), .int .i64 A]) ∧ W = w') (r2 : ∀ W, Calls Try.prog 26 #[.int .u32 (b : Int)] W fun e w' => e = .returned (.tuple #[.int .u64 (mb : Int), .int .i64 B]) ∧ W = w') (hS : ∀ W, Calls Try.prog 14 #[.int .u32 (a : Int), .int .u32 (b : Int)] W (Got W (.int .u32 (S : Int)))) (D : Int) (n : Nat) (g1 : IntKind.i64.wrap (A - B) = D) (g3 : decide (38 < D) = false) (g2 : IntKind.i64.wrap (B - A) = (n : Int)) (g4 : decide ((38 : Int) < (n : Int)) = false) (g4n : ¬ 38 < n) (gl : decide (B < A) = false) (X1 X2 : Int) (s1 : ∀ W, Calls Try.prog 29 #[.int .u32 (a : Int), .int .i64 0] W fun e w' => e = .returned (.int .i64 X1) ∧ W = w') (s2 : ∀ W, Calls Try.prog 29 #[.int .u32 (b : Int), .int .i64 (n : Int)] W fun e w' => e = .returned (.int .i64 X2) ∧ W = w') (x z : Nat) (hsum : IntKind.i64.wrap (X1 + X2) = (x : Int)) (hx0 : ((x : Int) == 0) = false) (hxn : ¬ x = 0) (hng : decide ((x : Int) < 0) = false) (hz : bits .and .u32 (S : Int) 2147483647 = (z : Int)) (hzs : ((S : Int) != (z : Int)) = false) (hwu : IntKind.u64.wrap (x : Int) = (x : Int)) (tg : ∀ W, Calls Try.prog 30 #[.int .u64 (x : Int), .int .i64 A] W fun e w' => e = .returned (.bool false) ∧ W = w') (hz0 : ((z : Int) == 0) = false) (fs : ∀ W, Calls Try.prog 25 #[.int .u32 (S : Int)] W fun e w' => e = .returned (.bool true) ∧ W = w') (lo hi : Nat) (hf : Int) (ends : Bool) (hv : ∀ W, Calls Try.prog 27 #[.int .u32 (S : Int)] W fun e w' => e = .returned (.tuple #[.int .u64 (lo : Int), .int .u64 (hi : Int), .int .i64 hf, .bool ends]) ∧ W = w') (bt : ∀ W, Calls Try.prog 28 #[.int .u64 (x : Int), .int .i64 A, .int .u64 (lo : Int), .int .u64 (hi : Int), .int .i64 hf, .bool ends] W fun e w' => e = .returned (.bool true) ∧ W = w') (w : World) : Calls Try.prog 6 #[.int .u32 (a : Int), .int .u32 (b : Int)] w (Ret w (.bool true)) := by
  have F1 := Lib.hid f1
  have F2 := Lib.hid f2
  have R1 := Lib.hid r1
  have R2 := Lib.hid r2
  have HS := Lib.hid hS
  clear f1 f2 r1 r2 hS
  have S1 := Lib.hid s1
  have S2 := Lib.hid s2
  clear s1 s2
  have TG := Lib.hid tg
  clear tg
  have FSN := Lib.hid fs
  have HV := Lib.hid hv
  have BT := Lib.hid bt
  clear fs hv bt
  go_enter Try.func6, Try.ntmps6
  go_wp2_with fail
  refine (F1.out _).mono ?_
  rintro e w' ⟨rfl, rfl⟩
  go_wp2_with fail
  refine (F2.out _).mono ?_
  rintro e w' ⟨rfl, rfl⟩
  go_wp2_with fail
  refine (R1.out _).mono ?_
  rintro e w' ⟨rfl, rfl⟩
  go_wp2_with fail
  refine (R2.out _).mono ?_
  rintro e w' ⟨rfl, rfl⟩
  go_wp2_with fail
  refine (HS.out _).mono ?_
  rintro e w' ⟨rfl, n1, rfl⟩
  go_wp2_with fail
  refine (S1.out _).mono ?_
  rintro e w' ⟨rfl, rfl⟩
  go_wp2_with fail
  refine (S2.out _).mono ?_
  rintro e w' ⟨rfl, rfl⟩
  go_wp2_with fail
  refine (TG.out _).mono ?_
  rintro e w' ⟨rfl, rfl⟩
  go_wp2_with fail
  refine (FSN.out _).mono ?_
  rintro e w' ⟨rfl, rfl⟩
  go_wp2_with fail
  refine (HV.out _).mono ?_
  rintro e w' ⟨rfl, rfl⟩
  go_wp2_with fail
  refine (BT.out _).mono ?_
  rintro e w' ⟨rfl, rfl⟩
  go_wp2_with fail
  refine (awake_any _).mono ?_
  rintro e w' ⟨rfl, n9, rfl⟩
  go_wp2
  go_ret
  exact ⟨rfl, by repeat (first | exact Below.refl _ _ | refine bs_drew ?_ | refine bs_drewN ?_ _)⟩

set_option maxRecDepth 100000 in
set_option maxHeartbeats 2000000 in
theorem ns_mgreatA (a b S ma mb : Nat) (A B : Int) (f1 : ∀ W, Calls Try.prog 25 #[.int .u32 (a : Int)] W fun e w' => e = .returned (.bool true) ∧ W = w') (f2 : ∀ W, Calls Try.prog 25 #[.int .u32 (b : Int)] W fun e w' => e = .returned (.bool true) ∧ W = w') (r1 : ∀ W, Calls Try.prog 26 #[.int .u32 (a : Int)] W fun e w' => e = .returned (.tuple #[.int .u64 (ma : Int), .int .i64 A]) ∧ W = w') (r2 : ∀ W, Calls Try.prog 26 #[.int .u32 (b : Int)] W fun e w' => e = .returned (.tuple #[.int .u64 (mb : Int), .int .i64 B]) ∧ W = w') (hS : ∀ W, Calls Try.prog 14 #[.int .u32 (a : Int), .int .u32 (b : Int)] W (Got W (.int .u32 (S : Int)))) (D : Int) (n : Nat) (g1 : IntKind.i64.wrap (A - B) = D) (g3 : decide (38 < D) = false) (g2 : IntKind.i64.wrap (B - A) = (n : Int)) (g4 : decide ((38 : Int) < (n : Int)) = false) (g4n : ¬ 38 < n) (gl : decide (B < A) = false) (X1 X2 : Int) (s1 : ∀ W, Calls Try.prog 29 #[.int .u32 (a : Int), .int .i64 0] W fun e w' => e = .returned (.int .i64 X1) ∧ W = w') (s2 : ∀ W, Calls Try.prog 29 #[.int .u32 (b : Int), .int .i64 (n : Int)] W fun e w' => e = .returned (.int .i64 X2) ∧ W = w') (x z : Nat) (hsum : IntKind.i64.wrap (X1 + X2) = -(x : Int)) (hx0 : (-(x : Int) == 0) = false) (hxn : ¬ x = 0) (hxp : 0 < x) (hng : decide (-(x : Int) < 0) = true) (hz : bits .and .u32 (S : Int) 2147483647 = (z : Int)) (hzs : ((S : Int) != (z : Int)) = true) (hwx : IntKind.i64.wrap (x : Int) = (x : Int)) (hwu : IntKind.u64.wrap (x : Int) = (x : Int)) (tg : ∀ W, Calls Try.prog 30 #[.int .u64 (x : Int), .int .i64 A] W fun e w' => e = .returned (.bool true) ∧ W = w') (hzi : ((z : Int) == 2139095040) = true) (w : World) : Calls Try.prog 6 #[.int .u32 (a : Int), .int .u32 (b : Int)] w (Ret w (.bool true)) := by
  have F1 := Lib.hid f1
  have F2 := Lib.hid f2
  have R1 := Lib.hid r1
  have R2 := Lib.hid r2
  have HS := Lib.hid hS
  clear f1 f2 r1 r2 hS
  have S1 := Lib.hid s1
  have S2 := Lib.hid s2
  clear s1 s2
  have TG := Lib.hid tg
  clear tg
  go_enter Try.func6, Try.ntmps6
  go_wp2_with fail
  refine (F1.out _).mono ?_
  rintro e w' ⟨rfl, rfl⟩
  go_wp2_with fail
  refine (F2.out _).mono ?_
  rintro e w' ⟨rfl, rfl⟩
  go_wp2_with fail
  refine (R1.out _).mono ?_
  rintro e w' ⟨rfl, rfl⟩
  go_wp2_with fail
  refine (R2.out _).mono ?_
  rintro e w' ⟨rfl, rfl⟩
  go_wp2_with fail
  refine (HS.out _).mono ?_
  rintro e w' ⟨rfl, n1, rfl⟩
  go_wp2_with fail
  refine (S1.out _).mono ?_
  rintro e w' ⟨rfl, rfl⟩
  go_wp2_with fail
  refine (S2.out _).mono ?_
  rintro e w' ⟨rfl, rfl⟩
  go_wp2_with fail
  refine (TG.out _).mono ?_
  rintro e w' ⟨rfl, rfl⟩
  go_wp2_with fail
  refine (awake_any _).mono ?_
  rintro e w' ⟨rfl, n9, rfl⟩
  go_wp2
  go_ret
  exact ⟨rfl, by repeat (first | exact Below.refl _ _ | refine bs_drew ?_ | refine bs_drewN ?_ _)⟩

set_option maxRecDepth 100000 in
set_option maxHeartbeats 2000000 in
theorem ns_mfineA (a b S ma mb : Nat) (A B : Int) (f1 : ∀ W, Calls Try.prog 25 #[.int .u32 (a : Int)] W fun e w' => e = .returned (.bool true) ∧ W = w') (f2 : ∀ W, Calls Try.prog 25 #[.int .u32 (b : Int)] W fun e w' => e = .returned (.bool true) ∧ W = w') (r1 : ∀ W, Calls Try.prog 26 #[.int .u32 (a : Int)] W fun e w' => e = .returned (.tuple #[.int .u64 (ma : Int), .int .i64 A]) ∧ W = w') (r2 : ∀ W, Calls Try.prog 26 #[.int .u32 (b : Int)] W fun e w' => e = .returned (.tuple #[.int .u64 (mb : Int), .int .i64 B]) ∧ W = w') (hS : ∀ W, Calls Try.prog 14 #[.int .u32 (a : Int), .int .u32 (b : Int)] W (Got W (.int .u32 (S : Int)))) (D : Int) (n : Nat) (g1 : IntKind.i64.wrap (A - B) = D) (g3 : decide (38 < D) = false) (g2 : IntKind.i64.wrap (B - A) = (n : Int)) (g4 : decide ((38 : Int) < (n : Int)) = false) (g4n : ¬ 38 < n) (gl : decide (B < A) = false) (X1 X2 : Int) (s1 : ∀ W, Calls Try.prog 29 #[.int .u32 (a : Int), .int .i64 0] W fun e w' => e = .returned (.int .i64 X1) ∧ W = w') (s2 : ∀ W, Calls Try.prog 29 #[.int .u32 (b : Int), .int .i64 (n : Int)] W fun e w' => e = .returned (.int .i64 X2) ∧ W = w') (x z : Nat) (hsum : IntKind.i64.wrap (X1 + X2) = -(x : Int)) (hx0 : (-(x : Int) == 0) = false) (hxn : ¬ x = 0) (hxp : 0 < x) (hng : decide (-(x : Int) < 0) = true) (hz : bits .and .u32 (S : Int) 2147483647 = (z : Int)) (hzs : ((S : Int) != (z : Int)) = true) (hwx : IntKind.i64.wrap (x : Int) = (x : Int)) (hwu : IntKind.u64.wrap (x : Int) = (x : Int)) (tg : ∀ W, Calls Try.prog 30 #[.int .u64 (x : Int), .int .i64 A] W fun e w' => e = .returned (.bool false) ∧ W = w') (hz0 : ((z : Int) == 0) = false) (fs : ∀ W, Calls Try.prog 25 #[.int .u32 (S : Int)] W fun e w' => e = .returned (.bool true) ∧ W = w') (lo hi : Nat) (hf : Int) (ends : Bool) (hv : ∀ W, Calls Try.prog 27 #[.int .u32 (S : Int)] W fun e w' => e = .returned (.tuple #[.int .u64 (lo : Int), .int .u64 (hi : Int), .int .i64 hf, .bool ends]) ∧ W = w') (bt : ∀ W, Calls Try.prog 28 #[.int .u64 (x : Int), .int .i64 A, .int .u64 (lo : Int), .int .u64 (hi : Int), .int .i64 hf, .bool ends] W fun e w' => e = .returned (.bool true) ∧ W = w') (w : World) : Calls Try.prog 6 #[.int .u32 (a : Int), .int .u32 (b : Int)] w (Ret w (.bool true)) := by
  have F1 := Lib.hid f1
  have F2 := Lib.hid f2
  have R1 := Lib.hid r1
  have R2 := Lib.hid r2
  have HS := Lib.hid hS
  clear f1 f2 r1 r2 hS
  have S1 := Lib.hid s1
  have S2 := Lib.hid s2
  clear s1 s2
  have TG := Lib.hid tg
  clear tg
  have FSN := Lib.hid fs
  have HV := Lib.hid hv
  have BT := Lib.hid bt
  clear fs hv bt
  go_enter Try.func6, Try.ntmps6
  go_wp2_with fail
  refine (F1.out _).mono ?_
  rintro e w' ⟨rfl, rfl⟩
  go_wp2_with fail
  refine (F2.out _).mono ?_
  rintro e w' ⟨rfl, rfl⟩
  go_wp2_with fail
  refine (R1.out _).mono ?_
  rintro e w' ⟨rfl, rfl⟩
  go_wp2_with fail
  refine (R2.out _).mono ?_
  rintro e w' ⟨rfl, rfl⟩
  go_wp2_with fail
  refine (HS.out _).mono ?_
  rintro e w' ⟨rfl, n1, rfl⟩
  go_wp2_with fail
  refine (S1.out _).mono ?_
  rintro e w' ⟨rfl, rfl⟩
  go_wp2_with fail
  refine (S2.out _).mono ?_
  rintro e w' ⟨rfl, rfl⟩
  go_wp2_with fail
  refine (TG.out _).mono ?_
  rintro e w' ⟨rfl, rfl⟩
  go_wp2_with fail
  refine (FSN.out _).mono ?_
  rintro e w' ⟨rfl, rfl⟩
  go_wp2_with fail
  refine (HV.out _).mono ?_
  rintro e w' ⟨rfl, rfl⟩
  go_wp2_with fail
  refine (BT.out _).mono ?_
  rintro e w' ⟨rfl, rfl⟩
  go_wp2_with fail
  refine (awake_any _).mono ?_
  rintro e w' ⟨rfl, n9, rfl⟩
  go_wp2
  go_ret
  exact ⟨rfl, by repeat (first | exact Below.refl _ _ | refine bs_drew ?_ | refine bs_drewN ?_ _)⟩

set_option maxRecDepth 100000 in
set_option maxHeartbeats 2000000 in
theorem ns_zeroB (a b S ma mb : Nat) (A B : Int) (f1 : ∀ W, Calls Try.prog 25 #[.int .u32 (a : Int)] W fun e w' => e = .returned (.bool true) ∧ W = w') (f2 : ∀ W, Calls Try.prog 25 #[.int .u32 (b : Int)] W fun e w' => e = .returned (.bool true) ∧ W = w') (r1 : ∀ W, Calls Try.prog 26 #[.int .u32 (a : Int)] W fun e w' => e = .returned (.tuple #[.int .u64 (ma : Int), .int .i64 A]) ∧ W = w') (r2 : ∀ W, Calls Try.prog 26 #[.int .u32 (b : Int)] W fun e w' => e = .returned (.tuple #[.int .u64 (mb : Int), .int .i64 B]) ∧ W = w') (hS : ∀ W, Calls Try.prog 14 #[.int .u32 (a : Int), .int .u32 (b : Int)] W (Got W (.int .u32 (S : Int)))) (D : Int) (n : Nat) (g1 : IntKind.i64.wrap (A - B) = (n : Int)) (g3 : decide ((38 : Int) < (n : Int)) = false) (g3n : ¬ 38 < n) (g2 : IntKind.i64.wrap (B - A) = D) (g4 : decide (38 < D) = false) (gl : decide (B < A) = true) (X1 X2 : Int) (s1 : ∀ W, Calls Try.prog 29 #[.int .u32 (a : Int), .int .i64 (n : Int)] W fun e w' => e = .returned (.int .i64 X1) ∧ W = w') (s2 : ∀ W, Calls Try.prog 29 #[.int .u32 (b : Int), .int .i64 0] W fun e w' => e = .returned (.int .i64 X2) ∧ W = w') (hsum : IntKind.i64.wrap (X1 + X2) = 0) (hz : bits .and .u32 (S : Int) 2147483647 = 0) (w : World) : Calls Try.prog 6 #[.int .u32 (a : Int), .int .u32 (b : Int)] w (Ret w (.bool true)) := by
  have F1 := Lib.hid f1
  have F2 := Lib.hid f2
  have R1 := Lib.hid r1
  have R2 := Lib.hid r2
  have HS := Lib.hid hS
  clear f1 f2 r1 r2 hS
  have S1 := Lib.hid s1
  have S2 := Lib.hid s2
  clear s1 s2
  go_enter Try.func6, Try.ntmps6
  go_wp2_with fail
  refine (F1.out _).mono ?_
  rintro e w' ⟨rfl, rfl⟩
  go_wp2_with fail
  refine (F2.out _).mono ?_
  rintro e w' ⟨rfl, rfl⟩
  go_wp2_with fail
  refine (R1.out _).mono ?_
  rintro e w' ⟨rfl, rfl⟩
  go_wp2_with fail
  refine (R2.out _).mono ?_
  rintro e w' ⟨rfl, rfl⟩
  go_wp2_with fail
  refine (HS.out _).mono ?_
  rintro e w' ⟨rfl, n1, rfl⟩
  go_wp2_with fail
  refine (S1.out _).mono ?_
  rintro e w' ⟨rfl, rfl⟩
  go_wp2_with fail
  refine (S2.out _).mono ?_
  rintro e w' ⟨rfl, rfl⟩
  go_wp2_with fail
  refine (awake_any _).mono ?_
  rintro e w' ⟨rfl, n9, rfl⟩
  go_wp2
  go_ret
  exact ⟨rfl, by repeat (first | exact Below.refl _ _ | refine bs_drew ?_ | refine bs_drewN ?_ _)⟩

set_option maxRecDepth 100000 in
set_option maxHeartbeats 2000000 in
theorem ns_pgreatB (a b S ma mb : Nat) (A B : Int) (f1 : ∀ W, Calls Try.prog 25 #[.int .u32 (a : Int)] W fun e w' => e = .returned (.bool true) ∧ W = w') (f2 : ∀ W, Calls Try.prog 25 #[.int .u32 (b : Int)] W fun e w' => e = .returned (.bool true) ∧ W = w') (r1 : ∀ W, Calls Try.prog 26 #[.int .u32 (a : Int)] W fun e w' => e = .returned (.tuple #[.int .u64 (ma : Int), .int .i64 A]) ∧ W = w') (r2 : ∀ W, Calls Try.prog 26 #[.int .u32 (b : Int)] W fun e w' => e = .returned (.tuple #[.int .u64 (mb : Int), .int .i64 B]) ∧ W = w') (hS : ∀ W, Calls Try.prog 14 #[.int .u32 (a : Int), .int .u32 (b : Int)] W (Got W (.int .u32 (S : Int)))) (D : Int) (n : Nat) (g1 : IntKind.i64.wrap (A - B) = (n : Int)) (g3 : decide ((38 : Int) < (n : Int)) = false) (g3n : ¬ 38 < n) (g2 : IntKind.i64.wrap (B - A) = D) (g4 : decide (38 < D) = false) (gl : decide (B < A) = true) (X1 X2 : Int) (s1 : ∀ W, Calls Try.prog 29 #[.int .u32 (a : Int), .int .i64 (n : Int)] W fun e w' => e = .returned (.int .i64 X1) ∧ W = w') (s2 : ∀ W, Calls Try.prog 29 #[.int .u32 (b : Int), .int .i64 0] W fun e w' => e = .returned (.int .i64 X2) ∧ W = w') (x z : Nat) (hsum : IntKind.i64.wrap (X1 + X2) = (x : Int)) (hx0 : ((x : Int) == 0) = false) (hxn : ¬ x = 0) (hng : decide ((x : Int) < 0) = false) (hz : bits .and .u32 (S : Int) 2147483647 = (z : Int)) (hzs : ((S : Int) != (z : Int)) = false) (hwu : IntKind.u64.wrap (x : Int) = (x : Int)) (tg : ∀ W, Calls Try.prog 30 #[.int .u64 (x : Int), .int .i64 B] W fun e w' => e = .returned (.bool true) ∧ W = w') (hzi : ((z : Int) == 2139095040) = true) (w : World) : Calls Try.prog 6 #[.int .u32 (a : Int), .int .u32 (b : Int)] w (Ret w (.bool true)) := by
  have F1 := Lib.hid f1
  have F2 := Lib.hid f2
  have R1 := Lib.hid r1
  have R2 := Lib.hid r2
  have HS := Lib.hid hS
  clear f1 f2 r1 r2 hS
  have S1 := Lib.hid s1
  have S2 := Lib.hid s2
  clear s1 s2
  have TG := Lib.hid tg
  clear tg
  go_enter Try.func6, Try.ntmps6
  go_wp2_with fail
  refine (F1.out _).mono ?_
  rintro e w' ⟨rfl, rfl⟩
  go_wp2_with fail
  refine (F2.out _).mono ?_
  rintro e w' ⟨rfl, rfl⟩
  go_wp2_with fail
  refine (R1.out _).mono ?_
  rintro e w' ⟨rfl, rfl⟩
  go_wp2_with fail
  refine (R2.out _).mono ?_
  rintro e w' ⟨rfl, rfl⟩
  go_wp2_with fail
  refine (HS.out _).mono ?_
  rintro e w' ⟨rfl, n1, rfl⟩
  go_wp2_with fail
  refine (S1.out _).mono ?_
  rintro e w' ⟨rfl, rfl⟩
  go_wp2_with fail
  refine (S2.out _).mono ?_
  rintro e w' ⟨rfl, rfl⟩
  go_wp2_with fail
  refine (TG.out _).mono ?_
  rintro e w' ⟨rfl, rfl⟩
  go_wp2_with fail
  refine (awake_any _).mono ?_
  rintro e w' ⟨rfl, n9, rfl⟩
  go_wp2
  go_ret
  exact ⟨rfl, by repeat (first | exact Below.refl _ _ | refine bs_drew ?_ | refine bs_drewN ?_ _)⟩

set_option maxRecDepth 100000 in
set_option maxHeartbeats 2000000 in
theorem ns_pfineB (a b S ma mb : Nat) (A B : Int) (f1 : ∀ W, Calls Try.prog 25 #[.int .u32 (a : Int)] W fun e w' => e = .returned (.bool true) ∧ W = w') (f2 : ∀ W, Calls Try.prog 25 #[.int .u32 (b : Int)] W fun e w' => e = .returned (.bool true) ∧ W = w') (r1 : ∀ W, Calls Try.prog 26 #[.int .u32 (a : Int)] W fun e w' => e = .returned (.tuple #[.int .u64 (ma : Int), .int .i64 A]) ∧ W = w') (r2 : ∀ W, Calls Try.prog 26 #[.int .u32 (b : Int)] W fun e w' => e = .returned (.tuple #[.int .u64 (mb : Int), .int .i64 B]) ∧ W = w') (hS : ∀ W, Calls Try.prog 14 #[.int .u32 (a : Int), .int .u32 (b : Int)] W (Got W (.int .u32 (S : Int)))) (D : Int) (n : Nat) (g1 : IntKind.i64.wrap (A - B) = (n : Int)) (g3 : decide ((38 : Int) < (n : Int)) = false) (g3n : ¬ 38 < n) (g2 : IntKind.i64.wrap (B - A) = D) (g4 : decide (38 < D) = false) (gl : decide (B < A) = true) (X1 X2 : Int) (s1 : ∀ W, Calls Try.prog 29 #[.int .u32 (a : Int), .int .i64 (n : Int)] W fun e w' => e = .returned (.int .i64 X1) ∧ W = w') (s2 : ∀ W, Calls Try.prog 29 #[.int .u32 (b : Int), .int .i64 0] W fun e w' => e = .returned (.int .i64 X2) ∧ W = w') (x z : Nat) (hsum : IntKind.i64.wrap (X1 + X2) = (x : Int)) (hx0 : ((x : Int) == 0) = false) (hxn : ¬ x = 0) (hng : decide ((x : Int) < 0) = false) (hz : bits .and .u32 (S : Int) 2147483647 = (z : Int)) (hzs : ((S : Int) != (z : Int)) = false) (hwu : IntKind.u64.wrap (x : Int) = (x : Int)) (tg : ∀ W, Calls Try.prog 30 #[.int .u64 (x : Int), .int .i64 B] W fun e w' => e = .returned (.bool false) ∧ W = w') (hz0 : ((z : Int) == 0) = false) (fs : ∀ W, Calls Try.prog 25 #[.int .u32 (S : Int)] W fun e w' => e = .returned (.bool true) ∧ W = w') (lo hi : Nat) (hf : Int) (ends : Bool) (hv : ∀ W, Calls Try.prog 27 #[.int .u32 (S : Int)] W fun e w' => e = .returned (.tuple #[.int .u64 (lo : Int), .int .u64 (hi : Int), .int .i64 hf, .bool ends]) ∧ W = w') (bt : ∀ W, Calls Try.prog 28 #[.int .u64 (x : Int), .int .i64 B, .int .u64 (lo : Int), .int .u64 (hi : Int), .int .i64 hf, .bool ends] W fun e w' => e = .returned (.bool true) ∧ W = w') (w : World) : Calls Try.prog 6 #[.int .u32 (a : Int), .int .u32 (b : Int)] w (Ret w (.bool true)) := by
  have F1 := Lib.hid f1
  have F2 := Lib.hid f2
  have R1 := Lib.hid r1
  have R2 := Lib.hid r2
  have HS := Lib.hid hS
  clear f1 f2 r1 r2 hS
  have S1 := Lib.hid s1
  have S2 := Lib.hid s2
  clear s1 s2
  have TG := Lib.hid tg
  clear tg
  have FSN := Lib.hid fs
  have HV := Lib.hid hv
  have BT := Lib.hid bt
  clear fs hv bt
  go_enter Try.func6, Try.ntmps6
  go_wp2_with fail
  refine (F1.out _).mono ?_
  rintro e w' ⟨rfl, rfl⟩
  go_wp2_with fail
  refine (F2.out _).mono ?_
  rintro e w' ⟨rfl, rfl⟩
  go_wp2_with fail
  refine (R1.out _).mono ?_
  rintro e w' ⟨rfl, rfl⟩
  go_wp2_with fail
  refine (R2.out _).mono ?_
  rintro e w' ⟨rfl, rfl⟩
  go_wp2_with fail
  refine (HS.out _).mono ?_
  rintro e w' ⟨rfl, n1, rfl⟩
  go_wp2_with fail
  refine (S1.out _).mono ?_
  rintro e w' ⟨rfl, rfl⟩
  go_wp2_with fail
  refine (S2.out _).mono ?_
  rintro e w' ⟨rfl, rfl⟩
  go_wp2_with fail
  refine (TG.out _).mono ?_
  rintro e w' ⟨rfl, rfl⟩
  go_wp2_with fail
  refine (FSN.out _).mono ?_
  rintro e w' ⟨rfl, rfl⟩
  go_wp2_with fail
  refine (HV.out _).mono ?_
  rintro e w' ⟨rfl, rfl⟩
  go_wp2_with fail
  refine (BT.out _).mono ?_
  rintro e w' ⟨rfl, rfl⟩
  go_wp2_with fail
  refine (awake_any _).mono ?_
  rintro e w' ⟨rfl, n9, rfl⟩
  go_wp2
  go_ret
  exact ⟨rfl, by repeat (first | exact Below.refl _ _ | refine bs_drew ?_ | refine bs_drewN ?_ _)⟩

set_option maxRecDepth 100000 in
set_option maxHeartbeats 2000000 in
theorem ns_mgreatB (a b S ma mb : Nat) (A B : Int) (f1 : ∀ W, Calls Try.prog 25 #[.int .u32 (a : Int)] W fun e w' => e = .returned (.bool true) ∧ W = w') (f2 : ∀ W, Calls Try.prog 25 #[.int .u32 (b : Int)] W fun e w' => e = .returned (.bool true) ∧ W = w') (r1 : ∀ W, Calls Try.prog 26 #[.int .u32 (a : Int)] W fun e w' => e = .returned (.tuple #[.int .u64 (ma : Int), .int .i64 A]) ∧ W = w') (r2 : ∀ W, Calls Try.prog 26 #[.int .u32 (b : Int)] W fun e w' => e = .returned (.tuple #[.int .u64 (mb : Int), .int .i64 B]) ∧ W = w') (hS : ∀ W, Calls Try.prog 14 #[.int .u32 (a : Int), .int .u32 (b : Int)] W (Got W (.int .u32 (S : Int)))) (D : Int) (n : Nat) (g1 : IntKind.i64.wrap (A - B) = (n : Int)) (g3 : decide ((38 : Int) < (n : Int)) = false) (g3n : ¬ 38 < n) (g2 : IntKind.i64.wrap (B - A) = D) (g4 : decide (38 < D) = false) (gl : decide (B < A) = true) (X1 X2 : Int) (s1 : ∀ W, Calls Try.prog 29 #[.int .u32 (a : Int), .int .i64 (n : Int)] W fun e w' => e = .returned (.int .i64 X1) ∧ W = w') (s2 : ∀ W, Calls Try.prog 29 #[.int .u32 (b : Int), .int .i64 0] W fun e w' => e = .returned (.int .i64 X2) ∧ W = w') (x z : Nat) (hsum : IntKind.i64.wrap (X1 + X2) = -(x : Int)) (hx0 : (-(x : Int) == 0) = false) (hxn : ¬ x = 0) (hxp : 0 < x) (hng : decide (-(x : Int) < 0) = true) (hz : bits .and .u32 (S : Int) 2147483647 = (z : Int)) (hzs : ((S : Int) != (z : Int)) = true) (hwx : IntKind.i64.wrap (x : Int) = (x : Int)) (hwu : IntKind.u64.wrap (x : Int) = (x : Int)) (tg : ∀ W, Calls Try.prog 30 #[.int .u64 (x : Int), .int .i64 B] W fun e w' => e = .returned (.bool true) ∧ W = w') (hzi : ((z : Int) == 2139095040) = true) (w : World) : Calls Try.prog 6 #[.int .u32 (a : Int), .int .u32 (b : Int)] w (Ret w (.bool true)) := by
  have F1 := Lib.hid f1
  have F2 := Lib.hid f2
  have R1 := Lib.hid r1
  have R2 := Lib.hid r2
  have HS := Lib.hid hS
  clear f1 f2 r1 r2 hS
  have S1 := Lib.hid s1
  have S2 := Lib.hid s2
  clear s1 s2
  have TG := Lib.hid tg
  clear tg
  go_enter Try.func6, Try.ntmps6
  go_wp2_with fail
  refine (F1.out _).mono ?_
  rintro e w' ⟨rfl, rfl⟩
  go_wp2_with fail
  refine (F2.out _).mono ?_
  rintro e w' ⟨rfl, rfl⟩
  go_wp2_with fail
  refine (R1.out _).mono ?_
  rintro e w' ⟨rfl, rfl⟩
  go_wp2_with fail
  refine (R2.out _).mono ?_
  rintro e w' ⟨rfl, rfl⟩
  go_wp2_with fail
  refine (HS.out _).mono ?_
  rintro e w' ⟨rfl, n1, rfl⟩
  go_wp2_with fail
  refine (S1.out _).mono ?_
  rintro e w' ⟨rfl, rfl⟩
  go_wp2_with fail
  refine (S2.out _).mono ?_
  rintro e w' ⟨rfl, rfl⟩
  go_wp2_with fail
  refine (TG.out _).mono ?_
  rintro e w' ⟨rfl, rfl⟩
  go_wp2_with fail
  refine (awake_any _).mono ?_
  rintro e w' ⟨rfl, n9, rfl⟩
  go_wp2
  go_ret
  exact ⟨rfl, by repeat (first | exact Below.refl _ _ | refine bs_drew ?_ | refine bs_drewN ?_ _)⟩

set_option maxRecDepth 100000 in
set_option maxHeartbeats 2000000 in
theorem ns_mfineB (a b S ma mb : Nat) (A B : Int) (f1 : ∀ W, Calls Try.prog 25 #[.int .u32 (a : Int)] W fun e w' => e = .returned (.bool true) ∧ W = w') (f2 : ∀ W, Calls Try.prog 25 #[.int .u32 (b : Int)] W fun e w' => e = .returned (.bool true) ∧ W = w') (r1 : ∀ W, Calls Try.prog 26 #[.int .u32 (a : Int)] W fun e w' => e = .returned (.tuple #[.int .u64 (ma : Int), .int .i64 A]) ∧ W = w') (r2 : ∀ W, Calls Try.prog 26 #[.int .u32 (b : Int)] W fun e w' => e = .returned (.tuple #[.int .u64 (mb : Int), .int .i64 B]) ∧ W = w') (hS : ∀ W, Calls Try.prog 14 #[.int .u32 (a : Int), .int .u32 (b : Int)] W (Got W (.int .u32 (S : Int)))) (D : Int) (n : Nat) (g1 : IntKind.i64.wrap (A - B) = (n : Int)) (g3 : decide ((38 : Int) < (n : Int)) = false) (g3n : ¬ 38 < n) (g2 : IntKind.i64.wrap (B - A) = D) (g4 : decide (38 < D) = false) (gl : decide (B < A) = true) (X1 X2 : Int) (s1 : ∀ W, Calls Try.prog 29 #[.int .u32 (a : Int), .int .i64 (n : Int)] W fun e w' => e = .returned (.int .i64 X1) ∧ W = w') (s2 : ∀ W, Calls Try.prog 29 #[.int .u32 (b : Int), .int .i64 0] W fun e w' => e = .returned (.int .i64 X2) ∧ W = w') (x z : Nat) (hsum : IntKind.i64.wrap (X1 + X2) = -(x : Int)) (hx0 : (-(x : Int) == 0) = false) (hxn : ¬ x = 0) (hxp : 0 < x) (hng : decide (-(x : Int) < 0) = true) (hz : bits .and .u32 (S : Int) 2147483647 = (z : Int)) (hzs : ((S : Int) != (z : Int)) = true) (hwx : IntKind.i64.wrap (x : Int) = (x : Int)) (hwu : IntKind.u64.wrap (x : Int) = (x : Int)) (tg : ∀ W, Calls Try.prog 30 #[.int .u64 (x : Int), .int .i64 B] W fun e w' => e = .returned (.bool false) ∧ W = w') (hz0 : ((z : Int) == 0) = false) (fs : ∀ W, Calls Try.prog 25 #[.int .u32 (S : Int)] W fun e w' => e = .returned (.bool true) ∧ W = w') (lo hi : Nat) (hf : Int) (ends : Bool) (hv : ∀ W, Calls Try.prog 27 #[.int .u32 (S : Int)] W fun e w' => e = .returned (.tuple #[.int .u64 (lo : Int), .int .u64 (hi : Int), .int .i64 hf, .bool ends]) ∧ W = w') (bt : ∀ W, Calls Try.prog 28 #[.int .u64 (x : Int), .int .i64 B, .int .u64 (lo : Int), .int .u64 (hi : Int), .int .i64 hf, .bool ends] W fun e w' => e = .returned (.bool true) ∧ W = w') (w : World) : Calls Try.prog 6 #[.int .u32 (a : Int), .int .u32 (b : Int)] w (Ret w (.bool true)) := by
  have F1 := Lib.hid f1
  have F2 := Lib.hid f2
  have R1 := Lib.hid r1
  have R2 := Lib.hid r2
  have HS := Lib.hid hS
  clear f1 f2 r1 r2 hS
  have S1 := Lib.hid s1
  have S2 := Lib.hid s2
  clear s1 s2
  have TG := Lib.hid tg
  clear tg
  have FSN := Lib.hid fs
  have HV := Lib.hid hv
  have BT := Lib.hid bt
  clear fs hv bt
  go_enter Try.func6, Try.ntmps6
  go_wp2_with fail
  refine (F1.out _).mono ?_
  rintro e w' ⟨rfl, rfl⟩
  go_wp2_with fail
  refine (F2.out _).mono ?_
  rintro e w' ⟨rfl, rfl⟩
  go_wp2_with fail
  refine (R1.out _).mono ?_
  rintro e w' ⟨rfl, rfl⟩
  go_wp2_with fail
  refine (R2.out _).mono ?_
  rintro e w' ⟨rfl, rfl⟩
  go_wp2_with fail
  refine (HS.out _).mono ?_
  rintro e w' ⟨rfl, n1, rfl⟩
  go_wp2_with fail
  refine (S1.out _).mono ?_
  rintro e w' ⟨rfl, rfl⟩
  go_wp2_with fail
  refine (S2.out _).mono ?_
  rintro e w' ⟨rfl, rfl⟩
  go_wp2_with fail
  refine (TG.out _).mono ?_
  rintro e w' ⟨rfl, rfl⟩
  go_wp2_with fail
  refine (FSN.out _).mono ?_
  rintro e w' ⟨rfl, rfl⟩
  go_wp2_with fail
  refine (HV.out _).mono ?_
  rintro e w' ⟨rfl, rfl⟩
  go_wp2_with fail
  refine (BT.out _).mono ?_
  rintro e w' ⟨rfl, rfl⟩
  go_wp2_with fail
  refine (awake_any _).mono ?_
  rintro e w' ⟨rfl, n9, rfl⟩
  go_wp2
  go_ret
  exact ⟨rfl, by repeat (first | exact Below.refl _ _ | refine bs_drew ?_ | refine bs_drewN ?_ _)⟩
end Go.Proofs.Ytllchfdddfmjbaa
