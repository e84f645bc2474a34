/- SingleNearest, way by way (printed by a program of ours). -/
import Derived.Test.YtllchfdddfmjbaaNear6
import Derived.Test.YtllchfdddfmjbaaBel
import Derived.Test.YtllchfdddfmjbaaAwake
namespace Go.Proofs.Ytllchfdddfmjbaa
open Go.RowKit Ieee
set_option linter.unusedVariables false

set_option maxRecDepth 100000 in
set_option maxHeartbeats 2000000 in
theorem nr_kyx (a b p q r ma mb : Nat) (A B : Int) (f1 : ∀ W, Calls Try.prog 25 #[.int .u32 (a : Int)] W fun e w' => e = .returned (.bool true) ∧ W = w') (f2 : ∀ W, Calls Try.prog 25 #[.int .u32 (b : Int)] W fun e w' => e = .returned (.bool true) ∧ W = w') (r1 : ∀ W, Calls Try.prog 26 #[.int .u32 (a : Int)] W fun e w' => e = .returned (.tuple #[.int .u64 (ma : Int), .int .i64 A]) ∧ W = w') (r2 : ∀ W, Calls Try.prog 26 #[.int .u32 (b : Int)] W fun e w' => e = .returned (.tuple #[.int .u64 (mb : Int), .int .i64 B]) ∧ W = w') (hp : ∀ W, Calls Try.prog 16 #[.int .u32 (a : Int), .int .u32 (b : Int)] W (Got W (.int .u32 (p : Int)))) (hq : ∀ W, Calls Try.prog 22 #[.int .u32 (a : Int), .int .u32 (b : Int)] W (Got W (.int .u32 (q : Int)))) (hr : ∀ W, Calls Try.prog 23 #[.int .u32 (a : Int)] W (Got W (.int .u32 (r : Int)))) (fp : ∀ W, Calls Try.prog 25 #[.int .u32 (p : Int)] W fun e w' => e = .returned (.bool true) ∧ W = w') (zp : Nat) (hzp : bits .and .u32 (p : Int) 2147483647 = (zp : Int)) (hzp0 : ((zp : Int) != 0) = true) (hzpn : ¬ zp = 0) (pl ph : Nat) (pf : Int) (pe : Bool) (hpv : ∀ W, Calls Try.prog 27 #[.int .u32 (p : Int)] W fun e w' => e = .returned (.tuple #[.int .u64 (pl : Int), .int .u64 (ph : Int), .int .i64 pf, .bool pe]) ∧ W = w') (xy : Nat) (xp : Int) (wxy : IntKind.u64.wrap ((ma : Int) * (mb : Int)) = (xy : Int)) (wxp : IntKind.i64.wrap (A + B) = xp) (hpb : ∀ W, Calls Try.prog 28 #[.int .u64 (xy : Int), .int .i64 xp, .int .u64 (pl : Int), .int .u64 (ph : Int), .int .i64 pf, .bool pe] W fun e w' => e = .returned (.bool true) ∧ W = w') (t : Bool) (ww vv : Nat) (hpt : ((p : Int) != (zp : Int)) = t) (hxr : bits .xor .u32 (a : Int) (b : Int) = (ww : Int)) (hnr : bits .andNot .u32 (ww : Int) 2147483647 = (vv : Int)) (hvt : ((vv : Int) != 0) = t) (hy0 : ((mb : Int) != 0) = false) (hx0 : ((ma : Int) != 0) = false) (w : World) : Calls Try.prog 5 #[.int .u32 (a : Int), .int .u32 (b : Int)] w (Ret w (.bool true)) := by
  have F1' := Lib.hid f1
  have F2' := Lib.hid f2
  have R1' := Lib.hid r1
  have R2' := Lib.hid r2
  have HP' := Lib.hid hp
  have HQ' := Lib.hid hq
  have HR' := Lib.hid hr
  have FP' := Lib.hid fp
  have HPV' := Lib.hid hpv
  have HPB' := Lib.hid hpb
  clear f1 f2 r1 r2 hp hq hr fp hpv hpb
  go_enter Try.func5, Try.ntmps5
  go_wp2_with fail
  refine (F1'.out _).mono ?_
  rintro e w' ⟨rfl, rfl⟩
  go_wp2_with fail
  refine (F2'.out _).mono ?_
  rintro e w' ⟨rfl, rfl⟩
  go_wp2_with fail
  refine (R1'.out _).mono ?_
  rintro e w' ⟨rfl, rfl⟩
  go_wp2_with fail
  refine (R2'.out _).mono ?_
  rintro e w' ⟨rfl, rfl⟩
  go_wp2_with fail
  refine (HP'.out _).mono ?_
  rintro e w' ⟨rfl, n1, rfl⟩
  go_wp2_with fail
  refine (FP'.out _).mono ?_
  rintro e w' ⟨rfl, rfl⟩
  go_wp2_with fail
  refine (HPV'.out _).mono ?_
  rintro e w' ⟨rfl, rfl⟩
  go_wp2_with fail
  refine (HPB'.out _).mono ?_
  rintro e w' ⟨rfl, rfl⟩
  go_wp2_with fail
  refine (HQ'.out _).mono ?_
  rintro e w' ⟨rfl, n2, rfl⟩
  go_wp2_with fail
  refine (HR'.out _).mono ?_
  rintro e w' ⟨rfl, n3, rfl⟩
  go_wp2_with fail
  refine (awake_any _).mono ?_
  rintro e w' ⟨rfl, n9, rfl⟩
  go_wp2
  go_ret
  exact ⟨rfl, by repeat (first | exact Below.refl _ _ | refine bs_drew ?_ | refine bs_drewN ?_ _)⟩

set_option maxRecDepth 100000 in
set_option maxHeartbeats 2000000 in
theorem nr_kym (a b p q r ma mb : Nat) (A B : Int) (f1 : ∀ W, Calls Try.prog 25 #[.int .u32 (a : Int)] W fun e w' => e = .returned (.bool true) ∧ W = w') (f2 : ∀ W, Calls Try.prog 25 #[.int .u32 (b : Int)] W fun e w' => e = .returned (.bool true) ∧ W = w') (r1 : ∀ W, Calls Try.prog 26 #[.int .u32 (a : Int)] W fun e w' => e = .returned (.tuple #[.int .u64 (ma : Int), .int .i64 A]) ∧ W = w') (r2 : ∀ W, Calls Try.prog 26 #[.int .u32 (b : Int)] W fun e w' => e = .returned (.tuple #[.int .u64 (mb : Int), .int .i64 B]) ∧ W = w') (hp : ∀ W, Calls Try.prog 16 #[.int .u32 (a : Int), .int .u32 (b : Int)] W (Got W (.int .u32 (p : Int)))) (hq : ∀ W, Calls Try.prog 22 #[.int .u32 (a : Int), .int .u32 (b : Int)] W (Got W (.int .u32 (q : Int)))) (hr : ∀ W, Calls Try.prog 23 #[.int .u32 (a : Int)] W (Got W (.int .u32 (r : Int)))) (fp : ∀ W, Calls Try.prog 25 #[.int .u32 (p : Int)] W fun e w' => e = .returned (.bool true) ∧ W = w') (zp : Nat) (hzp : bits .and .u32 (p : Int) 2147483647 = (zp : Int)) (hzp0 : ((zp : Int) != 0) = true) (hzpn : ¬ zp = 0) (pl ph : Nat) (pf : Int) (pe : Bool) (hpv : ∀ W, Calls Try.prog 27 #[.int .u32 (p : Int)] W fun e w' => e = .returned (.tuple #[.int .u64 (pl : Int), .int .u64 (ph : Int), .int .i64 pf, .bool pe]) ∧ W = w') (xy : Nat) (xp : Int) (wxy : IntKind.u64.wrap ((ma : Int) * (mb : Int)) = (xy : Int)) (wxp : IntKind.i64.wrap (A + B) = xp) (hpb : ∀ W, Calls Try.prog 28 #[.int .u64 (xy : Int), .int .i64 xp, .int .u64 (pl : Int), .int .u64 (ph : Int), .int .i64 pf, .bool pe] W fun e w' => e = .returned (.bool true) ∧ W = w') (t : Bool) (ww vv : Nat) (hpt : ((p : Int) != (zp : Int)) = t) (hxr : bits .xor .u32 (a : Int) (b : Int) = (ww : Int)) (hnr : bits .andNot .u32 (ww : Int) 2147483647 = (vv : Int)) (hvt : ((vv : Int) != 0) = t) (hy0 : ((mb : Int) != 0) = false) (hx0 : ((ma : Int) != 0) = true) (hxn : ¬ ma = 0) (za : Nat) (hza : bits .and .u32 (a : Int) 2147483647 = (za : Int)) (hae : ((a : Int) == (za : Int)) = false) (w : World) : Calls Try.prog 5 #[.int .u32 (a : Int), .int .u32 (b : Int)] w (Ret w (.bool true)) := by
  have F1' := Lib.hid f1
  have F2' := Lib.hid f2
  have R1' := Lib.hid r1
  have R2' := Lib.hid r2
  have HP' := Lib.hid hp
  have HQ' := Lib.hid hq
  have HR' := Lib.hid hr
  have FP' := Lib.hid fp
  have HPV' := Lib.hid hpv
  have HPB' := Lib.hid hpb
  clear f1 f2 r1 r2 hp hq hr fp hpv hpb
  go_enter Try.func5, Try.ntmps5
  go_wp2_with fail
  refine (F1'.out _).mono ?_
  rintro e w' ⟨rfl, rfl⟩
  go_wp2_with fail
  refine (F2'.out _).mono ?_
  rintro e w' ⟨rfl, rfl⟩
  go_wp2_with fail
  refine (R1'.out _).mono ?_
  rintro e w' ⟨rfl, rfl⟩
  go_wp2_with fail
  refine (R2'.out _).mono ?_
  rintro e w' ⟨rfl, rfl⟩
  go_wp2_with fail
  refine (HP'.out _).mono ?_
  rintro e w' ⟨rfl, n1, rfl⟩
  go_wp2_with fail
  refine (FP'.out _).mono ?_
  rintro e w' ⟨rfl, rfl⟩
  go_wp2_with fail
  refine (HPV'.out _).mono ?_
  rintro e w' ⟨rfl, rfl⟩
  go_wp2_with fail
  refine (HPB'.out _).mono ?_
  rintro e w' ⟨rfl, rfl⟩
  go_wp2_with fail
  refine (HQ'.out _).mono ?_
  rintro e w' ⟨rfl, n2, rfl⟩
  go_wp2_with fail
  refine (HR'.out _).mono ?_
  rintro e w' ⟨rfl, n3, rfl⟩
  go_wp2_with fail
  refine (awake_any _).mono ?_
  rintro e w' ⟨rfl, n9, rfl⟩
  go_wp2
  go_ret
  exact ⟨rfl, by repeat (first | exact Below.refl _ _ | refine bs_drew ?_ | refine bs_drewN ?_ _)⟩

set_option maxRecDepth 100000 in
set_option maxHeartbeats 2000000 in
theorem nr_kyk (a b p q r ma mb : Nat) (A B : Int) (f1 : ∀ W, Calls Try.prog 25 #[.int .u32 (a : Int)] W fun e w' => e = .returned (.bool true) ∧ W = w') (f2 : ∀ W, Calls Try.prog 25 #[.int .u32 (b : Int)] W fun e w' => e = .returned (.bool true) ∧ W = w') (r1 : ∀ W, Calls Try.prog 26 #[.int .u32 (a : Int)] W fun e w' => e = .returned (.tuple #[.int .u64 (ma : Int), .int .i64 A]) ∧ W = w') (r2 : ∀ W, Calls Try.prog 26 #[.int .u32 (b : Int)] W fun e w' => e = .returned (.tuple #[.int .u64 (mb : Int), .int .i64 B]) ∧ W = w') (hp : ∀ W, Calls Try.prog 16 #[.int .u32 (a : Int), .int .u32 (b : Int)] W (Got W (.int .u32 (p : Int)))) (hq : ∀ W, Calls Try.prog 22 #[.int .u32 (a : Int), .int .u32 (b : Int)] W (Got W (.int .u32 (q : Int)))) (hr : ∀ W, Calls Try.prog 23 #[.int .u32 (a : Int)] W (Got W (.int .u32 (r : Int)))) (fp : ∀ W, Calls Try.prog 25 #[.int .u32 (p : Int)] W fun e w' => e = .returned (.bool true) ∧ W = w') (zp : Nat) (hzp : bits .and .u32 (p : Int) 2147483647 = (zp : Int)) (hzp0 : ((zp : Int) != 0) = true) (hzpn : ¬ zp = 0) (pl ph : Nat) (pf : Int) (pe : Bool) (hpv : ∀ W, Calls Try.prog 27 #[.int .u32 (p : Int)] W fun e w' => e = .returned (.tuple #[.int .u64 (pl : Int), .int .u64 (ph : Int), .int .i64 pf, .bool pe]) ∧ W = w') (xy : Nat) (xp : Int) (wxy : IntKind.u64.wrap ((ma : Int) * (mb : Int)) = (xy : Int)) (wxp : IntKind.i64.wrap (A + B) = xp) (hpb : ∀ W, Calls Try.prog 28 #[.int .u64 (xy : Int), .int .i64 xp, .int .u64 (pl : Int), .int .u64 (ph : Int), .int .i64 pf, .bool pe] W fun e w' => e = .returned (.bool true) ∧ W = w') (t : Bool) (ww vv : Nat) (hpt : ((p : Int) != (zp : Int)) = t) (hxr : bits .xor .u32 (a : Int) (b : Int) = (ww : Int)) (hnr : bits .andNot .u32 (ww : Int) 2147483647 = (vv : Int)) (hvt : ((vv : Int) != 0) = t) (hy0 : ((mb : Int) != 0) = false) (hx0 : ((ma : Int) != 0) = true) (hxn : ¬ ma = 0) (za : Nat) (hza : bits .and .u32 (a : Int) 2147483647 = (za : Int)) (hae : ((a : Int) == (za : Int)) = true) (fr : ∀ W, Calls Try.prog 25 #[.int .u32 (r : Int)] W fun e w' => e = .returned (.bool true) ∧ W = w') (hr0 : ((r : Int) == 0) = false) (hrn : ¬ r = 0) (hzr : bits .and .u32 (r : Int) 2147483647 = (r : Int)) (rl rh : Nat) (rf : Int) (re : Bool) (hrv : ∀ W, Calls Try.prog 27 #[.int .u32 (r : Int)] W fun e w' => e = .returned (.tuple #[.int .u64 (rl : Int), .int .u64 (rh : Int), .int .i64 rf, .bool re]) ∧ W = w') (rL rH : Nat) (rg : Int) (wrl : IntKind.u64.wrap ((rl : Int) * (rl : Int)) = (rL : Int)) (wrh : IntKind.u64.wrap ((rh : Int) * (rh : Int)) = (rH : Int)) (wrg : IntKind.i64.wrap (2 * rf) = rg) (hrb : ∀ W, Calls Try.prog 28 #[.int .u64 (ma : Int), .int .i64 A, .int .u64 (rL : Int), .int .u64 (rH : Int), .int .i64 rg, .bool re] W fun e w' => e = .returned (.bool true) ∧ W = w') (w : World) : Calls Try.prog 5 #[.int .u32 (a : Int), .int .u32 (b : Int)] w (Ret w (.bool true)) := by
  have F1' := Lib.hid f1
  have F2' := Lib.hid f2
  have R1' := Lib.hid r1
  have R2' := Lib.hid r2
  have HP' := Lib.hid hp
  have HQ' := Lib.hid hq
  have HR' := Lib.hid hr
  have FP' := Lib.hid fp
  have HPV' := Lib.hid hpv
  have HPB' := Lib.hid hpb
  have FR' := Lib.hid fr
  have HRV' := Lib.hid hrv
  have HRB' := Lib.hid hrb
  clear f1 f2 r1 r2 hp hq hr fp hpv hpb fr hrv hrb
  go_enter Try.func5, Try.ntmps5
  go_wp2_with fail
  refine (F1'.out _).mono ?_
  rintro e w' ⟨rfl, rfl⟩
  go_wp2_with fail
  refine (F2'.out _).mono ?_
  rintro e w' ⟨rfl, rfl⟩
  go_wp2_with fail
  refine (R1'.out _).mono ?_
  rintro e w' ⟨rfl, rfl⟩
  go_wp2_with fail
  refine (R2'.out _).mono ?_
  rintro e w' ⟨rfl, rfl⟩
  go_wp2_with fail
  refine (HP'.out _).mono ?_
  rintro e w' ⟨rfl, n1, rfl⟩
  go_wp2_with fail
  refine (FP'.out _).mono ?_
  rintro e w' ⟨rfl, rfl⟩
  go_wp2_with fail
  refine (HPV'.out _).mono ?_
  rintro e w' ⟨rfl, rfl⟩
  go_wp2_with fail
  refine (HPB'.out _).mono ?_
  rintro e w' ⟨rfl, rfl⟩
  go_wp2_with fail
  refine (HQ'.out _).mono ?_
  rintro e w' ⟨rfl, n2, rfl⟩
  go_wp2_with fail
  refine (HR'.out _).mono ?_
  rintro e w' ⟨rfl, n3, rfl⟩
  go_wp2_with fail
  refine (FR'.out _).mono ?_
  rintro e w' ⟨rfl, rfl⟩
  go_wp2_with fail
  refine (HRV'.out _).mono ?_
  rintro e w' ⟨rfl, rfl⟩
  go_wp2_with fail
  refine (HRB'.out _).mono ?_
  rintro e w' ⟨rfl, rfl⟩
  go_wp2_with fail
  refine (awake_any _).mono ?_
  rintro e w' ⟨rfl, n9, rfl⟩
  go_wp2
  go_ret
  exact ⟨rfl, by repeat (first | exact Below.refl _ _ | refine bs_drew ?_ | refine bs_drewN ?_ _)⟩

set_option maxRecDepth 100000 in
set_option maxHeartbeats 2000000 in
theorem nr_kix (a b p q r ma mb : Nat) (A B : Int) (f1 : ∀ W, Calls Try.prog 25 #[.int .u32 (a : Int)] W fun e w' => e = .returned (.bool true) ∧ W = w') (f2 : ∀ W, Calls Try.prog 25 #[.int .u32 (b : Int)] W fun e w' => e = .returned (.bool true) ∧ W = w') (r1 : ∀ W, Calls Try.prog 26 #[.int .u32 (a : Int)] W fun e w' => e = .returned (.tuple #[.int .u64 (ma : Int), .int .i64 A]) ∧ W = w') (r2 : ∀ W, Calls Try.prog 26 #[.int .u32 (b : Int)] W fun e w' => e = .returned (.tuple #[.int .u64 (mb : Int), .int .i64 B]) ∧ W = w') (hp : ∀ W, Calls Try.prog 16 #[.int .u32 (a : Int), .int .u32 (b : Int)] W (Got W (.int .u32 (p : Int)))) (hq : ∀ W, Calls Try.prog 22 #[.int .u32 (a : Int), .int .u32 (b : Int)] W (Got W (.int .u32 (q : Int)))) (hr : ∀ W, Calls Try.prog 23 #[.int .u32 (a : Int)] W (Got W (.int .u32 (r : Int)))) (fp : ∀ W, Calls Try.prog 25 #[.int .u32 (p : Int)] W fun e w' => e = .returned (.bool true) ∧ W = w') (zp : Nat) (hzp : bits .and .u32 (p : Int) 2147483647 = (zp : Int)) (hzp0 : ((zp : Int) != 0) = true) (hzpn : ¬ zp = 0) (pl ph : Nat) (pf : Int) (pe : Bool) (hpv : ∀ W, Calls Try.prog 27 #[.int .u32 (p : Int)] W fun e w' => e = .returned (.tuple #[.int .u64 (pl : Int), .int .u64 (ph : Int), .int .i64 pf, .bool pe]) ∧ W = w') (xy : Nat) (xp : Int) (wxy : IntKind.u64.wrap ((ma : Int) * (mb : Int)) = (xy : Int)) (wxp : IntKind.i64.wrap (A + B) = xp) (hpb : ∀ W, Calls Try.prog 28 #[.int .u64 (xy : Int), .int .i64 xp, .int .u64 (pl : Int), .int .u64 (ph : Int), .int .i64 pf, .bool pe] W fun e w' => e = .returned (.bool true) ∧ W = w') (t : Bool) (ww vv : Nat) (hpt : ((p : Int) != (zp : Int)) = t) (hxr : bits .xor .u32 (a : Int) (b : Int) = (ww : Int)) (hnr : bits .andNot .u32 (ww : Int) 2147483647 = (vv : Int)) (hvt : ((vv : Int) != 0) = t) (hy0 : ((mb : Int) != 0) = true) (hyn : ¬ mb = 0) (fq : ∀ W, Calls Try.prog 25 #[.int .u32 (q : Int)] W fun e w' => e = .returned (.bool false) ∧ W = w') (hx0 : ((ma : Int) != 0) = false) (w : World) : Calls Try.prog 5 #[.int .u32 (a : Int), .int .u32 (b : Int)] w (Ret w (.bool true)) := by
  have F1' := Lib.hid f1
  have F2' := Lib.hid f2
  have R1' := Lib.hid r1
  have R2' := Lib.hid r2
  have HP' := Lib.hid hp
  have HQ' := Lib.hid hq
  have HR' := Lib.hid hr
  have FP' := Lib.hid fp
  have HPV' := Lib.hid hpv
  have HPB' := Lib.hid hpb
  have FQ' := Lib.hid fq
  clear f1 f2 r1 r2 hp hq hr fp hpv hpb fq
  go_enter Try.func5, Try.ntmps5
  go_wp2_with fail
  refine (F1'.out _).mono ?_
  rintro e w' ⟨rfl, rfl⟩
  go_wp2_with fail
  refine (F2'.out _).mono ?_
  rintro e w' ⟨rfl, rfl⟩
  go_wp2_with fail
  refine (R1'.out _).mono ?_
  rintro e w' ⟨rfl, rfl⟩
  go_wp2_with fail
  refine (R2'.out _).mono ?_
  rintro e w' ⟨rfl, rfl⟩
  go_wp2_with fail
  refine (HP'.out _).mono ?_
  rintro e w' ⟨rfl, n1, rfl⟩
  go_wp2_with fail
  refine (FP'.out _).mono ?_
  rintro e w' ⟨rfl, rfl⟩
  go_wp2_with fail
  refine (HPV'.out _).mono ?_
  rintro e w' ⟨rfl, rfl⟩
  go_wp2_with fail
  refine (HPB'.out _).mono ?_
  rintro e w' ⟨rfl, rfl⟩
  go_wp2_with fail
  refine (HQ'.out _).mono ?_
  rintro e w' ⟨rfl, n2, rfl⟩
  go_wp2_with fail
  refine (FQ'.out _).mono ?_
  rintro e w' ⟨rfl, rfl⟩
  go_wp2_with fail
  refine (HR'.out _).mono ?_
  rintro e w' ⟨rfl, n3, rfl⟩
  go_wp2_with fail
  refine (awake_any _).mono ?_
  rintro e w' ⟨rfl, n9, rfl⟩
  go_wp2
  go_ret
  exact ⟨rfl, by repeat (first | exact Below.refl _ _ | refine bs_drew ?_ | refine bs_drewN ?_ _)⟩

set_option maxRecDepth 100000 in
set_option maxHeartbeats 2000000 in
theorem nr_kim (a b p q r ma mb : Nat) (A B : Int) (f1 : ∀ W, Calls Try.prog 25 #[.int .u32 (a : Int)] W fun e w' => e = .returned (.bool true) ∧ W = w') (f2 : ∀ W, Calls Try.prog 25 #[.int .u32 (b : Int)] W fun e w' => e = .returned (.bool true) ∧ W = w') (r1 : ∀ W, Calls Try.prog 26 #[.int .u32 (a : Int)] W fun e w' => e = .returned (.tuple #[.int .u64 (ma : Int), .int .i64 A]) ∧ W = w') (r2 : ∀ W, Calls Try.prog 26 #[.int .u32 (b : Int)] W fun e w' => e = .returned (.tuple #[.int .u64 (mb : Int), .int .i64 B]) ∧ W = w') (hp : ∀ W, Calls Try.prog 16 #[.int .u32 (a : Int), .int .u32 (b : Int)] W (Got W (.int .u32 (p : Int)))) (hq : ∀ W, Calls Try.prog 22 #[.int .u32 (a : Int), .int .u32 (b : Int)] W (Got W (.int .u32 (q : Int)))) (hr : ∀ W, Calls Try.prog 23 #[.int .u32 (a : Int)] W (Got W (.int .u32 (r : Int)))) (fp : ∀ W, Calls Try.prog 25 #[.int .u32 (p : Int)] W fun e w' => e = .returned (.bool true) ∧ W = w') (zp : Nat) (hzp : bits .and .u32 (p : Int) 2147483647 = (zp : Int)) (hzp0 : ((zp : Int) != 0) = true) (hzpn : ¬ zp = 0) (pl ph : Nat) (pf : Int) (pe : Bool) (hpv : ∀ W, Calls Try.prog 27 #[.int .u32 (p : Int)] W fun e w' => e = .returned (.tuple #[.int .u64 (pl : Int), .int .u64 (ph : Int), .int .i64 pf, .bool pe]) ∧ W = w') (xy : Nat) (xp : Int) (wxy : IntKind.u64.wrap ((ma : Int) * (mb : Int)) = (xy : Int)) (wxp : IntKind.i64.wrap (A + B) = xp) (hpb : ∀ W, Calls Try.prog 28 #[.int .u64 (xy : Int), .int .i64 xp, .int .u64 (pl : Int), .int .u64 (ph : Int), .int .i64 pf, .bool pe] W fun e w' => e = .returned (.bool true) ∧ W = w') (t : Bool) (ww vv : Nat) (hpt : ((p : Int) != (zp : Int)) = t) (hxr : bits .xor .u32 (a : Int) (b : Int) = (ww : Int)) (hnr : bits .andNot .u32 (ww : Int) 2147483647 = (vv : Int)) (hvt : ((vv : Int) != 0) = t) (hy0 : ((mb : Int) != 0) = true) (hyn : ¬ mb = 0) (fq : ∀ W, Calls Try.prog 25 #[.int .u32 (q : Int)] W fun e w' => e = .returned (.bool false) ∧ W = w') (hx0 : ((ma : Int) != 0) = true) (hxn : ¬ ma = 0) (za : Nat) (hza : bits .and .u32 (a : Int) 2147483647 = (za : Int)) (hae : ((a : Int) == (za : Int)) = false) (w : World) : Calls Try.prog 5 #[.int .u32 (a : Int), .int .u32 (b : Int)] w (Ret w (.bool true)) := by
  have F1' := Lib.hid f1
  have F2' := Lib.hid f2
  have R1' := Lib.hid r1
  have R2' := Lib.hid r2
  have HP' := Lib.hid hp
  have HQ' := Lib.hid hq
  have HR' := Lib.hid hr
  have FP' := Lib.hid fp
  have HPV' := Lib.hid hpv
  have HPB' := Lib.hid hpb
  have FQ' := Lib.hid fq
  clear f1 f2 r1 r2 hp hq hr fp hpv hpb fq
  go_enter Try.func5, Try.ntmps5
  go_wp2_with fail
  refine (F1'.out _).mono ?_
  rintro e w' ⟨rfl, rfl⟩
  go_wp2_with fail
  refine (F2'.out _).mono ?_
  rintro e w' ⟨rfl, rfl⟩
  go_wp2_with fail
  refine (R1'.out _).mono ?_
  rintro e w' ⟨rfl, rfl⟩
  go_wp2_with fail
  refine (R2'.out _).mono ?_
  rintro e w' ⟨rfl, rfl⟩
  go_wp2_with fail
  refine (HP'.out _).mono ?_
  rintro e w' ⟨rfl, n1, rfl⟩
  go_wp2_with fail
  refine (FP'.out _).mono ?_
  rintro e w' ⟨rfl, rfl⟩
  go_wp2_with fail
  refine (HPV'.out _).mono ?_
  rintro e w' ⟨rfl, rfl⟩
  go_wp2_with fail
  refine (HPB'.out _).mono ?_
  rintro e w' ⟨rfl, rfl⟩
  go_wp2_with fail
  refine (HQ'.out _).mono ?_
  rintro e w' ⟨rfl, n2, rfl⟩
  go_wp2_with fail
  refine (FQ'.out _).mono ?_
  rintro e w' ⟨rfl, rfl⟩
  go_wp2_with fail
  refine (HR'.out _).mono ?_
  rintro e w' ⟨rfl, n3, rfl⟩
  go_wp2_with fail
  refine (awake_any _).mono ?_
  rintro e w' ⟨rfl, n9, rfl⟩
  go_wp2
  go_ret
  exact ⟨rfl, by repeat (first | exact Below.refl _ _ | refine bs_drew ?_ | refine bs_drewN ?_ _)⟩

set_option maxRecDepth 100000 in
set_option maxHeartbeats 2000000 in
theorem nr_kik (a b p q r ma mb : Nat) (A B : Int) (f1 : ∀ W, Calls Try.prog 25 #[.int .u32 (a : Int)] W fun e w' => e = .returned (.bool true) ∧ W = w') (f2 : ∀ W, Calls Try.prog 25 #[.int .u32 (b : Int)] W fun e w' => e = .returned (.bool true) ∧ W = w') (r1 : ∀ W, Calls Try.prog 26 #[.int .u32 (a : Int)] W fun e w' => e = .returned (.tuple #[.int .u64 (ma : Int), .int .i64 A]) ∧ W = w') (r2 : ∀ W, Calls Try.prog 26 #[.int .u32 (b : Int)] W fun e w' => e = .returned (.tuple #[.int .u64 (mb : Int), .int .i64 B]) ∧ W = w') (hp : ∀ W, Calls Try.prog 16 #[.int .u32 (a : Int), .int .u32 (b : Int)] W (Got W (.int .u32 (p : Int)))) (hq : ∀ W, Calls Try.prog 22 #[.int .u32 (a : Int), .int .u32 (b : Int)] W (Got W (.int .u32 (q : Int)))) (hr : ∀ W, Calls Try.prog 23 #[.int .u32 (a : Int)] W (Got W (.int .u32 (r : Int)))) (fp : ∀ W, Calls Try.prog 25 #[.int .u32 (p : Int)] W fun e w' => e = .returned (.bool true) ∧ W = w') (zp : Nat) (hzp : bits .and .u32 (p : Int) 2147483647 = (zp : Int)) (hzp0 : ((zp : Int) != 0) = true) (hzpn : ¬ zp = 0) (pl ph : Nat) (pf : Int) (pe : Bool) (hpv : ∀ W, Calls Try.prog 27 #[.int .u32 (p : Int)] W fun e w' => e = .returned (.tuple #[.int .u64 (pl : Int), .int .u64 (ph : Int), .int .i64 pf, .bool pe]) ∧ W = w') (xy : Nat) (xp : Int) (wxy : IntKind.u64.wrap ((ma : Int) * (mb : Int)) = (xy : Int)) (wxp : IntKind.i64.wrap (A + B) = xp) (hpb : ∀ W, Calls Try.prog 28 #[.int .u64 (xy : Int), .int .i64 xp, .int .u64 (pl : Int), .int .u64 (ph : Int), .int .i64 pf, .bool pe] W fun e w' => e = .returned (.bool true) ∧ W = w') (t : Bool) (ww vv : Nat) (hpt : ((p : Int) != (zp : Int)) = t) (hxr : bits .xor .u32 (a : Int) (b : Int) = (ww : Int)) (hnr : bits .andNot .u32 (ww : Int) 2147483647 = (vv : Int)) (hvt : ((vv : Int) != 0) = t) (hy0 : ((mb : Int) != 0) = true) (hyn : ¬ mb = 0) (fq : ∀ W, Calls Try.prog 25 #[.int .u32 (q : Int)] W fun e w' => e = .returned (.bool false) ∧ W = w') (hx0 : ((ma : Int) != 0) = true) (hxn : ¬ ma = 0) (za : Nat) (hza : bits .and .u32 (a : Int) 2147483647 = (za : Int)) (hae : ((a : Int) == (za : Int)) = true) (fr : ∀ W, Calls Try.prog 25 #[.int .u32 (r : Int)] W fun e w' => e = .returned (.bool true) ∧ W = w') (hr0 : ((r : Int) == 0) = false) (hrn : ¬ r = 0) (hzr : bits .and .u32 (r : Int) 2147483647 = (r : Int)) (rl rh : Nat) (rf : Int) (re : Bool) (hrv : ∀ W, Calls Try.prog 27 #[.int .u32 (r : Int)] W fun e w' => e = .returned (.tuple #[.int .u64 (rl : Int), .int .u64 (rh : Int), .int .i64 rf, .bool re]) ∧ W = w') (rL rH : Nat) (rg : Int) (wrl : IntKind.u64.wrap ((rl : Int) * (rl : Int)) = (rL : Int)) (wrh : IntKind.u64.wrap ((rh : Int) * (rh : Int)) = (rH : Int)) (wrg : IntKind.i64.wrap (2 * rf) = rg) (hrb : ∀ W, Calls Try.prog 28 #[.int .u64 (ma : Int), .int .i64 A, .int .u64 (rL : Int), .int .u64 (rH : Int), .int .i64 rg, .bool re] W fun e w' => e = .returned (.bool true) ∧ W = w') (w : World) : Calls Try.prog 5 #[.int .u32 (a : Int), .int .u32 (b : Int)] w (Ret w (.bool true)) := by
  have F1' := Lib.hid f1
  have F2' := Lib.hid f2
  have R1' := Lib.hid r1
  have R2' := Lib.hid r2
  have HP' := Lib.hid hp
  have HQ' := Lib.hid hq
  have HR' := Lib.hid hr
  have FP' := Lib.hid fp
  have HPV' := Lib.hid hpv
  have HPB' := Lib.hid hpb
  have FQ' := Lib.hid fq
  have FR' := Lib.hid fr
  have HRV' := Lib.hid hrv
  have HRB' := Lib.hid hrb
  clear f1 f2 r1 r2 hp hq hr fp hpv hpb fq fr hrv hrb
  go_enter Try.func5, Try.ntmps5
  go_wp2_with fail
  refine (F1'.out _).mono ?_
  rintro e w' ⟨rfl, rfl⟩
  go_wp2_with fail
  refine (F2'.out _).mono ?_
  rintro e w' ⟨rfl, rfl⟩
  go_wp2_with fail
  refine (R1'.out _).mono ?_
  rintro e w' ⟨rfl, rfl⟩
  go_wp2_with fail
  refine (R2'.out _).mono ?_
  rintro e w' ⟨rfl, rfl⟩
  go_wp2_with fail
  refine (HP'.out _).mono ?_
  rintro e w' ⟨rfl, n1, rfl⟩
  go_wp2_with fail
  refine (FP'.out _).mono ?_
  rintro e w' ⟨rfl, rfl⟩
  go_wp2_with fail
  refine (HPV'.out _).mono ?_
  rintro e w' ⟨rfl, rfl⟩
  go_wp2_with fail
  refine (HPB'.out _).mono ?_
  rintro e w' ⟨rfl, rfl⟩
  go_wp2_with fail
  refine (HQ'.out _).mono ?_
  rintro e w' ⟨rfl, n2, rfl⟩
  go_wp2_with fail
  refine (FQ'.out _).mono ?_
  rintro e w' ⟨rfl, rfl⟩
  go_wp2_with fail
  refine (HR'.out _).mono ?_
  rintro e w' ⟨rfl, n3, rfl⟩
  go_wp2_with fail
  refine (FR'.out _).mono ?_
  rintro e w' ⟨rfl, rfl⟩
  go_wp2_with fail
  refine (HRV'.out _).mono ?_
  rintro e w' ⟨rfl, rfl⟩
  go_wp2_with fail
  refine (HRB'.out _).mono ?_
  rintro e w' ⟨rfl, rfl⟩
  go_wp2_with fail
  refine (awake_any _).mono ?_
  rintro e w' ⟨rfl, n9, rfl⟩
  go_wp2
  go_ret
  exact ⟨rfl, by repeat (first | exact Below.refl _ _ | refine bs_drew ?_ | refine bs_drewN ?_ _)⟩

set_option maxRecDepth 100000 in
set_option maxHeartbeats 2000000 in
theorem nr_kzx (a b p q r ma mb : Nat) (A B : Int) (f1 : ∀ W, Calls Try.prog 25 #[.int .u32 (a : Int)] W fun e w' => e = .returned (.bool true) ∧ W = w') (f2 : ∀ W, Calls Try.prog 25 #[.int .u32 (b : Int)] W fun e w' => e = .returned (.bool true) ∧ W = w') (r1 : ∀ W, Calls Try.prog 26 #[.int .u32 (a : Int)] W fun e w' => e = .returned (.tuple #[.int .u64 (ma : Int), .int .i64 A]) ∧ W = w') (r2 : ∀ W, Calls Try.prog 26 #[.int .u32 (b : Int)] W fun e w' => e = .returned (.tuple #[.int .u64 (mb : Int), .int .i64 B]) ∧ W = w') (hp : ∀ W, Calls Try.prog 16 #[.int .u32 (a : Int), .int .u32 (b : Int)] W (Got W (.int .u32 (p : Int)))) (hq : ∀ W, Calls Try.prog 22 #[.int .u32 (a : Int), .int .u32 (b : Int)] W (Got W (.int .u32 (q : Int)))) (hr : ∀ W, Calls Try.prog 23 #[.int .u32 (a : Int)] W (Got W (.int .u32 (r : Int)))) (fp : ∀ W, Calls Try.prog 25 #[.int .u32 (p : Int)] W fun e w' => e = .returned (.bool true) ∧ W = w') (zp : Nat) (hzp : bits .and .u32 (p : Int) 2147483647 = (zp : Int)) (hzp0 : ((zp : Int) != 0) = true) (hzpn : ¬ zp = 0) (pl ph : Nat) (pf : Int) (pe : Bool) (hpv : ∀ W, Calls Try.prog 27 #[.int .u32 (p : Int)] W fun e w' => e = .returned (.tuple #[.int .u64 (pl : Int), .int .u64 (ph : Int), .int .i64 pf, .bool pe]) ∧ W = w') (xy : Nat) (xp : Int) (wxy : IntKind.u64.wrap ((ma : Int) * (mb : Int)) = (xy : Int)) (wxp : IntKind.i64.wrap (A + B) = xp) (hpb : ∀ W, Calls Try.prog 28 #[.int .u64 (xy : Int), .int .i64 xp, .int .u64 (pl : Int), .int .u64 (ph : Int), .int .i64 pf, .bool pe] W fun e w' => e = .returned (.bool true) ∧ W = w') (t : Bool) (ww vv : Nat) (hpt : ((p : Int) != (zp : Int)) = t) (hxr : bits .xor .u32 (a : Int) (b : Int) = (ww : Int)) (hnr : bits .andNot .u32 (ww : Int) 2147483647 = (vv : Int)) (hvt : ((vv : Int) != 0) = t) (hy0 : ((mb : Int) != 0) = true) (hyn : ¬ mb = 0) (fq : ∀ W, Calls Try.prog 25 #[.int .u32 (q : Int)] W fun e w' => e = .returned (.bool true) ∧ W = w') (hzq : bits .and .u32 (q : Int) 2147483647 = 0) (hx0 : ((ma : Int) != 0) = false) (w : World) : Calls Try.prog 5 #[.int .u32 (a : Int), .int .u32 (b : Int)] w (Ret w (.bool true)) := by
  have F1' := Lib.hid f1
  have F2' := Lib.hid f2
  have R1' := Lib.hid r1
  have R2' := Lib.hid r2
  have HP' := Lib.hid hp
  have HQ' := Lib.hid hq
  have HR' := Lib.hid hr
  have FP' := Lib.hid fp
  have HPV' := Lib.hid hpv
  have HPB' := Lib.hid hpb
  have FQ' := Lib.hid fq
  clear f1 f2 r1 r2 hp hq hr fp hpv hpb fq
  go_enter Try.func5, Try.ntmps5
  go_wp2_with fail
  refine (F1'.out _).mono ?_
  rintro e w' ⟨rfl, rfl⟩
  go_wp2_with fail
  refine (F2'.out _).mono ?_
  rintro e w' ⟨rfl, rfl⟩
  go_wp2_with fail
  refine (R1'.out _).mono ?_
  rintro e w' ⟨rfl, rfl⟩
  go_wp2_with fail
  refine (R2'.out _).mono ?_
  rintro e w' ⟨rfl, rfl⟩
  go_wp2_with fail
  refine (HP'.out _).mono ?_
  rintro e w' ⟨rfl, n1, rfl⟩
  go_wp2_with fail
  refine (FP'.out _).mono ?_
  rintro e w' ⟨rfl, rfl⟩
  go_wp2_with fail
  refine (HPV'.out _).mono ?_
  rintro e w' ⟨rfl, rfl⟩
  go_wp2_with fail
  refine (HPB'.out _).mono ?_
  rintro e w' ⟨rfl, rfl⟩
  go_wp2_with fail
  refine (HQ'.out _).mono ?_
  rintro e w' ⟨rfl, n2, rfl⟩
  go_wp2_with fail
  refine (FQ'.out _).mono ?_
  rintro e w' ⟨rfl, rfl⟩
  go_wp2_with fail
  refine (HR'.out _).mono ?_
  rintro e w' ⟨rfl, n3, rfl⟩
  go_wp2_with fail
  refine (awake_any _).mono ?_
  rintro e w' ⟨rfl, n9, rfl⟩
  go_wp2
  go_ret
  exact ⟨rfl, by repeat (first | exact Below.refl _ _ | refine bs_drew ?_ | refine bs_drewN ?_ _)⟩

set_option maxRecDepth 100000 in
set_option maxHeartbeats 2000000 in
theorem nr_kzm (a b p q r ma mb : Nat) (A B : Int) (f1 : ∀ W, Calls Try.prog 25 #[.int .u32 (a : Int)] W fun e w' => e = .returned (.bool true) ∧ W = w') (f2 : ∀ W, Calls Try.prog 25 #[.int .u32 (b : Int)] W fun e w' => e = .returned (.bool true) ∧ W = w') (r1 : ∀ W, Calls Try.prog 26 #[.int .u32 (a : Int)] W fun e w' => e = .returned (.tuple #[.int .u64 (ma : Int), .int .i64 A]) ∧ W = w') (r2 : ∀ W, Calls Try.prog 26 #[.int .u32 (b : Int)] W fun e w' => e = .returned (.tuple #[.int .u64 (mb : Int), .int .i64 B]) ∧ W = w') (hp : ∀ W, Calls Try.prog 16 #[.int .u32 (a : Int), .int .u32 (b : Int)] W (Got W (.int .u32 (p : Int)))) (hq : ∀ W, Calls Try.prog 22 #[.int .u32 (a : Int), .int .u32 (b : Int)] W (Got W (.int .u32 (q : Int)))) (hr : ∀ W, Calls Try.prog 23 #[.int .u32 (a : Int)] W (Got W (.int .u32 (r : Int)))) (fp : ∀ W, Calls Try.prog 25 #[.int .u32 (p : Int)] W fun e w' => e = .returned (.bool true) ∧ W = w') (zp : Nat) (hzp : bits .and .u32 (p : Int) 2147483647 = (zp : Int)) (hzp0 : ((zp : Int) != 0) = true) (hzpn : ¬ zp = 0) (pl ph : Nat) (pf : Int) (pe : Bool) (hpv : ∀ W, Calls Try.prog 27 #[.int .u32 (p : Int)] W fun e w' => e = .returned (.tuple #[.int .u64 (pl : Int), .int .u64 (ph : Int), .int .i64 pf, .bool pe]) ∧ W = w') (xy : Nat) (xp : Int) (wxy : IntKind.u64.wrap ((ma : Int) * (mb : Int)) = (xy : Int)) (wxp : IntKind.i64.wrap (A + B) = xp) (hpb : ∀ W, Calls Try.prog 28 #[.int .u64 (xy : Int), .int .i64 xp, .int .u64 (pl : Int), .int .u64 (ph : Int), .int .i64 pf, .bool pe] W fun e w' => e = .returned (.bool true) ∧ W = w') (t : Bool) (ww vv : Nat) (hpt : ((p : Int) != (zp : Int)) = t) (hxr : bits .xor .u32 (a : Int) (b : Int) = (ww : Int)) (hnr : bits .andNot .u32 (ww : Int) 2147483647 = (vv : Int)) (hvt : ((vv : Int) != 0) = t) (hy0 : ((mb : Int) != 0) = true) (hyn : ¬ mb = 0) (fq : ∀ W, Calls Try.prog 25 #[.int .u32 (q : Int)] W fun e w' => e = .returned (.bool true) ∧ W = w') (hzq : bits .and .u32 (q : Int) 2147483647 = 0) (hx0 : ((ma : Int) != 0) = true) (hxn : ¬ ma = 0) (za : Nat) (hza : bits .and .u32 (a : Int) 2147483647 = (za : Int)) (hae : ((a : Int) == (za : Int)) = false) (w : World) : Calls Try.prog 5 #[.int .u32 (a : Int), .int .u32 (b : Int)] w (Ret w (.bool true)) := by
  have F1' := Lib.hid f1
  have F2' := Lib.hid f2
  have R1' := Lib.hid r1
  have R2' := Lib.hid r2
  have HP' := Lib.hid hp
  have HQ' := Lib.hid hq
  have HR' := Lib.hid hr
  have FP' := Lib.hid fp
  have HPV' := Lib.hid hpv
  have HPB' := Lib.hid hpb
  have FQ' := Lib.hid fq
  clear f1 f2 r1 r2 hp hq hr fp hpv hpb fq
  go_enter Try.func5, Try.ntmps5
  go_wp2_with fail
  refine (F1'.out _).mono ?_
  rintro e w' ⟨rfl, rfl⟩
  go_wp2_with fail
  refine (F2'.out _).mono ?_
  rintro e w' ⟨rfl, rfl⟩
  go_wp2_with fail
  refine (R1'.out _).mono ?_
  rintro e w' ⟨rfl, rfl⟩
  go_wp2_with fail
  refine (R2'.out _).mono ?_
  rintro e w' ⟨rfl, rfl⟩
  go_wp2_with fail
  refine (HP'.out _).mono ?_
  rintro e w' ⟨rfl, n1, rfl⟩
  go_wp2_with fail
  refine (FP'.out _).mono ?_
  rintro e w' ⟨rfl, rfl⟩
  go_wp2_with fail
  refine (HPV'.out _).mono ?_
  rintro e w' ⟨rfl, rfl⟩
  go_wp2_with fail
  refine (HPB'.out _).mono ?_
  rintro e w' ⟨rfl, rfl⟩
  go_wp2_with fail
  refine (HQ'.out _).mono ?_
  rintro e w' ⟨rfl, n2, rfl⟩
  go_wp2_with fail
  refine (FQ'.out _).mono ?_
  rintro e w' ⟨rfl, rfl⟩
  go_wp2_with fail
  refine (HR'.out _).mono ?_
  rintro e w' ⟨rfl, n3, rfl⟩
  go_wp2_with fail
  refine (awake_any _).mono ?_
  rintro e w' ⟨rfl, n9, rfl⟩
  go_wp2
  go_ret
  exact ⟨rfl, by repeat (first | exact Below.refl _ _ | refine bs_drew ?_ | refine bs_drewN ?_ _)⟩

set_option maxRecDepth 100000 in
set_option maxHeartbeats 2000000 in
theorem nr_kzk (a b p q r ma mb : Nat) (A B : Int) (f1 : ∀ W, Calls Try.prog 25 #[.int .u32 (a : Int)] W fun e w' => e = .returned (.bool true) ∧ W = w') (f2 : ∀ W, Calls Try.prog 25 #[.int .u32 (b : Int)] W fun e w' => e = .returned (.bool true) ∧ W = w') (r1 : ∀ W, Calls Try.prog 26 #[.int .u32 (a : Int)] W fun e w' => e = .returned (.tuple #[.int .u64 (ma : Int), .int .i64 A]) ∧ W = w') (r2 : ∀ W, Calls Try.prog 26 #[.int .u32 (b : Int)] W fun e w' => e = .returned (.tuple #[.int .u64 (mb : Int), .int .i64 B]) ∧ W = w') (hp : ∀ W, Calls Try.prog 16 #[.int .u32 (a : Int), .int .u32 (b : Int)] W (Got W (.int .u32 (p : Int)))) (hq : ∀ W, Calls Try.prog 22 #[.int .u32 (a : Int), .int .u32 (b : Int)] W (Got W (.int .u32 (q : Int)))) (hr : ∀ W, Calls Try.prog 23 #[.int .u32 (a : Int)] W (Got W (.int .u32 (r : Int)))) (fp : ∀ W, Calls Try.prog 25 #[.int .u32 (p : Int)] W fun e w' => e = .returned (.bool true) ∧ W = w') (zp : Nat) (hzp : bits .and .u32 (p : Int) 2147483647 = (zp : Int)) (hzp0 : ((zp : Int) != 0) = true) (hzpn : ¬ zp = 0) (pl ph : Nat) (pf : Int) (pe : Bool) (hpv : ∀ W, Calls Try.prog 27 #[.int .u32 (p : Int)] W fun e w' => e = .returned (.tuple #[.int .u64 (pl : Int), .int .u64 (ph : Int), .int .i64 pf, .bool pe]) ∧ W = w') (xy : Nat) (xp : Int) (wxy : IntKind.u64.wrap ((ma : Int) * (mb : Int)) = (xy : Int)) (wxp : IntKind.i64.wrap (A + B) = xp) (hpb : ∀ W, Calls Try.prog 28 #[.int .u64 (xy : Int), .int .i64 xp, .int .u64 (pl : Int), .int .u64 (ph : Int), .int .i64 pf, .bool pe] W fun e w' => e = .returned (.bool true) ∧ W = w') (t : Bool) (ww vv : Nat) (hpt : ((p : Int) != (zp : Int)) = t) (hxr : bits .xor .u32 (a : Int) (b : Int) = (ww : Int)) (hnr : bits .andNot .u32 (ww : Int) 2147483647 = (vv : Int)) (hvt : ((vv : Int) != 0) = t) (hy0 : ((mb : Int) != 0) = true) (hyn : ¬ mb = 0) (fq : ∀ W, Calls Try.prog 25 #[.int .u32 (q : Int)] W fun e w' => e = .returned (.bool true) ∧ W = w') (hzq : bits .and .u32 (q : Int) 2147483647 = 0) (hx0 : ((ma : Int) != 0) = true) (hxn : ¬ ma = 0) (za : Nat) (hza : bits .and .u32 (a : Int) 2147483647 = (za : Int)) (hae : ((a : Int) == (za : Int)) = true) (fr : ∀ W, Calls Try.prog 25 #[.int .u32 (r : Int)] W fun e w' => e = .returned (.bool true) ∧ W = w') (hr0 : ((r : Int) == 0) = false) (hrn : ¬ r = 0) (hzr : bits .and .u32 (r : Int) 2147483647 = (r : Int)) (rl rh : Nat) (rf : Int) (re : Bool) (hrv : ∀ W, Calls Try.prog 27 #[.int .u32 (r : Int)] W fun e w' => e = .returned (.tuple #[.int .u64 (rl : Int), .int .u64 (rh : Int), .int .i64 rf, .bool re]) ∧ W = w') (rL rH : Nat) (rg : Int) (wrl : IntKind.u64.wrap ((rl : Int) * (rl : Int)) = (rL : Int)) (wrh : IntKind.u64.wrap ((rh : Int) * (rh : Int)) = (rH : Int)) (wrg : IntKind.i64.wrap (2 * rf) = rg) (hrb : ∀ W, Calls Try.prog 28 #[.int .u64 (ma : Int), .int .i64 A, .int .u64 (rL : Int), .int .u64 (rH : Int), .int .i64 rg, .bool re] W fun e w' => e = .returned (.bool true) ∧ W = w') (w : World) : Calls Try.prog 5 #[.int .u32 (a : Int), .int .u32 (b : Int)] w (Ret w (.bool true)) := by
  have F1' := Lib.hid f1
  have F2' := Lib.hid f2
  have R1' := Lib.hid r1
  have R2' := Lib.hid r2
  have HP' := Lib.hid hp
  have HQ' := Lib.hid hq
  have HR' := Lib.hid hr
  have FP' := Lib.hid fp
  have HPV' := Lib.hid hpv
  have HPB' := Lib.hid hpb
  have FQ' := Lib.hid fq
  have FR' := Lib.hid fr
  have HRV' := Lib.hid hrv
  have HRB' := Lib.hid hrb
  clear f1 f2 r1 r2 hp hq hr fp hpv hpb fq fr hrv hrb
  go_enter Try.func5, Try.ntmps5
  go_wp2_with fail
  refine (F1'.out _).mono ?_
  rintro e w' ⟨rfl, rfl⟩
  go_wp2_with fail
  refine (F2'.out _).mono ?_
  rintro e w' ⟨rfl, rfl⟩
  go_wp2_with fail
  refine (R1'.out _).mono ?_
  rintro e w' ⟨rfl, rfl⟩
  go_wp2_with fail
  refine (R2'.out _).mono ?_
  rintro e w' ⟨rfl, rfl⟩
  go_wp2_with fail
  refine (HP'.out _).mono ?_
  rintro e w' ⟨rfl, n1, rfl⟩
  go_wp2_with fail
  refine (FP'.out _).mono ?_
  rintro e w' ⟨rfl, rfl⟩
  go_wp2_with fail
  refine (HPV'.out _).mono ?_
  rintro e w' ⟨rfl, rfl⟩
  go_wp2_with fail
  refine (HPB'.out _).mono ?_
  rintro e w' ⟨rfl, rfl⟩
  go_wp2_with fail
  refine (HQ'.out _).mono ?_
  rintro e w' ⟨rfl, n2, rfl⟩
  go_wp2_with fail
  refine (FQ'.out _).mono ?_
  rintro e w' ⟨rfl, rfl⟩
  go_wp2_with fail
  refine (HR'.out _).mono ?_
  rintro e w' ⟨rfl, n3, rfl⟩
  go_wp2_with fail
  refine (FR'.out _).mono ?_
  rintro e w' ⟨rfl, rfl⟩
  go_wp2_with fail
  refine (HRV'.out _).mono ?_
  rintro e w' ⟨rfl, rfl⟩
  go_wp2_with fail
  refine (HRB'.out _).mono ?_
  rintro e w' ⟨rfl, rfl⟩
  go_wp2_with fail
  refine (awake_any _).mono ?_
  rintro e w' ⟨rfl, n9, rfl⟩
  go_wp2
  go_ret
  exact ⟨rfl, by repeat (first | exact Below.refl _ _ | refine bs_drew ?_ | refine bs_drewN ?_ _)⟩

set_option maxRecDepth 100000 in
set_option maxHeartbeats 2000000 in
theorem nr_kkx (a b p q r ma mb : Nat) (A B : Int) (f1 : ∀ W, Calls Try.prog 25 #[.int .u32 (a : Int)] W fun e w' => e = .returned (.bool true) ∧ W = w') (f2 : ∀ W, Calls Try.prog 25 #[.int .u32 (b : Int)] W fun e w' => e = .returned (.bool true) ∧ W = w') (r1 : ∀ W, Calls Try.prog 26 #[.int .u32 (a : Int)] W fun e w' => e = .returned (.tuple #[.int .u64 (ma : Int), .int .i64 A]) ∧ W = w') (r2 : ∀ W, Calls Try.prog 26 #[.int .u32 (b : Int)] W fun e w' => e = .returned (.tuple #[.int .u64 (mb : Int), .int .i64 B]) ∧ W = w') (hp : ∀ W, Calls Try.prog 16 #[.int .u32 (a : Int), .int .u32 (b : Int)] W (Got W (.int .u32 (p : Int)))) (hq : ∀ W, Calls Try.prog 22 #[.int .u32 (a : Int), .int .u32 (b : Int)] W (Got W (.int .u32 (q : Int)))) (hr : ∀ W, Calls Try.prog 23 #[.int .u32 (a : Int)] W (Got W (.int .u32 (r : Int)))) (fp : ∀ W, Calls Try.prog 25 #[.int .u32 (p : Int)] W fun e w' => e = .returned (.bool true) ∧ W = w') (zp : Nat) (hzp : bits .and .u32 (p : Int) 2147483647 = (zp : Int)) (hzp0 : ((zp : Int) != 0) = true) (hzpn : ¬ zp = 0) (pl ph : Nat) (pf : Int) (pe : Bool) (hpv : ∀ W, Calls Try.prog 27 #[.int .u32 (p : Int)] W fun e w' => e = .returned (.tuple #[.int .u64 (pl : Int), .int .u64 (ph : Int), .int .i64 pf, .bool pe]) ∧ W = w') (xy : Nat) (xp : Int) (wxy : IntKind.u64.wrap ((ma : Int) * (mb : Int)) = (xy : Int)) (wxp : IntKind.i64.wrap (A + B) = xp) (hpb : ∀ W, Calls Try.prog 28 #[.int .u64 (xy : Int), .int .i64 xp, .int .u64 (pl : Int), .int .u64 (ph : Int), .int .i64 pf, .bool pe] W fun e w' => e = .returned (.bool true) ∧ W = w') (t : Bool) (ww vv : Nat) (hpt : ((p : Int) != (zp : Int)) = t) (hxr : bits .xor .u32 (a : Int) (b : Int) = (ww : Int)) (hnr : bits .andNot .u32 (ww : Int) 2147483647 = (vv : Int)) (hvt : ((vv : Int) != 0) = t) (hy0 : ((mb : Int) != 0) = true) (hyn : ¬ mb = 0) (fq : ∀ W, Calls Try.prog 25 #[.int .u32 (q : Int)] W fun e w' => e = .returned (.bool true) ∧ W = w') (zq : Nat) (hzq : bits .and .u32 (q : Int) 2147483647 = (zq : Int)) (hzq0 : ((zq : Int) != 0) = true) (hzqn : ¬ zq = 0) (ql qh : Nat) (qf : Int) (qe : Bool) (hqv : ∀ W, Calls Try.prog 27 #[.int .u32 (q : Int)] W fun e w' => e = .returned (.tuple #[.int .u64 (ql : Int), .int .u64 (qh : Int), .int .i64 qf, .bool qe]) ∧ W = w') (qL qH : Nat) (xd : Int) (wql : IntKind.u64.wrap ((ql : Int) * (mb : Int)) = (qL : Int)) (wqh : IntKind.u64.wrap ((qh : Int) * (mb : Int)) = (qH : Int)) (wxd : IntKind.i64.wrap (A - B) = xd) (hqb : ∀ W, Calls Try.prog 28 #[.int .u64 (ma : Int), .int .i64 xd, .int .u64 (qL : Int), .int .u64 (qH : Int), .int .i64 qf, .bool qe] W fun e w' => e = .returned (.bool true) ∧ W = w') (hqt : ((q : Int) != (zq : Int)) = t) (hx0 : ((ma : Int) != 0) = false) (w : World) : Calls Try.prog 5 #[.int .u32 (a : Int), .int .u32 (b : Int)] w (Ret w (.bool true)) := by
  have F1' := Lib.hid f1
  have F2' := Lib.hid f2
  have R1' := Lib.hid r1
  have R2' := Lib.hid r2
  have HP' := Lib.hid hp
  have HQ' := Lib.hid hq
  have HR' := Lib.hid hr
  have FP' := Lib.hid fp
  have HPV' := Lib.hid hpv
  have HPB' := Lib.hid hpb
  have FQ' := Lib.hid fq
  have HQV' := Lib.hid hqv
  have HQB' := Lib.hid hqb
  clear f1 f2 r1 r2 hp hq hr fp hpv hpb fq hqv hqb
  go_enter Try.func5, Try.ntmps5
  go_wp2_with fail
  refine (F1'.out _).mono ?_
  rintro e w' ⟨rfl, rfl⟩
  go_wp2_with fail
  refine (F2'.out _).mono ?_
  rintro e w' ⟨rfl, rfl⟩
  go_wp2_with fail
  refine (R1'.out _).mono ?_
  rintro e w' ⟨rfl, rfl⟩
  go_wp2_with fail
  refine (R2'.out _).mono ?_
  rintro e w' ⟨rfl, rfl⟩
  go_wp2_with fail
  refine (HP'.out _).mono ?_
  rintro e w' ⟨rfl, n1, rfl⟩
  go_wp2_with fail
  refine (FP'.out _).mono ?_
  rintro e w' ⟨rfl, rfl⟩
  go_wp2_with fail
  refine (HPV'.out _).mono ?_
  rintro e w' ⟨rfl, rfl⟩
  go_wp2_with fail
  refine (HPB'.out _).mono ?_
  rintro e w' ⟨rfl, rfl⟩
  go_wp2_with fail
  refine (HQ'.out _).mono ?_
  rintro e w' ⟨rfl, n2, rfl⟩
  go_wp2_with fail
  refine (FQ'.out _).mono ?_
  rintro e w' ⟨rfl, rfl⟩
  go_wp2_with fail
  refine (HQV'.out _).mono ?_
  rintro e w' ⟨rfl, rfl⟩
  go_wp2_with fail
  refine (HQB'.out _).mono ?_
  rintro e w' ⟨rfl, rfl⟩
  go_wp2_with fail
  refine (HR'.out _).mono ?_
  rintro e w' ⟨rfl, n3, rfl⟩
  go_wp2_with fail
  refine (awake_any _).mono ?_
  rintro e w' ⟨rfl, n9, rfl⟩
  go_wp2
  go_ret
  exact ⟨rfl, by repeat (first | exact Below.refl _ _ | refine bs_drew ?_ | refine bs_drewN ?_ _)⟩

set_option maxRecDepth 100000 in
set_option maxHeartbeats 2000000 in
theorem nr_kkm (a b p q r ma mb : Nat) (A B : Int) (f1 : ∀ W, Calls Try.prog 25 #[.int .u32 (a : Int)] W fun e w' => e = .returned (.bool true) ∧ W = w') (f2 : ∀ W, Calls Try.prog 25 #[.int .u32 (b : Int)] W fun e w' => e = .returned (.bool true) ∧ W = w') (r1 : ∀ W, Calls Try.prog 26 #[.int .u32 (a : Int)] W fun e w' => e = .returned (.tuple #[.int .u64 (ma : Int), .int .i64 A]) ∧ W = w') (r2 : ∀ W, Calls Try.prog 26 #[.int .u32 (b : Int)] W fun e w' => e = .returned (.tuple #[.int .u64 (mb : Int), .int .i64 B]) ∧ W = w') (hp : ∀ W, Calls Try.prog 16 #[.int .u32 (a : Int), .int .u32 (b : Int)] W (Got W (.int .u32 (p : Int)))) (hq : ∀ W, Calls Try.prog 22 #[.int .u32 (a : Int), .int .u32 (b : Int)] W (Got W (.int .u32 (q : Int)))) (hr : ∀ W, Calls Try.prog 23 #[.int .u32 (a : Int)] W (Got W (.int .u32 (r : Int)))) (fp : ∀ W, Calls Try.prog 25 #[.int .u32 (p : Int)] W fun e w' => e = .returned (.bool true) ∧ W = w') (zp : Nat) (hzp : bits .and .u32 (p : Int) 2147483647 = (zp : Int)) (hzp0 : ((zp : Int) != 0) = true) (hzpn : ¬ zp = 0) (pl ph : Nat) (pf : Int) (pe : Bool) (hpv : ∀ W, Calls Try.prog 27 #[.int .u32 (p : Int)] W fun e w' => e = .returned (.tuple #[.int .u64 (pl : Int), .int .u64 (ph : Int), .int .i64 pf, .bool pe]) ∧ W = w') (xy : Nat) (xp : Int) (wxy : IntKind.u64.wrap ((ma : Int) * (mb : Int)) = (xy : Int)) (wxp : IntKind.i64.wrap (A + B) = xp) (hpb : ∀ W, Calls Try.prog 28 #[.int .u64 (xy : Int), .int .i64 xp, .int .u64 (pl : Int), .int .u64 (ph : Int), .int .i64 pf, .bool pe] W fun e w' => e = .returned (.bool true) ∧ W = w') (t : Bool) (ww vv : Nat) (hpt : ((p : Int) != (zp : Int)) = t) (hxr : bits .xor .u32 (a : Int) (b : Int) = (ww : Int)) (hnr : bits .andNot .u32 (ww : Int) 2147483647 = (vv : Int)) (hvt : ((vv : Int) != 0) = t) (hy0 : ((mb : Int) != 0) = true) (hyn : ¬ mb = 0) (fq : ∀ W, Calls Try.prog 25 #[.int .u32 (q : Int)] W fun e w' => e = .returned (.bool true) ∧ W = w') (zq : Nat) (hzq : bits .and .u32 (q : Int) 2147483647 = (zq : Int)) (hzq0 : ((zq : Int) != 0) = true) (hzqn : ¬ zq = 0) (ql qh : Nat) (qf : Int) (qe : Bool) (hqv : ∀ W, Calls Try.prog 27 #[.int .u32 (q : Int)] W fun e w' => e = .returned (.tuple #[.int .u64 (ql : Int), .int .u64 (qh : Int), .int .i64 qf, .bool qe]) ∧ W = w') (qL qH : Nat) (xd : Int) (wql : IntKind.u64.wrap ((ql : Int) * (mb : Int)) = (qL : Int)) (wqh : IntKind.u64.wrap ((qh : Int) * (mb : Int)) = (qH : Int)) (wxd : IntKind.i64.wrap (A - B) = xd) (hqb : ∀ W, Calls Try.prog 28 #[.int .u64 (ma : Int), .int .i64 xd, .int .u64 (qL : Int), .int .u64 (qH : Int), .int .i64 qf, .bool qe] W fun e w' => e = .returned (.bool true) ∧ W = w') (hqt : ((q : Int) != (zq : Int)) = t) (hx0 : ((ma : Int) != 0) = true) (hxn : ¬ ma = 0) (za : Nat) (hza : bits .and .u32 (a : Int) 2147483647 = (za : Int)) (hae : ((a : Int) == (za : Int)) = false) (w : World) : Calls Try.prog 5 #[.int .u32 (a : Int), .int .u32 (b : Int)] w (Ret w (.bool true)) := by
  have F1' := Lib.hid f1
  have F2' := Lib.hid f2
  have R1' := Lib.hid r1
  have R2' := Lib.hid r2
  have HP' := Lib.hid hp
  have HQ' := Lib.hid hq
  have HR' := Lib.hid hr
  have FP' := Lib.hid fp
  have HPV' := Lib.hid hpv
  have HPB' := Lib.hid hpb
  have FQ' := Lib.hid fq
  have HQV' := Lib.hid hqv
  have HQB' := Lib.hid hqb
  clear f1 f2 r1 r2 hp hq hr fp hpv hpb fq hqv hqb
  go_enter Try.func5, Try.ntmps5
  go_wp2_with fail
  refine (F1'.out _).mono ?_
  rintro e w' ⟨rfl, rfl⟩
  go_wp2_with fail
  refine (F2'.out _).mono ?_
  rintro e w' ⟨rfl, rfl⟩
  go_wp2_with fail
  refine (R1'.out _).mono ?_
  rintro e w' ⟨rfl, rfl⟩
  go_wp2_with fail
  refine (R2'.out _).mono ?_
  rintro e w' ⟨rfl, rfl⟩
  go_wp2_with fail
  refine (HP'.out _).mono ?_
  rintro e w' ⟨rfl, n1, rfl⟩
  go_wp2_with fail
  refine (FP'.out _).mono ?_
  rintro e w' ⟨rfl, rfl⟩
  go_wp2_with fail
  refine (HPV'.out _).mono ?_
  rintro e w' ⟨rfl, rfl⟩
  go_wp2_with fail
  refine (HPB'.out _).mono ?_
  rintro e w' ⟨rfl, rfl⟩
  go_wp2_with fail
  refine (HQ'.out _).mono ?_
  rintro e w' ⟨rfl, n2, rfl⟩
  go_wp2_with fail
  refine (FQ'.out _).mono ?_
  rintro e w' ⟨rfl, rfl⟩
  go_wp2_with fail
  refine (HQV'.out _).mono ?_
  rintro e w' ⟨rfl, rfl⟩
  go_wp2_with fail
  refine (HQB'.out _).mono ?_
  rintro e w' ⟨rfl, rfl⟩
  go_wp2_with fail
  refine (HR'.out _).mono ?_
  rintro e w' ⟨rfl, n3, rfl⟩
  go_wp2_with fail
  refine (awake_any _).mono ?_
  rintro e w' ⟨rfl, n9, rfl⟩
  go_wp2
  go_ret
  exact ⟨rfl, by repeat (first | exact Below.refl _ _ | refine bs_drew ?_ | refine bs_drewN ?_ _)⟩

set_option maxRecDepth 100000 in
set_option maxHeartbeats 2000000 in
theorem nr_kkk (a b p q r ma mb : Nat) (A B : Int) (f1 : ∀ W, Calls Try.prog 25 #[.int .u32 (a : Int)] W fun e w' => e = .returned (.bool true) ∧ W = w') (f2 : ∀ W, Calls Try.prog 25 #[.int .u32 (b : Int)] W fun e w' => e = .returned (.bool true) ∧ W = w') (r1 : ∀ W, Calls Try.prog 26 #[.int .u32 (a : Int)] W fun e w' => e = .returned (.tuple #[.int .u64 (ma : Int), .int .i64 A]) ∧ W = w') (r2 : ∀ W, Calls Try.prog 26 #[.int .u32 (b : Int)] W fun e w' => e = .returned (.tuple #[.int .u64 (mb : Int), .int .i64 B]) ∧ W = w') (hp : ∀ W, Calls Try.prog 16 #[.int .u32 (a : Int), .int .u32 (b : Int)] W (Got W (.int .u32 (p : Int)))) (hq : ∀ W, Calls Try.prog 22 #[.int .u32 (a : Int), .int .u32 (b : Int)] W (Got W (.int .u32 (q : Int)))) (hr : ∀ W, Calls Try.prog 23 #[.int .u32 (a : Int)] W (Got W (.int .u32 (r : Int)))) (fp : ∀ W, Calls Try.prog 25 #[.int .u32 (p : Int)] W fun e w' => e = .returned (.bool true) ∧ W = w') (zp : Nat) (hzp : bits .and .u32 (p : Int) 2147483647 = (zp : Int)) (hzp0 : ((zp : Int) != 0) = true) (hzpn : ¬ zp = 0) (pl ph : Nat) (pf : Int) (pe : Bool) (hpv : ∀ W, Calls Try.prog 27 #[.int .u32 (p : Int)] W fun e w' => e = .returned (.tuple #[.int .u64 (pl : Int), .int .u64 (ph : Int), .int .i64 pf, .bool pe]) ∧ W = w') (xy : Nat) (xp : Int) (wxy : IntKind.u64.wrap ((ma : Int) * (mb : Int)) = (xy : Int)) (wxp : IntKind.i64.wrap (A + B) = xp) (hpb : ∀ W, Calls Try.prog 28 #[.int .u64 (xy : Int), .int .i64 xp, .int .u64 (pl : Int), .int .u64 (ph : Int), .int .i64 pf, .bool pe] W fun e w' => e = .returned (.bool true) ∧ W = w') (t : Bool) (ww vv : Nat) (hpt : ((p : Int) != (zp : Int)) = t) (hxr : bits .xor .u32 (a : Int) (b : Int) = (ww : Int)) (hnr : bits .andNot .u32 (ww : Int) 2147483647 = (vv : Int)) (hvt : ((vv : Int) != 0) = t) (hy0 : ((mb : Int) != 0) = true) (hyn : ¬ mb = 0) (fq : ∀ W, Calls Try.prog 25 #[.int .u32 (q : Int)] W fun e w' => e = .returned (.bool true) ∧ W = w') (zq : Nat) (hzq : bits .and .u32 (q : Int) 2147483647 = (zq : Int)) (hzq0 : ((zq : Int) != 0) = true) (hzqn : ¬ zq = 0) (ql qh : Nat) (qf : Int) (qe : Bool) (hqv : ∀ W, Calls Try.prog 27 #[.int .u32 (q : Int)] W fun e w' => e = .returned (.tuple #[.int .u64 (ql : Int), .int .u64 (qh : Int), .int .i64 qf, .bool qe]) ∧ W = w') (qL qH : Nat) (xd : Int) (wql : IntKind.u64.wrap ((ql : Int) * (mb : Int)) = (qL : Int)) (wqh : IntKind.u64.wrap ((qh : Int) * (mb : Int)) = (qH : Int)) (wxd : IntKind.i64.wrap (A - B) = xd) (hqb : ∀ W, Calls Try.prog 28 #[.int .u64 (ma : Int), .int .i64 xd, .int .u64 (qL : Int), .int .u64 (qH : Int), .int .i64 qf, .bool qe] W fun e w' => e = .returned (.bool true) ∧ W = w') (hqt : ((q : Int) != (zq : Int)) = t) (hx0 : ((ma : Int) != 0) = true) (hxn : ¬ ma = 0) (za : Nat) (hza : bits .and .u32 (a : Int) 2147483647 = (za : Int)) (hae : ((a : Int) == (za : Int)) = true) (fr : ∀ W, Calls Try.prog 25 #[.int .u32 (r : Int)] W fun e w' => e = .returned (.bool true) ∧ W = w') (hr0 : ((r : Int) == 0) = false) (hrn : ¬ r = 0) (hzr : bits .and .u32 (r : Int) 2147483647 = (r : Int)) (rl rh : Nat) (rf : Int) (re : Bool) (hrv : ∀ W, Calls Try.prog 27 #[.int .u32 (r : Int)] W fun e w' => e = .returned (.tuple #[.int .u64 (rl : Int), .int .u64 (rh : Int), .int .i64 rf, .bool re]) ∧ W = w') (rL rH : Nat) (rg : Int) (wrl : IntKind.u64.wrap ((rl : Int) * (rl : Int)) = (rL : Int)) (wrh : IntKind.u64.wrap ((rh : Int) * (rh : Int)) = (rH : Int)) (wrg : IntKind.i64.wrap (2 * rf) = rg) (hrb : ∀ W, Calls Try.prog 28 #[.int .u64 (ma : Int), .int .i64 A, .int .u64 (rL : Int), .int .u64 (rH : Int), .int .i64 rg, .bool re] W fun e w' => e = .returned (.bool true) ∧ W = w') (w : World) : Calls Try.prog 5 #[.int .u32 (a : Int), .int .u32 (b : Int)] w (Ret w (.bool true)) := by
  have F1' := Lib.hid f1
  have F2' := Lib.hid f2
  have R1' := Lib.hid r1
  have R2' := Lib.hid r2
  have HP' := Lib.hid hp
  have HQ' := Lib.hid hq
  have HR' := Lib.hid hr
  have FP' := Lib.hid fp
  have HPV' := Lib.hid hpv
  have HPB' := Lib.hid hpb
  have FQ' := Lib.hid fq
  have HQV' := Lib.hid hqv
  have HQB' := Lib.hid hqb
  have FR' := Lib.hid fr
  have HRV' := Lib.hid hrv
  have HRB' := Lib.hid hrb
  clear f1 f2 r1 r2 hp hq hr fp hpv hpb fq hqv hqb fr hrv hrb
  go_enter Try.func5, Try.ntmps5
  go_wp2_with fail
  refine (F1'.out _).mono ?_
  rintro e w' ⟨rfl, rfl⟩
  go_wp2_with fail
  refine (F2'.out _).mono ?_
  rintro e w' ⟨rfl, rfl⟩
  go_wp2_with fail
  refine (R1'.out _).mono ?_
  rintro e w' ⟨rfl, rfl⟩
  go_wp2_with fail
  refine (R2'.out _).mono ?_
  rintro e w' ⟨rfl, rfl⟩
  go_wp2_with fail
  refine (HP'.out _).mono ?_
  rintro e w' ⟨rfl, n1, rfl⟩
  go_wp2_with fail
  refine (FP'.out _).mono ?_
  rintro e w' ⟨rfl, rfl⟩
  go_wp2_with fail
  refine (HPV'.out _).mono ?_
  rintro e w' ⟨rfl, rfl⟩
  go_wp2_with fail
  refine (HPB'.out _).mono ?_
  rintro e w' ⟨rfl, rfl⟩
  go_wp2_with fail
  refine (HQ'.out _).mono ?_
  rintro e w' ⟨rfl, n2, rfl⟩
  go_wp2_with fail
  refine (FQ'.out _).mono ?_
  rintro e w' ⟨rfl, rfl⟩
  go_wp2_with fail
  refine (HQV'.out _).mono ?_
  rintro e w' ⟨rfl, rfl⟩
  go_wp2_with fail
  refine (HQB'.out _).mono ?_
  rintro e w' ⟨rfl, rfl⟩
  go_wp2_with fail
  refine (HR'.out _).mono ?_
  rintro e w' ⟨rfl, n3, rfl⟩
  go_wp2_with fail
  refine (FR'.out _).mono ?_
  rintro e w' ⟨rfl, rfl⟩
  go_wp2_with fail
  refine (HRV'.out _).mono ?_
  rintro e w' ⟨rfl, rfl⟩
  go_wp2_with fail
  refine (HRB'.out _).mono ?_
  rintro e w' ⟨rfl, rfl⟩
  go_wp2_with fail
  refine (awake_any _).mono ?_
  rintro e w' ⟨rfl, n9, rfl⟩
  go_wp2
  go_ret
  exact ⟨rfl, by repeat (first | exact Below.refl _ _ | refine bs_drew ?_ | refine bs_drewN ?_ _)⟩
end Go.Proofs.Ytllchfdddfmjbaa
