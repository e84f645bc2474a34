/- Contracts of package alu's binary operations (printed by a program of ours). -/
import Derived.Test.YtfgbjaejkfkmmaaSingle
import Derived.Test.YtfgbjaejkfkmmaaBel
import Derived.IntWalk
import Derived.Laws.BitsAllLaws
import Derived.Defers
import Derived.Recover
import Derived.Laws.Pointers
import Derived.Deep.RegionHeld3
namespace Go.Proofs.Ytfgbjaejkfkmmaa
open Go.RowKit Ieee
set_option linter.unusedVariables false

theorem ret_pair {k l : IntKind} {x y e : Int} (h : x = y) : Ending.returned (.tuple #[.int k x, .int l e]) = .returned (.tuple #[.int k y, .int l e]) := by rw [h]
theorem ret_bool {l : IntKind} {x y : Bool} {e : Int} (h : x = y) : Ending.returned (.tuple #[.bool x, .int l e]) = .returned (.tuple #[.bool y, .int l e]) := by rw [h]
theorem ret_int {k : IntKind} {x y : Int} (h : x = y) : Ending.returned (.int k x) = .returned (.int k y) := by rw [h]
theorem got_same {w : World} {v : Value} {n : Nat} {args : Array Value} (h : Calls Try.prog n args w fun e w' => e = .returned v ∧ w = w') : Calls Try.prog n args w (Got w v) := h.mono fun _ _ ⟨he, hw⟩ => ⟨he, 0, hw.symm⟩

theorem bin_39 (a b r : Nat) (ha : a ≤ 4294967295) (hb : b ≤ 4294967295) (h : (a + b) % 4294967296 = r) (w : World) :
    Calls Try.prog 44 #[.int .u8 39, .int .u32 (a : Int), .int .u32 (b : Int)] w fun e w' => e = .returned (.tuple #[.int .u32 (r : Nat), .int .i64 0]) ∧ w = w' := by
  have HR := Lib.hid (show ((a : Int) + b) % 4294967296 = (r : Int) from by omega)
  clear h
  go_enter Try.func44, Try.ntmps44
  go_wp2
  go_ret2
  exact ⟨ret_pair HR.out, rfl⟩

theorem bin_40 (a b r : Nat) (ha : a ≤ 4294967295) (hb : b ≤ 4294967295) (h : (a + 4294967296 - b) % 4294967296 = r) (w : World) :
    Calls Try.prog 44 #[.int .u8 40, .int .u32 (a : Int), .int .u32 (b : Int)] w fun e w' => e = .returned (.tuple #[.int .u32 (r : Nat), .int .i64 0]) ∧ w = w' := by
  have HR := Lib.hid (show ((a : Int) - b) % 4294967296 = (r : Int) from by omega)
  clear h
  go_enter Try.func44, Try.ntmps44
  go_wp2
  go_ret2
  exact ⟨ret_pair HR.out, rfl⟩

theorem bin_41 (a b r : Nat) (ha : a ≤ 4294967295) (hb : b ≤ 4294967295) (h : a * b % 4294967296 = r) (w : World) :
    Calls Try.prog 44 #[.int .u8 41, .int .u32 (a : Int), .int .u32 (b : Int)] w fun e w' => e = .returned (.tuple #[.int .u32 (r : Nat), .int .i64 0]) ∧ w = w' := by
  have HR := Lib.hid (show ((a : Int) * b) % 4294967296 = (r : Int) from by rw [show (a : Int) * b = ((a * b : Nat) : Int) from (Int.natCast_mul a b).symm]; generalize a * b = p at *; omega)
  clear h
  go_enter Try.func44, Try.ntmps44
  go_wp2
  go_ret2
  exact ⟨ret_pair HR.out, rfl⟩

theorem bin_46 (a b r : Nat) (ha : a ≤ 4294967295) (hb : b ≤ 4294967295) (h : a &&& b = r) (w : World) :
    Calls Try.prog 44 #[.int .u8 46, .int .u32 (a : Int), .int .u32 (b : Int)] w fun e w' => e = .returned (.tuple #[.int .u32 (r : Nat), .int .i64 0]) ∧ w = w' := by
  have HR := Lib.hid (show bits .and .u32 (a : Int) b = (r : Int) from by rw [u32_and_nat a b (by omega) (by omega), h])
  clear h
  go_enter Try.func44, Try.ntmps44
  go_wp2
  go_ret2
  exact ⟨ret_pair HR.out, rfl⟩

theorem bin_47 (a b r : Nat) (ha : a ≤ 4294967295) (hb : b ≤ 4294967295) (h : a ||| b = r) (w : World) :
    Calls Try.prog 44 #[.int .u8 47, .int .u32 (a : Int), .int .u32 (b : Int)] w fun e w' => e = .returned (.tuple #[.int .u32 (r : Nat), .int .i64 0]) ∧ w = w' := by
  have HR := Lib.hid (show bits .or .u32 (a : Int) b = (r : Int) from by rw [u32_or_nat a b (by omega) (by omega), h])
  clear h
  go_enter Try.func44, Try.ntmps44
  go_wp2
  go_ret2
  exact ⟨ret_pair HR.out, rfl⟩

theorem bin_48 (a b r : Nat) (ha : a ≤ 4294967295) (hb : b ≤ 4294967295) (h : a ^^^ b = r) (w : World) :
    Calls Try.prog 44 #[.int .u8 48, .int .u32 (a : Int), .int .u32 (b : Int)] w fun e w' => e = .returned (.tuple #[.int .u32 (r : Nat), .int .i64 0]) ∧ w = w' := by
  have HR := Lib.hid (show bits .xor .u32 (a : Int) b = (r : Int) from by rw [u32_xor_nat a b (by omega) (by omega), h])
  clear h
  go_enter Try.func44, Try.ntmps44
  go_wp2
  go_ret2
  exact ⟨ret_pair HR.out, rfl⟩

theorem bin_50 (a b r : Nat) (ha : a ≤ 4294967295) (hb : b ≤ 4294967295) (h : a * 2 ^ (b % 32) % 4294967296 = r) (w : World) :
    Calls Try.prog 44 #[.int .u8 50, .int .u32 (a : Int), .int .u32 (b : Int)] w fun e w' => e = .returned (.tuple #[.int .u32 (r : Nat), .int .i64 0]) ∧ w = w' := by
  have HR := Lib.hid (show (a : Int) * 2 ^ (b % 32) % 4294967296 = (r : Int) from by rw [show (a : Int) * 2 ^ (b % 32) = ((a * 2 ^ (b % 32) : Nat) : Int) from by rw [Int.natCast_mul, Int.natCast_pow]; rfl]; generalize a * 2 ^ (b % 32) = p at *; omega)
  clear h
  go_enter Try.func44, Try.ntmps44
  go_wp2
  go_ret2
  exact ⟨ret_pair HR.out, rfl⟩

theorem bin_52 (a b r : Nat) (ha : a ≤ 4294967295) (hb : b ≤ 4294967295) (h : a / 2 ^ (b % 32) = r) (w : World) :
    Calls Try.prog 44 #[.int .u8 52, .int .u32 (a : Int), .int .u32 (b : Int)] w fun e w' => e = .returned (.tuple #[.int .u32 (r : Nat), .int .i64 0]) ∧ w = w' := by
  have HR := Lib.hid (show (a : Int) / 2 ^ (b % 32) = (r : Int) from by subst h; push_cast; rfl)
  clear h
  go_enter Try.func44, Try.ntmps44
  go_wp2
  go_ret2
  exact ⟨ret_pair HR.out, rfl⟩

theorem bin_42 (a b r : Nat) (ha : a ≤ 4294967295) (hb : b ≤ 4294967295) (hz : ¬ wrap32 (b : Int) = 0) (h : wrap32 ((wrap32 (a : Int)).tdiv (wrap32 (b : Int))) % 4294967296 = (r : Int)) (w : World) :
    Calls Try.prog 44 #[.int .u8 42, .int .u32 (a : Int), .int .u32 (b : Int)] w fun e w' => e = .returned (.tuple #[.int .u32 (r : Nat), .int .i64 0]) ∧ w = w' := by
  have HR := Lib.hid (show wrap32 ((wrap32 (a : Int)).tdiv (wrap32 (b : Int))) % 4294967296 = (r : Int) from by exact h)
  clear h
  go_enter Try.func44, Try.ntmps44
  go_wp2
  go_ret2
  exact ⟨ret_pair HR.out, rfl⟩

theorem bin_44 (a b r : Nat) (ha : a ≤ 4294967295) (hb : b ≤ 4294967295) (hz : ¬ wrap32 (b : Int) = 0) (h : (wrap32 (a : Int)).tmod (wrap32 (b : Int)) % 4294967296 = (r : Int)) (w : World) :
    Calls Try.prog 44 #[.int .u8 44, .int .u32 (a : Int), .int .u32 (b : Int)] w fun e w' => e = .returned (.tuple #[.int .u32 (r : Nat), .int .i64 0]) ∧ w = w' := by
  have HR := Lib.hid (show (wrap32 (a : Int)).tmod (wrap32 (b : Int)) % 4294967296 = (r : Int) from by exact h)
  clear h
  go_enter Try.func44, Try.ntmps44
  go_wp2
  go_ret2
  exact ⟨ret_pair HR.out, rfl⟩

theorem bin_43 (a b r : Nat) (ha : a ≤ 4294967295) (hb : b ≤ 4294967295) (hz : 0 < b) (h : a / b = r) (w : World) :
    Calls Try.prog 44 #[.int .u8 43, .int .u32 (a : Int), .int .u32 (b : Int)] w fun e w' => e = .returned (.tuple #[.int .u32 (r : Nat), .int .i64 0]) ∧ w = w' := by
  have HR := Lib.hid (show (a : Int) / b % 4294967296 = (r : Int) from by have h1 := Nat.div_le_self a b; rw [← Int.natCast_ediv, h]; omega)
  clear h
  go_enter Try.func44, Try.ntmps44
  go_wp2
  go_ret2
  exact ⟨ret_pair HR.out, rfl⟩

theorem bin_45 (a b r : Nat) (ha : a ≤ 4294967295) (hb : b ≤ 4294967295) (hz : 0 < b) (h : a % b = r) (w : World) :
    Calls Try.prog 44 #[.int .u8 45, .int .u32 (a : Int), .int .u32 (b : Int)] w fun e w' => e = .returned (.tuple #[.int .u32 (r : Nat), .int .i64 0]) ∧ w = w' := by
  have HR := Lib.hid (show (a : Int) % b = (r : Int) from by subst h; push_cast; rfl)
  clear h
  go_enter Try.func44, Try.ntmps44
  go_wp2
  go_ret2
  exact ⟨ret_pair HR.out, rfl⟩

theorem bin_51 (a b r : Nat) (ha : a ≤ 4294967295) (hb : b ≤ 4294967295) (h : wrap32 (a : Int) / 2 ^ (b % 32) % 4294967296 = (r : Int)) (w : World) :
    Calls Try.prog 44 #[.int .u8 51, .int .u32 (a : Int), .int .u32 (b : Int)] w fun e w' => e = .returned (.tuple #[.int .u32 (r : Nat), .int .i64 0]) ∧ w = w' := by
  have HR := Lib.hid (show wrap32 (a : Int) / 2 ^ (b % 32) % 4294967296 = (r : Int) from by exact h)
  clear h
  go_enter Try.func44, Try.ntmps44
  go_wp2
  go_ret2
  exact ⟨ret_pair HR.out, rfl⟩

theorem bin_54 (a b r : Nat) (h : sumW a b = r) (w : World) :
    Calls Try.prog 44 #[.int .u8 54, .int .u32 (a : Int), .int .u32 (b : Int)] w (Got w (.tuple #[.int .u32 (r : Nat), .int .i64 0])) := by
  have HC := Lib.hid (show ∀ W, Calls Try.prog 62 #[.int .u32 (a : Int), .int .u32 (b : Int)] W (Got W (.int .u32 (r : Nat))) from fun W => by
    subst h; have := Sum_any (a : Int) (b : Int) W; rwa [Int.toNat_natCast, Int.toNat_natCast] at this)
  clear h
  go_enter Try.func44, Try.ntmps44
  go_wp2_with fail
  refine (HC.out _).mono ?_
  rintro e w' ⟨rfl, n, rfl⟩
  go_wp2
  go_ret2
  exact ⟨rfl, n, rfl⟩

theorem bin_55 (a b r : Nat) (h : restW a b = r) (w : World) :
    Calls Try.prog 44 #[.int .u8 55, .int .u32 (a : Int), .int .u32 (b : Int)] w (Got w (.tuple #[.int .u32 (r : Nat), .int .i64 0])) := by
  have HC := Lib.hid (show ∀ W, Calls Try.prog 63 #[.int .u32 (a : Int), .int .u32 (b : Int)] W (Got W (.int .u32 (r : Nat))) from fun W => by
    subst h; have := Rest_any (a : Int) (b : Int) W; rwa [Int.toNat_natCast, Int.toNat_natCast] at this)
  clear h
  go_enter Try.func44, Try.ntmps44
  go_wp2_with fail
  refine (HC.out _).mono ?_
  rintro e w' ⟨rfl, n, rfl⟩
  go_wp2
  go_ret2
  exact ⟨rfl, n, rfl⟩

theorem bin_56 (a b r : Nat) (h : productW a b = r) (w : World) :
    Calls Try.prog 44 #[.int .u8 56, .int .u32 (a : Int), .int .u32 (b : Int)] w (Got w (.tuple #[.int .u32 (r : Nat), .int .i64 0])) := by
  have HC := Lib.hid (show ∀ W, Calls Try.prog 64 #[.int .u32 (a : Int), .int .u32 (b : Int)] W (Got W (.int .u32 (r : Nat))) from fun W => by
    subst h; have := Product_any (a : Int) (b : Int) W; rwa [Int.toNat_natCast, Int.toNat_natCast] at this)
  clear h
  go_enter Try.func44, Try.ntmps44
  go_wp2_with fail
  refine (HC.out _).mono ?_
  rintro e w' ⟨rfl, n, rfl⟩
  go_wp2
  go_ret2
  exact ⟨rfl, n, rfl⟩

theorem bin_57 (a b r : Nat) (h : ratioW a b = r) (w : World) :
    Calls Try.prog 44 #[.int .u8 57, .int .u32 (a : Int), .int .u32 (b : Int)] w (Got w (.tuple #[.int .u32 (r : Nat), .int .i64 0])) := by
  have HC := Lib.hid (show ∀ W, Calls Try.prog 65 #[.int .u32 (a : Int), .int .u32 (b : Int)] W (Got W (.int .u32 (r : Nat))) from fun W => by
    subst h; have := Ratio_any (a : Int) (b : Int) W; rwa [Int.toNat_natCast, Int.toNat_natCast] at this)
  clear h
  go_enter Try.func44, Try.ntmps44
  go_wp2_with fail
  refine (HC.out _).mono ?_
  rintro e w' ⟨rfl, n, rfl⟩
  go_wp2
  go_ret2
  exact ⟨rfl, n, rfl⟩

theorem bin_42_nought (a : Nat) (w : World) :
    Calls Try.prog 44 #[.int .u8 42, .int .u32 (a : Int), .int .u32 0] w fun e w' => e = .panicked [{ v := .iface 10 (strVal "integer divide by zero"), recovered := false }] ∧ w = w' := by
  go_enter Try.func44, Try.ntmps44
  go_wp2
  exact ⟨rfl, rfl, rfl⟩

theorem bin_43_nought (a : Nat) (w : World) :
    Calls Try.prog 44 #[.int .u8 43, .int .u32 (a : Int), .int .u32 0] w fun e w' => e = .panicked [{ v := .iface 10 (strVal "integer divide by zero"), recovered := false }] ∧ w = w' := by
  go_enter Try.func44, Try.ntmps44
  go_wp2
  exact ⟨rfl, rfl, rfl⟩

theorem bin_44_nought (a : Nat) (w : World) :
    Calls Try.prog 44 #[.int .u8 44, .int .u32 (a : Int), .int .u32 0] w fun e w' => e = .panicked [{ v := .iface 10 (strVal "integer divide by zero"), recovered := false }] ∧ w = w' := by
  go_enter Try.func44, Try.ntmps44
  go_wp2
  exact ⟨rfl, rfl, rfl⟩

theorem bin_45_nought (a : Nat) (w : World) :
    Calls Try.prog 44 #[.int .u8 45, .int .u32 (a : Int), .int .u32 0] w fun e w' => e = .panicked [{ v := .iface 10 (strVal "integer divide by zero"), recovered := false }] ∧ w = w' := by
  go_enter Try.func44, Try.ntmps44
  go_wp2
  exact ⟨rfl, rfl, rfl⟩

theorem bin_other (op : Int) (a b : Int) (h39 : ((op : Int) == 39) = false) (h40 : ((op : Int) == 40) = false) (h41 : ((op : Int) == 41) = false) (h42 : ((op : Int) == 42) = false) (h43 : ((op : Int) == 43) = false) (h44 : ((op : Int) == 44) = false) (h45 : ((op : Int) == 45) = false) (h46 : ((op : Int) == 46) = false) (h47 : ((op : Int) == 47) = false) (h48 : ((op : Int) == 48) = false) (h50 : ((op : Int) == 50) = false) (h51 : ((op : Int) == 51) = false) (h52 : ((op : Int) == 52) = false) (h54 : ((op : Int) == 54) = false) (h55 : ((op : Int) == 55) = false) (h56 : ((op : Int) == 56) = false) (h57 : ((op : Int) == 57) = false) (w : World) :
    Calls Try.prog 44 #[.int .u8 op, .int .u32 a, .int .u32 b] w fun e w' => e = .returned (.tuple #[.int .u32 0, .int .i64 61]) ∧ w = w' := by
  go_enter Try.func44, Try.ntmps44
  go_wp2
  go_ret2
  exact ⟨rfl, rfl⟩

/-! ### The deferred function, and Binary -/
theorem catch_panicking (p q : Addr) (x y : Int) (u : TypeId) (pv : Value) (older : List PanicEntry) (w : World) (hc : w.cell? p = some (.int .u32 x)) (hz : w.frozen? p = false)
    (hc2 : (w.setCell p (.int .u32 0)).cell? q = some (.int .i64 y)) (hz2 : (w.setCell p (.int .u32 0)).frozen? q = false) :
    CallsD Try.prog 43 #[.pointer (some p), .pointer (some q)] (.panicking ({ v := .iface u pv, recovered := false } :: older)) w fun e u' w' =>
      e = .returned (.tuple #[]) ∧ u' = .panicking ({ v := .iface u pv, recovered := true } :: older) ∧ w' = (w.setCell p (.int .u32 0)).setCell q (.int .i64 60) := by
  refine callsD_of_wpS Try.func43 rfl fun c₀ cs hu => ?_
  apply wpS_seq
  apply wpS_region
  simp [wpOpsS, go_sem, recoverD, hu, Try.ntmps43, Exit.thenS]
  refine wpS_cond (t := true) (by simp [Act.eval, Array.replicate]) ?_
  simp only [if_true]
  apply wpS_region
  simp [wpOpsS, go_sem, hc, hz, hc2, hz2, bodyPostS, results, Try.results43]

theorem catch_idle (p q : Addr) (w : World) :
    CallsD Try.prog 43 #[.pointer (some p), .pointer (some q)] .returning w fun e u' w' => e = .returned (.tuple #[]) ∧ u' = .returning ∧ w' = w := by
  refine callsD_of_wpS Try.func43 rfl fun c₀ cs hu => ?_
  apply wpS_seq
  apply wpS_region
  simp [wpOpsS, go_sem, recoverD, hu, Try.ntmps43, Exit.thenS]
  refine wpS_cond (t := false) (by simp [Act.eval, Array.replicate]) ?_
  simp only [Bool.false_eq_true, if_false]
  refine wpS_of_wp (wp_skip ?_)
  cases c₀
  simp_all [bodyPostS, results, Try.results43]

theorem Binary_of (op a b r x : Int) (h : ∀ W, Calls Try.prog 44 #[.int .u8 op, .int .u32 a, .int .u32 b] W (Got W (.tuple #[.int .u32 r, .int .i64 x]))) (w : World) :
    Calls Try.prog 23 #[.int .u8 op, .int .u32 a, .int .u32 b] w (Ret w (.tuple #[.int .u32 r, .int .i64 x])) := by
  have hmf : ∀ (fn : Fn) (first cap : Array Value) (w : World), (Instr.makeFunc fn first cap).run Try.prog w = .ok (.func fn first cap) w := fun _ _ _ _ => rfl
  have HC := Lib.hid h
  clear h
  go_enter_defers Try.func23, Try.ntmps23
  go_wp2_with fail
  refine (HC.out _).mono ?_
  rintro e w' ⟨rfl, n, rfl⟩
  go_wp2
  refine leaves_cons (f := 43) (args := #[.pointer (some ⟨w.heap.size, 0, none⟩), .pointer (some ⟨w.heap.size + 1, 0, none⟩)]) (by simp) (by simp [go_sem]) ?_
  refine (catch_idle ⟨w.heap.size, 0, none⟩ ⟨w.heap.size + 1, 0, none⟩ _).mono ?_
  rintro e u' w'' ⟨rfl, rfl, rfl⟩
  simp [Leaves, settle, results, Try.results23, go_sem, Ret]
  exact bs_set (bs_set (bs_drewN (bs_alloc (bs_alloc (Below.refl _ _) _) _) n) _ _ _ (Nat.le_refl _)) _ _ _ (by omega)

theorem Binary_nought (op a b : Int) (u : TypeId) (pv : Value) (h : ∀ W, Calls Try.prog 44 #[.int .u8 op, .int .u32 a, .int .u32 b] W fun e w' => e = .panicked [{ v := .iface u pv, recovered := false }] ∧ W = w') (w : World) :
    Calls Try.prog 23 #[.int .u8 op, .int .u32 a, .int .u32 b] w (Ret w (.tuple #[.int .u32 0, .int .i64 60])) := by
  have hmf : ∀ (fn : Fn) (first cap : Array Value) (w : World), (Instr.makeFunc fn first cap).run Try.prog w = .ok (.func fn first cap) w := fun _ _ _ _ => rfl
  have HC := Lib.hid h
  clear h
  go_enter_defers Try.func23, Try.ntmps23
  go_wp2_with fail
  refine (HC.out _).mono ?_
  rintro e w' ⟨rfl, rfl⟩
  go_wp2
  refine leaves_cons (f := 43) (args := #[.pointer (some ⟨w.heap.size, 0, none⟩), .pointer (some ⟨w.heap.size + 1, 0, none⟩)]) (by simp) (by simp [go_sem]) ?_
  refine (catch_panicking ⟨w.heap.size, 0, none⟩ ⟨w.heap.size + 1, 0, none⟩ 0 0 u pv [] _ ?_ ?_ ?_ ?_).mono ?_
  · simp [go_sem]
  · simp [go_sem]
  · simp [go_sem]
  · simp [go_sem]
  rintro e u' w'' ⟨rfl, rfl, rfl⟩
  simp [Leaves, settle, results, Try.results23, go_sem, Ret]
  exact bs_alloc (bs_alloc (Below.refl _ _) _) _

theorem two_of (op a b r x : Int) (h : ∀ W, Calls Try.prog 23 #[.int .u8 op, .int .u32 a, .int .u32 b] W (Ret W (.tuple #[.int .u32 r, .int .i64 x]))) (w : World) :
    Calls Try.prog 27 #[.int .u8 op, .int .u32 a, .int .u32 b] w (Ret w (.int .u32 r)) := by
  have HC := Lib.hid h
  clear h
  go_enter Try.func27, Try.ntmps27
  go_wp2_with fail
  refine (HC.out _).mono ?_
  rintro e w' ⟨rfl, hb⟩
  go_wp2
  go_ret
  exact ⟨rfl, hb⟩
end Go.Proofs.Ytfgbjaejkfkmmaa
