/- AluOrder at each operation (printed by a program of ours). -/
import Derived.Test.YtfgbjaejkfkmmaaAluT
namespace Go.Proofs.Ytfgbjaejkfkmmaa
open Go.RowKit Ieee
set_option linter.unusedVariables false

theorem swap_cmp (x y : Int) : compare y x = (compare x y).swap := by
  rcases Int.lt_trichotomy x y with h | h | h
  · rw [cmp_lt h, cmp_gt h]; rfl
  · rw [cmp_eq h, cmp_eq h.symm]; rfl
  · rw [cmp_gt h, cmp_lt h]; rfl
theorem order_rev (d e : Datum) : e.order d = (d.order e).map Ordering.swap := by
  cases d with
  | nan s t => cases e <;> rfl
  | infinity s =>
    cases e with
    | nan t f => rfl
    | infinity t => cases s <;> cases t <;> rfl
    | number t n j => cases s <;> rfl
  | number s m i =>
    cases e with
    | nan t f => rfl
    | infinity t => cases t <;> rfl
    | number t n j =>
      simp only [Datum.order, Option.map_some]
      rw [Int.min_comm j i, swap_cmp]
theorem fcmp_swap (a b : Nat) : fcmp 23 (sideOf (single.order b a)) = fcmp 23 (sideOf (single.order a b)) ∧ fcmp 24 (sideOf (single.order b a)) = fcmp 24 (sideOf (single.order a b)) ∧
    fcmp 27 (sideOf (single.order b a)) = fcmp 25 (sideOf (single.order a b)) ∧ fcmp 28 (sideOf (single.order b a)) = fcmp 26 (sideOf (single.order a b)) ∧
    fcmp 25 (sideOf (single.order b a)) = fcmp 27 (sideOf (single.order a b)) ∧ fcmp 26 (sideOf (single.order b a)) = fcmp 28 (sideOf (single.order a b)) := by
  unfold Format.order
  rw [order_rev (single.read a) (single.read b)]
  cases (single.read a).order (single.read b) with
  | none => decide
  | some x => cases x <;> decide
theorem fcmp_not (s : Nat) (t : Bool) (h : fcmp 23 s = t) : fcmp 24 s = !t := by subst h; rfl
theorem fcmp_not' (s : Nat) (t : Bool) (h : fcmp 24 s = t) : fcmp 23 s = !t := by subst h; show (s == 3) = !(!(s == 3)); rw [Bool.not_not]

set_option maxHeartbeats 1000000 in
theorem ord_13 (a b : Nat) (w : World) : Calls Try.prog 3 #[.int .u8 13, .int .u32 (a : Int), .int .u32 (b : Int)] w (Ret w (.bool true)) := by
  obtain ⟨t, h⟩ : ∃ t, decide (a = b) = t := ⟨_, rfl⟩
  have c1 := Lib.hid (fun W => hol_13 a b t h W)
  have c2 := Lib.hid (fun W => is_13 b a t (by rw [← h]; exact decide_eq_decide.2 eq_comm) W)
  have c3 := Lib.hid (fun W => is_14 a b (!t) (by rw [← h, ← decide_not]) W)
  clear h
  cases t
  all_goals
    go_enter Try.func3, Try.ntmps3
    go_wp2_with fail
    refine (c1.out _).mono ?_
    rintro e w' ⟨rfl, rfl⟩
    go_wp2_with fail
    refine (swap_13 _).mono ?_
    rintro e w' ⟨rfl, rfl⟩
    go_wp2_with fail
    refine (c2.out _).mono ?_
    rintro e w' ⟨rfl, rfl⟩
    go_wp2_with fail
    refine (swap_13 _).mono ?_
    rintro e w' ⟨rfl, rfl⟩
    go_wp2_with fail
    refine (oppo_13 _).mono ?_
    rintro e w' ⟨rfl, rfl⟩
    go_wp2_with fail
    refine (oppo_14 _).mono ?_
    rintro e w' ⟨rfl, rfl⟩
    go_wp2_with fail
    refine (c3.out _).mono ?_
    rintro e w' ⟨rfl, rfl⟩
    go_wp2_with fail
    refine (awake_any _).mono ?_
    rintro e w' ⟨rfl, hb⟩
    go_wp2
    go_ret
    exact ⟨rfl, hb⟩

set_option maxHeartbeats 1000000 in
theorem ord_14 (a b : Nat) (w : World) : Calls Try.prog 3 #[.int .u8 14, .int .u32 (a : Int), .int .u32 (b : Int)] w (Ret w (.bool true)) := by
  obtain ⟨t, h⟩ : ∃ t, decide (¬ a = b) = t := ⟨_, rfl⟩
  have c1 := Lib.hid (fun W => hol_14 a b t h W)
  have c2 := Lib.hid (fun W => is_14 b a t (by rw [← h]; exact decide_eq_decide.2 (not_congr eq_comm)) W)
  have c3 := Lib.hid (fun W => is_13 a b (!t) (by rw [← h, ← decide_not]; exact decide_eq_decide.2 (Decidable.not_not.symm)) W)
  clear h
  cases t
  all_goals
    go_enter Try.func3, Try.ntmps3
    go_wp2_with fail
    refine (c1.out _).mono ?_
    rintro e w' ⟨rfl, rfl⟩
    go_wp2_with fail
    refine (swap_14 _).mono ?_
    rintro e w' ⟨rfl, rfl⟩
    go_wp2_with fail
    refine (c2.out _).mono ?_
    rintro e w' ⟨rfl, rfl⟩
    go_wp2_with fail
    refine (swap_14 _).mono ?_
    rintro e w' ⟨rfl, rfl⟩
    go_wp2_with fail
    refine (oppo_14 _).mono ?_
    rintro e w' ⟨rfl, rfl⟩
    go_wp2_with fail
    refine (oppo_13 _).mono ?_
    rintro e w' ⟨rfl, rfl⟩
    go_wp2_with fail
    refine (c3.out _).mono ?_
    rintro e w' ⟨rfl, rfl⟩
    go_wp2_with fail
    refine (awake_any _).mono ?_
    rintro e w' ⟨rfl, hb⟩
    go_wp2
    go_ret
    exact ⟨rfl, hb⟩

set_option maxHeartbeats 1000000 in
theorem ord_15 (a b : Nat) (w : World) : Calls Try.prog 3 #[.int .u8 15, .int .u32 (a : Int), .int .u32 (b : Int)] w (Ret w (.bool true)) := by
  obtain ⟨t, h⟩ : ∃ t, decide (wrap32 (a : Int) < wrap32 (b : Int)) = t := ⟨_, rfl⟩
  have c1 := Lib.hid (fun W => hol_15 a b t h W)
  have c2 := Lib.hid (fun W => is_17 b a t (h) W)
  have c3 := Lib.hid (fun W => is_18 a b (!t) (by rw [← h, ← decide_not]; exact decide_eq_decide.2 (by omega)) W)
  clear h
  cases t
  all_goals
    go_enter Try.func3, Try.ntmps3
    go_wp2_with fail
    refine (c1.out _).mono ?_
    rintro e w' ⟨rfl, rfl⟩
    go_wp2_with fail
    refine (swap_15 _).mono ?_
    rintro e w' ⟨rfl, rfl⟩
    go_wp2_with fail
    refine (c2.out _).mono ?_
    rintro e w' ⟨rfl, rfl⟩
    go_wp2_with fail
    refine (swap_17 _).mono ?_
    rintro e w' ⟨rfl, rfl⟩
    go_wp2_with fail
    refine (oppo_15 _).mono ?_
    rintro e w' ⟨rfl, rfl⟩
    go_wp2_with fail
    refine (oppo_18 _).mono ?_
    rintro e w' ⟨rfl, rfl⟩
    go_wp2_with fail
    refine (c3.out _).mono ?_
    rintro e w' ⟨rfl, rfl⟩
    go_wp2_with fail
    refine (awake_any _).mono ?_
    rintro e w' ⟨rfl, hb⟩
    go_wp2
    go_ret
    exact ⟨rfl, hb⟩

set_option maxHeartbeats 1000000 in
theorem ord_16 (a b : Nat) (w : World) : Calls Try.prog 3 #[.int .u8 16, .int .u32 (a : Int), .int .u32 (b : Int)] w (Ret w (.bool true)) := by
  obtain ⟨t, h⟩ : ∃ t, decide (wrap32 (a : Int) ≤ wrap32 (b : Int)) = t := ⟨_, rfl⟩
  have c1 := Lib.hid (fun W => hol_16 a b t h W)
  have c2 := Lib.hid (fun W => is_18 b a t (h) W)
  have c3 := Lib.hid (fun W => is_17 a b (!t) (by rw [← h, ← decide_not]; exact decide_eq_decide.2 (by omega)) W)
  clear h
  cases t
  all_goals
    go_enter Try.func3, Try.ntmps3
    go_wp2_with fail
    refine (c1.out _).mono ?_
    rintro e w' ⟨rfl, rfl⟩
    go_wp2_with fail
    refine (swap_16 _).mono ?_
    rintro e w' ⟨rfl, rfl⟩
    go_wp2_with fail
    refine (c2.out _).mono ?_
    rintro e w' ⟨rfl, rfl⟩
    go_wp2_with fail
    refine (swap_18 _).mono ?_
    rintro e w' ⟨rfl, rfl⟩
    go_wp2_with fail
    refine (oppo_16 _).mono ?_
    rintro e w' ⟨rfl, rfl⟩
    go_wp2_with fail
    refine (oppo_17 _).mono ?_
    rintro e w' ⟨rfl, rfl⟩
    go_wp2_with fail
    refine (c3.out _).mono ?_
    rintro e w' ⟨rfl, rfl⟩
    go_wp2_with fail
    refine (awake_any _).mono ?_
    rintro e w' ⟨rfl, hb⟩
    go_wp2
    go_ret
    exact ⟨rfl, hb⟩

set_option maxHeartbeats 1000000 in
theorem ord_17 (a b : Nat) (w : World) : Calls Try.prog 3 #[.int .u8 17, .int .u32 (a : Int), .int .u32 (b : Int)] w (Ret w (.bool true)) := by
  obtain ⟨t, h⟩ : ∃ t, decide (wrap32 (b : Int) < wrap32 (a : Int)) = t := ⟨_, rfl⟩
  have c1 := Lib.hid (fun W => hol_17 a b t h W)
  have c2 := Lib.hid (fun W => is_15 b a t (h) W)
  have c3 := Lib.hid (fun W => is_16 a b (!t) (by rw [← h, ← decide_not]; exact decide_eq_decide.2 (by omega)) W)
  clear h
  cases t
  all_goals
    go_enter Try.func3, Try.ntmps3
    go_wp2_with fail
    refine (c1.out _).mono ?_
    rintro e w' ⟨rfl, rfl⟩
    go_wp2_with fail
    refine (swap_17 _).mono ?_
    rintro e w' ⟨rfl, rfl⟩
    go_wp2_with fail
    refine (c2.out _).mono ?_
    rintro e w' ⟨rfl, rfl⟩
    go_wp2_with fail
    refine (swap_15 _).mono ?_
    rintro e w' ⟨rfl, rfl⟩
    go_wp2_with fail
    refine (oppo_17 _).mono ?_
    rintro e w' ⟨rfl, rfl⟩
    go_wp2_with fail
    refine (oppo_16 _).mono ?_
    rintro e w' ⟨rfl, rfl⟩
    go_wp2_with fail
    refine (c3.out _).mono ?_
    rintro e w' ⟨rfl, rfl⟩
    go_wp2_with fail
    refine (awake_any _).mono ?_
    rintro e w' ⟨rfl, hb⟩
    go_wp2
    go_ret
    exact ⟨rfl, hb⟩

set_option maxHeartbeats 1000000 in
theorem ord_18 (a b : Nat) (w : World) : Calls Try.prog 3 #[.int .u8 18, .int .u32 (a : Int), .int .u32 (b : Int)] w (Ret w (.bool true)) := by
  obtain ⟨t, h⟩ : ∃ t, decide (wrap32 (b : Int) ≤ wrap32 (a : Int)) = t := ⟨_, rfl⟩
  have c1 := Lib.hid (fun W => hol_18 a b t h W)
  have c2 := Lib.hid (fun W => is_16 b a t (h) W)
  have c3 := Lib.hid (fun W => is_15 a b (!t) (by rw [← h, ← decide_not]; exact decide_eq_decide.2 (by omega)) W)
  clear h
  cases t
  all_goals
    go_enter Try.func3, Try.ntmps3
    go_wp2_with fail
    refine (c1.out _).mono ?_
    rintro e w' ⟨rfl, rfl⟩
    go_wp2_with fail
    refine (swap_18 _).mono ?_
    rintro e w' ⟨rfl, rfl⟩
    go_wp2_with fail
    refine (c2.out _).mono ?_
    rintro e w' ⟨rfl, rfl⟩
    go_wp2_with fail
    refine (swap_16 _).mono ?_
    rintro e w' ⟨rfl, rfl⟩
    go_wp2_with fail
    refine (oppo_18 _).mono ?_
    rintro e w' ⟨rfl, rfl⟩
    go_wp2_with fail
    refine (oppo_15 _).mono ?_
    rintro e w' ⟨rfl, rfl⟩
    go_wp2_with fail
    refine (c3.out _).mono ?_
    rintro e w' ⟨rfl, rfl⟩
    go_wp2_with fail
    refine (awake_any _).mono ?_
    rintro e w' ⟨rfl, hb⟩
    go_wp2
    go_ret
    exact ⟨rfl, hb⟩

set_option maxHeartbeats 1000000 in
theorem ord_19 (a b : Nat) (w : World) : Calls Try.prog 3 #[.int .u8 19, .int .u32 (a : Int), .int .u32 (b : Int)] w (Ret w (.bool true)) := by
  obtain ⟨t, h⟩ : ∃ t, decide (a < b) = t := ⟨_, rfl⟩
  have c1 := Lib.hid (fun W => hol_19 a b t h W)
  have c2 := Lib.hid (fun W => is_21 b a t (h) W)
  have c3 := Lib.hid (fun W => is_22 a b (!t) (by rw [← h, ← decide_not]; exact decide_eq_decide.2 (by omega)) W)
  clear h
  cases t
  all_goals
    go_enter Try.func3, Try.ntmps3
    go_wp2_with fail
    refine (c1.out _).mono ?_
    rintro e w' ⟨rfl, rfl⟩
    go_wp2_with fail
    refine (swap_19 _).mono ?_
    rintro e w' ⟨rfl, rfl⟩
    go_wp2_with fail
    refine (c2.out _).mono ?_
    rintro e w' ⟨rfl, rfl⟩
    go_wp2_with fail
    refine (swap_21 _).mono ?_
    rintro e w' ⟨rfl, rfl⟩
    go_wp2_with fail
    refine (oppo_19 _).mono ?_
    rintro e w' ⟨rfl, rfl⟩
    go_wp2_with fail
    refine (oppo_22 _).mono ?_
    rintro e w' ⟨rfl, rfl⟩
    go_wp2_with fail
    refine (c3.out _).mono ?_
    rintro e w' ⟨rfl, rfl⟩
    go_wp2_with fail
    refine (awake_any _).mono ?_
    rintro e w' ⟨rfl, hb⟩
    go_wp2
    go_ret
    exact ⟨rfl, hb⟩

set_option maxHeartbeats 1000000 in
theorem ord_20 (a b : Nat) (w : World) : Calls Try.prog 3 #[.int .u8 20, .int .u32 (a : Int), .int .u32 (b : Int)] w (Ret w (.bool true)) := by
  obtain ⟨t, h⟩ : ∃ t, decide (a ≤ b) = t := ⟨_, rfl⟩
  have c1 := Lib.hid (fun W => hol_20 a b t h W)
  have c2 := Lib.hid (fun W => is_22 b a t (h) W)
  have c3 := Lib.hid (fun W => is_21 a b (!t) (by rw [← h, ← decide_not]; exact decide_eq_decide.2 (by omega)) W)
  clear h
  cases t
  all_goals
    go_enter Try.func3, Try.ntmps3
    go_wp2_with fail
    refine (c1.out _).mono ?_
    rintro e w' ⟨rfl, rfl⟩
    go_wp2_with fail
    refine (swap_20 _).mono ?_
    rintro e w' ⟨rfl, rfl⟩
    go_wp2_with fail
    refine (c2.out _).mono ?_
    rintro e w' ⟨rfl, rfl⟩
    go_wp2_with fail
    refine (swap_22 _).mono ?_
    rintro e w' ⟨rfl, rfl⟩
    go_wp2_with fail
    refine (oppo_20 _).mono ?_
    rintro e w' ⟨rfl, rfl⟩
    go_wp2_with fail
    refine (oppo_21 _).mono ?_
    rintro e w' ⟨rfl, rfl⟩
    go_wp2_with fail
    refine (c3.out _).mono ?_
    rintro e w' ⟨rfl, rfl⟩
    go_wp2_with fail
    refine (awake_any _).mono ?_
    rintro e w' ⟨rfl, hb⟩
    go_wp2
    go_ret
    exact ⟨rfl, hb⟩

set_option maxHeartbeats 1000000 in
theorem ord_21 (a b : Nat) (w : World) : Calls Try.prog 3 #[.int .u8 21, .int .u32 (a : Int), .int .u32 (b : Int)] w (Ret w (.bool true)) := by
  obtain ⟨t, h⟩ : ∃ t, decide (b < a) = t := ⟨_, rfl⟩
  have c1 := Lib.hid (fun W => hol_21 a b t h W)
  have c2 := Lib.hid (fun W => is_19 b a t (h) W)
  have c3 := Lib.hid (fun W => is_20 a b (!t) (by rw [← h, ← decide_not]; exact decide_eq_decide.2 (by omega)) W)
  clear h
  cases t
  all_goals
    go_enter Try.func3, Try.ntmps3
    go_wp2_with fail
    refine (c1.out _).mono ?_
    rintro e w' ⟨rfl, rfl⟩
    go_wp2_with fail
    refine (swap_21 _).mono ?_
    rintro e w' ⟨rfl, rfl⟩
    go_wp2_with fail
    refine (c2.out _).mono ?_
    rintro e w' ⟨rfl, rfl⟩
    go_wp2_with fail
    refine (swap_19 _).mono ?_
    rintro e w' ⟨rfl, rfl⟩
    go_wp2_with fail
    refine (oppo_21 _).mono ?_
    rintro e w' ⟨rfl, rfl⟩
    go_wp2_with fail
    refine (oppo_20 _).mono ?_
    rintro e w' ⟨rfl, rfl⟩
    go_wp2_with fail
    refine (c3.out _).mono ?_
    rintro e w' ⟨rfl, rfl⟩
    go_wp2_with fail
    refine (awake_any _).mono ?_
    rintro e w' ⟨rfl, hb⟩
    go_wp2
    go_ret
    exact ⟨rfl, hb⟩

set_option maxHeartbeats 1000000 in
theorem ord_22 (a b : Nat) (w : World) : Calls Try.prog 3 #[.int .u8 22, .int .u32 (a : Int), .int .u32 (b : Int)] w (Ret w (.bool true)) := by
  obtain ⟨t, h⟩ : ∃ t, decide (b ≤ a) = t := ⟨_, rfl⟩
  have c1 := Lib.hid (fun W => hol_22 a b t h W)
  have c2 := Lib.hid (fun W => is_20 b a t (h) W)
  have c3 := Lib.hid (fun W => is_19 a b (!t) (by rw [← h, ← decide_not]; exact decide_eq_decide.2 (by omega)) W)
  clear h
  cases t
  all_goals
    go_enter Try.func3, Try.ntmps3
    go_wp2_with fail
    refine (c1.out _).mono ?_
    rintro e w' ⟨rfl, rfl⟩
    go_wp2_with fail
    refine (swap_22 _).mono ?_
    rintro e w' ⟨rfl, rfl⟩
    go_wp2_with fail
    refine (c2.out _).mono ?_
    rintro e w' ⟨rfl, rfl⟩
    go_wp2_with fail
    refine (swap_20 _).mono ?_
    rintro e w' ⟨rfl, rfl⟩
    go_wp2_with fail
    refine (oppo_22 _).mono ?_
    rintro e w' ⟨rfl, rfl⟩
    go_wp2_with fail
    refine (oppo_19 _).mono ?_
    rintro e w' ⟨rfl, rfl⟩
    go_wp2_with fail
    refine (c3.out _).mono ?_
    rintro e w' ⟨rfl, rfl⟩
    go_wp2_with fail
    refine (awake_any _).mono ?_
    rintro e w' ⟨rfl, hb⟩
    go_wp2
    go_ret
    exact ⟨rfl, hb⟩

set_option maxHeartbeats 1000000 in
theorem ord_23 (a b : Nat) (w : World) : Calls Try.prog 3 #[.int .u8 23, .int .u32 (a : Int), .int .u32 (b : Int)] w (Ret w (.bool true)) := by
  obtain ⟨t, h⟩ : ∃ t, fcmp 23 (sideOf (single.order a b)) = t := ⟨_, rfl⟩
  have c1 := Lib.hid (fun W => hol_23 a b t h W)
  have c2 := Lib.hid (fun W => is_23 b a t (by rw [(fcmp_swap a b).1]; exact h) W)
  have c3 := Lib.hid (fun W => is_24 a b (!t) (fcmp_not _ t h) W)
  clear h
  cases t
  all_goals
    go_enter Try.func3, Try.ntmps3
    go_wp2_with fail
    refine (c1.out _).mono ?_
    rintro e w' ⟨rfl, rfl⟩
    go_wp2_with fail
    refine (swap_23 _).mono ?_
    rintro e w' ⟨rfl, rfl⟩
    go_wp2_with fail
    refine (c2.out _).mono ?_
    rintro e w' ⟨rfl, rfl⟩
    go_wp2_with fail
    refine (swap_23 _).mono ?_
    rintro e w' ⟨rfl, rfl⟩
    go_wp2_with fail
    refine (oppo_23 _).mono ?_
    rintro e w' ⟨rfl, rfl⟩
    go_wp2_with fail
    refine (oppo_24 _).mono ?_
    rintro e w' ⟨rfl, rfl⟩
    go_wp2_with fail
    refine (c3.out _).mono ?_
    rintro e w' ⟨rfl, rfl⟩
    go_wp2_with fail
    refine (awake_any _).mono ?_
    rintro e w' ⟨rfl, hb⟩
    go_wp2
    go_ret
    exact ⟨rfl, hb⟩

set_option maxHeartbeats 1000000 in
theorem ord_24 (a b : Nat) (w : World) : Calls Try.prog 3 #[.int .u8 24, .int .u32 (a : Int), .int .u32 (b : Int)] w (Ret w (.bool true)) := by
  obtain ⟨t, h⟩ : ∃ t, fcmp 24 (sideOf (single.order a b)) = t := ⟨_, rfl⟩
  have c1 := Lib.hid (fun W => hol_24 a b t h W)
  have c2 := Lib.hid (fun W => is_24 b a t (by rw [(fcmp_swap a b).2.1]; exact h) W)
  have c3 := Lib.hid (fun W => is_23 a b (!t) (fcmp_not' _ t h) W)
  clear h
  cases t
  all_goals
    go_enter Try.func3, Try.ntmps3
    go_wp2_with fail
    refine (c1.out _).mono ?_
    rintro e w' ⟨rfl, rfl⟩
    go_wp2_with fail
    refine (swap_24 _).mono ?_
    rintro e w' ⟨rfl, rfl⟩
    go_wp2_with fail
    refine (c2.out _).mono ?_
    rintro e w' ⟨rfl, rfl⟩
    go_wp2_with fail
    refine (swap_24 _).mono ?_
    rintro e w' ⟨rfl, rfl⟩
    go_wp2_with fail
    refine (oppo_24 _).mono ?_
    rintro e w' ⟨rfl, rfl⟩
    go_wp2_with fail
    refine (oppo_23 _).mono ?_
    rintro e w' ⟨rfl, rfl⟩
    go_wp2_with fail
    refine (c3.out _).mono ?_
    rintro e w' ⟨rfl, rfl⟩
    go_wp2_with fail
    refine (awake_any _).mono ?_
    rintro e w' ⟨rfl, hb⟩
    go_wp2
    go_ret
    exact ⟨rfl, hb⟩

set_option maxHeartbeats 1000000 in
theorem ord_25 (a b : Nat) (w : World) : Calls Try.prog 3 #[.int .u8 25, .int .u32 (a : Int), .int .u32 (b : Int)] w (Ret w (.bool true)) := by
  obtain ⟨t, h⟩ : ∃ t, fcmp 25 (sideOf (single.order a b)) = t := ⟨_, rfl⟩
  have c1 := Lib.hid (fun W => hol_25 a b t h W)
  have c2 := Lib.hid (fun W => is_27 b a t (by rw [(fcmp_swap a b).2.2.1]; exact h) W)
  clear h
  cases t
  all_goals
    go_enter Try.func3, Try.ntmps3
    go_wp2_with fail
    refine (c1.out _).mono ?_
    rintro e w' ⟨rfl, rfl⟩
    go_wp2_with fail
    refine (swap_25 _).mono ?_
    rintro e w' ⟨rfl, rfl⟩
    go_wp2_with fail
    refine (c2.out _).mono ?_
    rintro e w' ⟨rfl, rfl⟩
    go_wp2_with fail
    refine (swap_27 _).mono ?_
    rintro e w' ⟨rfl, rfl⟩
    go_wp2_with fail
    refine (oppo_25 _).mono ?_
    rintro e w' ⟨rfl, rfl⟩
    go_wp2_with fail
    refine (awake_any _).mono ?_
    rintro e w' ⟨rfl, hb⟩
    go_wp2
    go_ret
    exact ⟨rfl, hb⟩

set_option maxHeartbeats 1000000 in
theorem ord_26 (a b : Nat) (w : World) : Calls Try.prog 3 #[.int .u8 26, .int .u32 (a : Int), .int .u32 (b : Int)] w (Ret w (.bool true)) := by
  obtain ⟨t, h⟩ : ∃ t, fcmp 26 (sideOf (single.order a b)) = t := ⟨_, rfl⟩
  have c1 := Lib.hid (fun W => hol_26 a b t h W)
  have c2 := Lib.hid (fun W => is_28 b a t (by rw [(fcmp_swap a b).2.2.2.1]; exact h) W)
  clear h
  cases t
  all_goals
    go_enter Try.func3, Try.ntmps3
    go_wp2_with fail
    refine (c1.out _).mono ?_
    rintro e w' ⟨rfl, rfl⟩
    go_wp2_with fail
    refine (swap_26 _).mono ?_
    rintro e w' ⟨rfl, rfl⟩
    go_wp2_with fail
    refine (c2.out _).mono ?_
    rintro e w' ⟨rfl, rfl⟩
    go_wp2_with fail
    refine (swap_28 _).mono ?_
    rintro e w' ⟨rfl, rfl⟩
    go_wp2_with fail
    refine (oppo_26 _).mono ?_
    rintro e w' ⟨rfl, rfl⟩
    go_wp2_with fail
    refine (awake_any _).mono ?_
    rintro e w' ⟨rfl, hb⟩
    go_wp2
    go_ret
    exact ⟨rfl, hb⟩

set_option maxHeartbeats 1000000 in
theorem ord_27 (a b : Nat) (w : World) : Calls Try.prog 3 #[.int .u8 27, .int .u32 (a : Int), .int .u32 (b : Int)] w (Ret w (.bool true)) := by
  obtain ⟨t, h⟩ : ∃ t, fcmp 27 (sideOf (single.order a b)) = t := ⟨_, rfl⟩
  have c1 := Lib.hid (fun W => hol_27 a b t h W)
  have c2 := Lib.hid (fun W => is_25 b a t (by rw [(fcmp_swap a b).2.2.2.2.1]; exact h) W)
  clear h
  cases t
  all_goals
    go_enter Try.func3, Try.ntmps3
    go_wp2_with fail
    refine (c1.out _).mono ?_
    rintro e w' ⟨rfl, rfl⟩
    go_wp2_with fail
    refine (swap_27 _).mono ?_
    rintro e w' ⟨rfl, rfl⟩
    go_wp2_with fail
    refine (c2.out _).mono ?_
    rintro e w' ⟨rfl, rfl⟩
    go_wp2_with fail
    refine (swap_25 _).mono ?_
    rintro e w' ⟨rfl, rfl⟩
    go_wp2_with fail
    refine (oppo_27 _).mono ?_
    rintro e w' ⟨rfl, rfl⟩
    go_wp2_with fail
    refine (awake_any _).mono ?_
    rintro e w' ⟨rfl, hb⟩
    go_wp2
    go_ret
    exact ⟨rfl, hb⟩

set_option maxHeartbeats 1000000 in
theorem ord_28 (a b : Nat) (w : World) : Calls Try.prog 3 #[.int .u8 28, .int .u32 (a : Int), .int .u32 (b : Int)] w (Ret w (.bool true)) := by
  obtain ⟨t, h⟩ : ∃ t, fcmp 28 (sideOf (single.order a b)) = t := ⟨_, rfl⟩
  have c1 := Lib.hid (fun W => hol_28 a b t h W)
  have c2 := Lib.hid (fun W => is_26 b a t (by rw [(fcmp_swap a b).2.2.2.2.2]; exact h) W)
  clear h
  cases t
  all_goals
    go_enter Try.func3, Try.ntmps3
    go_wp2_with fail
    refine (c1.out _).mono ?_
    rintro e w' ⟨rfl, rfl⟩
    go_wp2_with fail
    refine (swap_28 _).mono ?_
    rintro e w' ⟨rfl, rfl⟩
    go_wp2_with fail
    refine (c2.out _).mono ?_
    rintro e w' ⟨rfl, rfl⟩
    go_wp2_with fail
    refine (swap_26 _).mono ?_
    rintro e w' ⟨rfl, rfl⟩
    go_wp2_with fail
    refine (oppo_28 _).mono ?_
    rintro e w' ⟨rfl, rfl⟩
    go_wp2_with fail
    refine (awake_any _).mono ?_
    rintro e w' ⟨rfl, hb⟩
    go_wp2
    go_ret
    exact ⟨rfl, hb⟩

set_option maxHeartbeats 1000000 in
theorem ord_other (op a b : Int) (h13 : ((op : Int) == 13) = false) (h14 : ((op : Int) == 14) = false) (h15 : ((op : Int) == 15) = false) (h16 : ((op : Int) == 16) = false) (h17 : ((op : Int) == 17) = false) (h18 : ((op : Int) == 18) = false) (h19 : ((op : Int) == 19) = false) (h20 : ((op : Int) == 20) = false) (h21 : ((op : Int) == 21) = false) (h22 : ((op : Int) == 22) = false) (h23 : ((op : Int) == 23) = false) (h24 : ((op : Int) == 24) = false) (h25 : ((op : Int) == 25) = false) (h26 : ((op : Int) == 26) = false) (h27 : ((op : Int) == 27) = false) (h28 : ((op : Int) == 28) = false) (hlo : (decide (op < 13) || decide (28 < op)) = true) (w : World) : Calls Try.prog 3 #[.int .u8 op, .int .u32 a, .int .u32 b] w (Ret w (.bool true)) := by
  have c1 := Lib.hid (fun W => hol_other op a b h13 h14 h15 h16 h17 h18 h19 h20 h21 h22 h23 h24 h25 h26 h27 h28 W)
  clear h13 h14 h15 h16 h17 h18 h19 h20 h21 h22 h23 h24 h25 h26 h27 h28
  by_cases h : op < 13
  all_goals
    have h2 : ¬ op < 13 → 28 < op := fun h => by simpa [h] using hlo
    clear hlo
    go_enter Try.func3, Try.ntmps3
    go_wp2_with fail
    refine (c1.out _).mono ?_
    rintro e w' ⟨rfl, rfl⟩
    go_wp2_with fail
    refine (awake_any _).mono ?_
    rintro e w' ⟨rfl, hb⟩
    go_wp2
    go_ret
    exact ⟨rfl, hb⟩
end Go.Proofs.Ytfgbjaejkfkmmaa
