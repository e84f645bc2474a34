/- Contracts of the reference's Swapped and Opposite (printed by a program of ours). -/
import Derived.Test.YtfgbjaejkfkmmaaAluR
namespace Go.Proofs.Ytfgbjaejkfkmmaa
open Go.RowKit Ieee
set_option linter.unusedVariables false

/-- The samples. -/
def smp (i : Nat) : Nat := match i with | 0 => 0 | 1 => 1065353216 | 2 => 3212836864 | 3 => 3221225472 | 4 => 2147483648 | _ => 2143289344
theorem smp_le (i : Nat) : smp i ≤ 4294967295 := by unfold smp; split <;> decide
theorem sample_any (i : Nat) (hi : i < 6) (w : World) : Calls Try.prog 70 #[.int .i64 (i : Int)] w fun e w' => e = .returned (.int .u32 (smp i : Nat)) ∧ w = w' := by
  have h : i = 0 ∨ i = 1 ∨ i = 2 ∨ i = 3 ∨ i = 4 ∨ i = 5 := by omega
  rcases h with rfl | rfl | rfl | rfl | rfl | rfl
  all_goals
    go_enter Try.func70, Try.ntmps70
    go_wp2
    go_ret
    exact ⟨rfl, rfl⟩
/-- A comparison, by its number. -/
def hv (op a b : Nat) : Bool :=
  if op = 13 then decide (a = b) else
  if op = 14 then decide (¬ a = b) else
  if op = 15 then decide (wrap32 (a : Int) < wrap32 (b : Int)) else
  if op = 16 then decide (wrap32 (a : Int) ≤ wrap32 (b : Int)) else
  if op = 17 then decide (wrap32 (b : Int) < wrap32 (a : Int)) else
  if op = 18 then decide (wrap32 (b : Int) ≤ wrap32 (a : Int)) else
  if op = 19 then decide (a < b) else
  if op = 20 then decide (a ≤ b) else
  if op = 21 then decide (b < a) else
  if op = 22 then decide (b ≤ a) else
  fcmp op (sideOf (single.order a b))
theorem hv_13 (a b : Nat) : hv 13 a b = decide (a = b) := by unfold hv; rw [if_pos rfl]
theorem hv_14 (a b : Nat) : hv 14 a b = decide (¬ a = b) := by unfold hv; rw [if_neg (by decide), if_pos rfl]
theorem hv_15 (a b : Nat) : hv 15 a b = decide (wrap32 (a : Int) < wrap32 (b : Int)) := by unfold hv; rw [if_neg (by decide), if_neg (by decide), if_pos rfl]
theorem hv_16 (a b : Nat) : hv 16 a b = decide (wrap32 (a : Int) ≤ wrap32 (b : Int)) := by unfold hv; rw [if_neg (by decide), if_neg (by decide), if_neg (by decide), if_pos rfl]
theorem hv_17 (a b : Nat) : hv 17 a b = decide (wrap32 (b : Int) < wrap32 (a : Int)) := by unfold hv; rw [if_neg (by decide), if_neg (by decide), if_neg (by decide), if_neg (by decide), if_pos rfl]
theorem hv_18 (a b : Nat) : hv 18 a b = decide (wrap32 (b : Int) ≤ wrap32 (a : Int)) := by unfold hv; rw [if_neg (by decide), if_neg (by decide), if_neg (by decide), if_neg (by decide), if_neg (by decide), if_pos rfl]
theorem hv_19 (a b : Nat) : hv 19 a b = decide (a < b) := by unfold hv; rw [if_neg (by decide), if_neg (by decide), if_neg (by decide), if_neg (by decide), if_neg (by decide), if_neg (by decide), if_pos rfl]
theorem hv_20 (a b : Nat) : hv 20 a b = decide (a ≤ b) := by unfold hv; rw [if_neg (by decide), if_neg (by decide), if_neg (by decide), if_neg (by decide), if_neg (by decide), if_neg (by decide), if_neg (by decide), if_pos rfl]
theorem hv_21 (a b : Nat) : hv 21 a b = decide (b < a) := by unfold hv; rw [if_neg (by decide), if_neg (by decide), if_neg (by decide), if_neg (by decide), if_neg (by decide), if_neg (by decide), if_neg (by decide), if_neg (by decide), if_pos rfl]
theorem hv_22 (a b : Nat) : hv 22 a b = decide (b ≤ a) := by unfold hv; rw [if_neg (by decide), if_neg (by decide), if_neg (by decide), if_neg (by decide), if_neg (by decide), if_neg (by decide), if_neg (by decide), if_neg (by decide), if_neg (by decide), if_pos rfl]
theorem hv_23 (a b : Nat) : hv 23 a b = fcmp 23 (sideOf (single.order a b)) := by unfold hv; rw [if_neg (by decide), if_neg (by decide), if_neg (by decide), if_neg (by decide), if_neg (by decide), if_neg (by decide), if_neg (by decide), if_neg (by decide), if_neg (by decide), if_neg (by decide)]
theorem hv_24 (a b : Nat) : hv 24 a b = fcmp 24 (sideOf (single.order a b)) := by unfold hv; rw [if_neg (by decide), if_neg (by decide), if_neg (by decide), if_neg (by decide), if_neg (by decide), if_neg (by decide), if_neg (by decide), if_neg (by decide), if_neg (by decide), if_neg (by decide)]
theorem hv_25 (a b : Nat) : hv 25 a b = fcmp 25 (sideOf (single.order a b)) := by unfold hv; rw [if_neg (by decide), if_neg (by decide), if_neg (by decide), if_neg (by decide), if_neg (by decide), if_neg (by decide), if_neg (by decide), if_neg (by decide), if_neg (by decide), if_neg (by decide)]
theorem hv_26 (a b : Nat) : hv 26 a b = fcmp 26 (sideOf (single.order a b)) := by unfold hv; rw [if_neg (by decide), if_neg (by decide), if_neg (by decide), if_neg (by decide), if_neg (by decide), if_neg (by decide), if_neg (by decide), if_neg (by decide), if_neg (by decide), if_neg (by decide)]
theorem hv_27 (a b : Nat) : hv 27 a b = fcmp 27 (sideOf (single.order a b)) := by unfold hv; rw [if_neg (by decide), if_neg (by decide), if_neg (by decide), if_neg (by decide), if_neg (by decide), if_neg (by decide), if_neg (by decide), if_neg (by decide), if_neg (by decide), if_neg (by decide)]
theorem hv_28 (a b : Nat) : hv 28 a b = fcmp 28 (sideOf (single.order a b)) := by unfold hv; rw [if_neg (by decide), if_neg (by decide), if_neg (by decide), if_neg (by decide), if_neg (by decide), if_neg (by decide), if_neg (by decide), if_neg (by decide), if_neg (by decide), if_neg (by decide)]
theorem rhv (op a b : Nat) (h0 : 13 ≤ op) (h1 : op ≤ 28) (ha : a ≤ 4294967295) (hb : b ≤ 4294967295) (t : Bool) (ht : hv op a b = t) (w : World) :
    Calls Try.prog 22 #[.int .u8 (op : Int), .int .u32 (a : Int), .int .u32 (b : Int)] w (Ret w (.tuple #[.bool t, .int .i64 0])) := by
  by_cases h13 : op = 13
  · subst h13; rw [hv_13] at ht; exact rhol_13 a b ha hb t ht w
  replace h0 : 14 ≤ op := by clear ht; omega
  clear h13
  by_cases h14 : op = 14
  · subst h14; rw [hv_14] at ht; exact rhol_14 a b ha hb t ht w
  replace h0 : 15 ≤ op := by clear ht; omega
  clear h14
  by_cases h15 : op = 15
  · subst h15; rw [hv_15] at ht; exact rhol_15 a b ha hb t ht w
  replace h0 : 16 ≤ op := by clear ht; omega
  clear h15
  by_cases h16 : op = 16
  · subst h16; rw [hv_16] at ht; exact rhol_16 a b ha hb t ht w
  replace h0 : 17 ≤ op := by clear ht; omega
  clear h16
  by_cases h17 : op = 17
  · subst h17; rw [hv_17] at ht; exact rhol_17 a b ha hb t ht w
  replace h0 : 18 ≤ op := by clear ht; omega
  clear h17
  by_cases h18 : op = 18
  · subst h18; rw [hv_18] at ht; exact rhol_18 a b ha hb t ht w
  replace h0 : 19 ≤ op := by clear ht; omega
  clear h18
  by_cases h19 : op = 19
  · subst h19; rw [hv_19] at ht; exact rhol_19 a b ha hb t ht w
  replace h0 : 20 ≤ op := by clear ht; omega
  clear h19
  by_cases h20 : op = 20
  · subst h20; rw [hv_20] at ht; exact rhol_20 a b ha hb t ht w
  replace h0 : 21 ≤ op := by clear ht; omega
  clear h20
  by_cases h21 : op = 21
  · subst h21; rw [hv_21] at ht; exact rhol_21 a b ha hb t ht w
  replace h0 : 22 ≤ op := by clear ht; omega
  clear h21
  by_cases h22 : op = 22
  · subst h22; rw [hv_22] at ht; exact rhol_22 a b ha hb t ht w
  replace h0 : 23 ≤ op := by clear ht; omega
  clear h22
  by_cases h23 : op = 23
  · subst h23; rw [hv_23] at ht; exact rhol_23 a b ha hb t ht w
  replace h0 : 24 ≤ op := by clear ht; omega
  clear h23
  by_cases h24 : op = 24
  · subst h24; rw [hv_24] at ht; exact rhol_24 a b ha hb t ht w
  replace h0 : 25 ≤ op := by clear ht; omega
  clear h24
  by_cases h25 : op = 25
  · subst h25; rw [hv_25] at ht; exact rhol_25 a b ha hb t ht w
  replace h0 : 26 ≤ op := by clear ht; omega
  clear h25
  by_cases h26 : op = 26
  · subst h26; rw [hv_26] at ht; exact rhol_26 a b ha hb t ht w
  replace h0 : 27 ≤ op := by clear ht; omega
  clear h26
  by_cases h27 : op = 27
  · subst h27; rw [hv_27] at ht; exact rhol_27 a b ha hb t ht w
  replace h0 : 28 ≤ op := by clear ht; omega
  clear h27
  by_cases h28 : op = 28
  · subst h28; rw [hv_28] at ht; exact rhol_28 a b ha hb t ht w
  replace h0 : 29 ≤ op := by clear ht; omega
  clear h28
  omega
end Go.Proofs.Ytfgbjaejkfkmmaa
