/- Contracts of the reference's Flip, and of Sum where one is no finite number. -/
import Derived.Test.YtfgbjaejkfkmmaaProduct2
namespace Go.Proofs.Ytfgbjaejkfkmmaa
open Go.RowKit Ieee

theorem flip_number (s : Bool) (m : Nat) (p : Int) (w : World) : Calls Try.prog 88 #[val 3 s m p] w (Ret w (val 3 (!s) m p)) := by
  have hnot : ∀ (x : Bool) (w : World), (Op.unary .not (.bool x)).run Try.prog w = .ok (.bool (!x)) w := fun _ _ => rfl
  unfold val
  go_enter Try.func88, Try.ntmps88
  go_wp2
  exact bodyPost_ret (v := val 3 (!s) m p) (by simp [results, Try.results88, go_sem, val]) rfl ⟨rfl, (by repeat (first | exact Below.refl _ _ | refine bs_alloc ?_ _ | refine bs_set ?_ _ _ _ (by omega)))⟩
theorem flip_inf (s : Bool) (w : World) : Calls Try.prog 88 #[val 2 s 0 0] w (Ret w (val 2 (!s) 0 0)) := by
  have hnot : ∀ (x : Bool) (w : World), (Op.unary .not (.bool x)).run Try.prog w = .ok (.bool (!x)) w := fun _ _ => rfl
  unfold val
  go_enter Try.func88, Try.ntmps88
  go_wp2
  exact bodyPost_ret (v := val 2 (!s) 0 0) (by simp [results, Try.results88, go_sem, val]) rfl ⟨rfl, (by repeat (first | exact Below.refl _ _ | refine bs_alloc ?_ _ | refine bs_set ?_ _ _ _ (by omega)))⟩
theorem flip_nan (w : World) : Calls Try.prog 88 #[val 1 false 0 0] w (Ret w (val 1 false 0 0)) := by
  unfold val
  go_enter Try.func88, Try.ntmps88
  go_wp2
  exact bodyPost_ret (v := val 1 false 0 0) (by simp [results, Try.results88, go_sem, val]) rfl ⟨rfl, (by repeat (first | exact Below.refl _ _ | refine bs_alloc ?_ _ | refine bs_set ?_ _ _ _ (by omega)))⟩
theorem flip_any (d : Datum) (w : World) : Calls Try.prog 88 #[encD d] w (Ret w (encD d.opposite)) := by
  cases d with
  | number s m p => exact flip_number s m p w
  | infinity s => exact flip_inf s w
  | nan _ _ => exact flip_nan w
theorem can_opposite (d : Datum) (h : Can d) : Can d.opposite := by
  cases d with
  | number s m p => exact h
  | infinity s => trivial
  | nan _ _ => trivial

set_option maxHeartbeats 1000000 in
theorem sum_nan_left (s : Int) (m : Bool) (n : Nat) (p : Int) (w : World) : Calls Try.prog 87 #[frm, val 1 false 0 0, val s m n p] w (Ret w (val 1 false 0 0)) := by
  unfold frm val
  go_enter Try.func87, Try.ntmps87
  go_wp2_with fail
  refine (none_any _).mono ?_
  rintro e w1 ⟨rfl, hB⟩
  obtain ⟨hc, hf⟩ := bel_cells hB
  unfold val
  go_wp2
  exact bodyPost_ret (v := val 1 false 0 0) (by simp [results, Try.results87, go_sem, hc, val]) rfl ⟨rfl, bel_set4 (bel_four _ _ _ _ _ hB) (by omega) _ _ _ _⟩

set_option maxHeartbeats 1000000 in
theorem sum_inf_nan (m : Bool) (w : World) : Calls Try.prog 87 #[frm, val 2 m 0 0, val 1 false 0 0] w (Ret w (val 1 false 0 0)) := by
  unfold frm val
  go_enter Try.func87, Try.ntmps87
  go_wp2_with fail
  refine (none_any _).mono ?_
  rintro e w1 ⟨rfl, hB⟩
  obtain ⟨hc, hf⟩ := bel_cells hB
  unfold val
  go_wp2
  exact bodyPost_ret (v := val 1 false 0 0) (by simp [results, Try.results87, go_sem, hc, val]) rfl ⟨rfl, bel_set4 (bel_four _ _ _ _ _ hB) (by omega) _ _ _ _⟩

set_option maxHeartbeats 1000000 in
theorem sum_num_nan (m : Bool) (n : Nat) (p : Int) (w : World) : Calls Try.prog 87 #[frm, val 3 m n p, val 1 false 0 0] w (Ret w (val 1 false 0 0)) := by
  unfold frm val
  go_enter Try.func87, Try.ntmps87
  go_wp2_with fail
  refine (none_any _).mono ?_
  rintro e w1 ⟨rfl, hB⟩
  obtain ⟨hc, hf⟩ := bel_cells hB
  unfold val
  go_wp2
  exact bodyPost_ret (v := val 1 false 0 0) (by simp [results, Try.results87, go_sem, hc, val]) rfl ⟨rfl, bel_set4 (bel_four _ _ _ _ _ hB) (by omega) _ _ _ _⟩

set_option maxHeartbeats 1000000 in
theorem sum_inf_other (s : Bool) (w : World) : Calls Try.prog 87 #[frm, val 2 s 0 0, val 2 (!s) 0 0] w (Ret w (val 1 false 0 0)) := by
  have hne : (s != (!s)) = true := by cases s <;> rfl
  unfold frm val
  go_enter Try.func87, Try.ntmps87
  go_wp2_with fail
  refine (none_any _).mono ?_
  rintro e w1 ⟨rfl, hB⟩
  obtain ⟨hc, hf⟩ := bel_cells hB
  unfold val
  go_wp2
  exact bodyPost_ret (v := val 1 false 0 0) (by simp [results, Try.results87, go_sem, hc, val]) rfl ⟨rfl, bel_set4 (bel_four _ _ _ _ _ hB) (by omega) _ _ _ _⟩

set_option maxHeartbeats 1000000 in
theorem sum_inf_same (s : Bool) (w : World) : Calls Try.prog 87 #[frm, val 2 s 0 0, val 2 s 0 0] w (Ret w (val 2 s 0 0)) := by
  unfold frm val
  go_enter Try.func87, Try.ntmps87
  go_wp2
  exact bodyPost_ret (v := val 2 s 0 0) (by simp [results, Try.results87, go_sem, val]) rfl ⟨rfl, (by repeat (first | exact Below.refl _ _ | refine bs_alloc ?_ _ | refine bs_set ?_ _ _ _ (by omega)))⟩

set_option maxHeartbeats 1000000 in
theorem sum_inf_num (s t : Bool) (n : Nat) (p : Int) (w : World) : Calls Try.prog 87 #[frm, val 2 s 0 0, val 3 t n p] w (Ret w (val 2 s 0 0)) := by
  unfold frm val
  go_enter Try.func87, Try.ntmps87
  go_wp2
  exact bodyPost_ret (v := val 2 s 0 0) (by simp [results, Try.results87, go_sem, val]) rfl ⟨rfl, (by repeat (first | exact Below.refl _ _ | refine bs_alloc ?_ _ | refine bs_set ?_ _ _ _ (by omega)))⟩

set_option maxHeartbeats 1000000 in
theorem sum_num_inf (s t : Bool) (n : Nat) (p : Int) (w : World) : Calls Try.prog 87 #[frm, val 3 s n p, val 2 t 0 0] w (Ret w (val 2 t 0 0)) := by
  unfold frm val
  go_enter Try.func87, Try.ntmps87
  go_wp2
  exact bodyPost_ret (v := val 2 t 0 0) (by simp [results, Try.results87, go_sem, val]) rfl ⟨rfl, (by repeat (first | exact Below.refl _ _ | refine bs_alloc ?_ _ | refine bs_set ?_ _ _ _ (by omega)))⟩
end Go.Proofs.Ytfgbjaejkfkmmaa
