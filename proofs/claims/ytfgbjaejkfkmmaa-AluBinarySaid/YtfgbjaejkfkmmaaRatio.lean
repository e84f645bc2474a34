/- Contract of the reference's Ratio (printed by a program of ours). -/
import Derived.Test.YtfgbjaejkfkmmaaRoundM2
import Derived.Test.YtfgbjaejkfkmmaaProduct
namespace Go.Proofs.Ytfgbjaejkfkmmaa
open Go.RowKit Ieee

set_option maxHeartbeats 1000000 in
theorem ratio_nan_left (s : Int) (m : Bool) (n : Nat) (p : Int) (w : World) : Calls Try.prog 90 #[frm, val 1 false 0 0, val s m n p] w (Ret w (val 1 false 0 0)) := by
  unfold frm val
  go_enter Try.func90, Try.ntmps90
  go_wp2_with fail
  refine (none_any _).mono ?_
  rintro e w1 ⟨rfl, hB⟩
  obtain ⟨hc, hf⟩ := bel_cells hB
  unfold val
  go_wp2
  exact bodyPost_ret (v := val 1 false 0 0) (by simp [results, Try.results90, go_sem, hc, val]) rfl ⟨rfl, bel_set4 (bel_four _ _ _ _ _ hB) (by omega) _ _ _ _⟩

set_option maxHeartbeats 1000000 in
theorem ratio_inf_nan (m : Bool) (w : World) : Calls Try.prog 90 #[frm, val 2 m 0 0, val 1 false 0 0] w (Ret w (val 1 false 0 0)) := by
  unfold frm val
  go_enter Try.func90, Try.ntmps90
  go_wp2_with fail
  refine (none_any _).mono ?_
  rintro e w1 ⟨rfl, hB⟩
  obtain ⟨hc, hf⟩ := bel_cells hB
  unfold val
  go_wp2
  exact bodyPost_ret (v := val 1 false 0 0) (by simp [results, Try.results90, go_sem, hc, val]) rfl ⟨rfl, bel_set4 (bel_four _ _ _ _ _ hB) (by omega) _ _ _ _⟩

set_option maxHeartbeats 1000000 in
theorem ratio_num_nan (m : Bool) (n : Nat) (p : Int) (w : World) : Calls Try.prog 90 #[frm, val 3 m n p, val 1 false 0 0] w (Ret w (val 1 false 0 0)) := by
  unfold frm val
  go_enter Try.func90, Try.ntmps90
  go_wp2_with fail
  refine (none_any _).mono ?_
  rintro e w1 ⟨rfl, hB⟩
  obtain ⟨hc, hf⟩ := bel_cells hB
  unfold val
  go_wp2
  exact bodyPost_ret (v := val 1 false 0 0) (by simp [results, Try.results90, go_sem, hc, val]) rfl ⟨rfl, bel_set4 (bel_four _ _ _ _ _ hB) (by omega) _ _ _ _⟩

set_option maxHeartbeats 1000000 in
theorem ratio_inf_inf (s t : Bool) (w : World) : Calls Try.prog 90 #[frm, val 2 s 0 0, val 2 t 0 0] w (Ret w (val 1 false 0 0)) := by
  unfold frm val
  go_enter Try.func90, Try.ntmps90
  go_wp2_with fail
  refine (none_any _).mono ?_
  rintro e w1 ⟨rfl, hB⟩
  obtain ⟨hc, hf⟩ := bel_cells hB
  unfold val
  go_wp2
  exact bodyPost_ret (v := val 1 false 0 0) (by simp [results, Try.results90, go_sem, hc, val]) rfl ⟨rfl, bel_set4 (bel_four _ _ _ _ _ hB) (by omega) _ _ _ _⟩

set_option maxHeartbeats 1000000 in
theorem ratio_inf_num (s t : Bool) (n : Nat) (p : Int) (w : World) : Calls Try.prog 90 #[frm, val 2 s 0 0, val 3 t n p] w (Ret w (val 2 (!(s == t)) 0 0)) := by
  unfold frm val
  go_enter Try.func90, Try.ntmps90
  go_wp2_with fail
  refine (endless_any _ _).mono ?_
  rintro e w1 ⟨rfl, hB⟩
  obtain ⟨hc, hf⟩ := bel_cells hB
  unfold val
  go_wp2
  exact bodyPost_ret (v := val 2 (!(s == t)) 0 0) (by simp [results, Try.results90, go_sem, hc, val]) rfl ⟨rfl, bel_set4 (bel_four _ _ _ _ _ hB) (by omega) _ _ _ _⟩

set_option maxHeartbeats 1000000 in
theorem ratio_num_inf (s t : Bool) (n : Nat) (p : Int) (w : World) : Calls Try.prog 90 #[frm, val 3 s n p, val 2 t 0 0] w (Ret w (val 3 (!(s == t)) 0 (-149))) := by
  unfold frm val
  go_enter Try.func90, Try.ntmps90
  go_wp2_with fail
  refine (nought_any _ _).mono ?_
  rintro e w1 ⟨rfl, hB⟩
  obtain ⟨hc, hf⟩ := bel_cells hB
  unfold val
  go_wp2
  exact bodyPost_ret (v := val 3 (!(s == t)) 0 (-149)) (by simp [results, Try.results90, go_sem, hc, val]) rfl ⟨rfl, bel_set4 (bel_four _ _ _ _ _ hB) (by omega) _ _ _ _⟩

set_option maxHeartbeats 1000000 in
theorem ratio_zero_zero (s t : Bool) (p q : Int) (w : World) : Calls Try.prog 90 #[frm, val 3 s 0 p, val 3 t 0 q] w (Ret w (val 1 false 0 0)) := by
  unfold frm val
  go_enter Try.func90, Try.ntmps90
  go_wp2_with fail
  refine (isNought_any (.number t 0 q) _).mono ?_
  rintro e w1 ⟨rfl, hB⟩
  obtain ⟨hc, hf⟩ := bel_cells hB
  go_wp2_with fail
  refine (isNought_any (.number s 0 p) _).mono ?_
  rintro e w2 ⟨rfl, hb⟩
  replace hB := hB.trans (hb.mono hB.size)
  clear hb hc hf
  obtain ⟨hc, hf⟩ := bel_cells hB
  go_wp2_with fail
  refine (none_any _).mono ?_
  rintro e w2 ⟨rfl, hb⟩
  replace hB := hB.trans (hb.mono hB.size)
  clear hb hc hf
  obtain ⟨hc, hf⟩ := bel_cells hB
  unfold val
  go_wp2
  exact bodyPost_ret (v := val 1 false 0 0) (by simp [results, Try.results90, go_sem, hc, val]) rfl ⟨rfl, bel_set4 (bel_four _ _ _ _ _ hB) (by omega) _ _ _ _⟩

set_option maxHeartbeats 1000000 in
theorem ratio_num_zero (s t : Bool) (n : Nat) (p q : Int) (w : World) : Calls Try.prog 90 #[frm, val 3 s (n + 1 : Nat) p, val 3 t 0 q] w (Ret w (val 2 (!(s == t)) 0 0)) := by
  unfold frm val
  go_enter Try.func90, Try.ntmps90
  go_wp2_with fail
  refine (isNought_any (.number t 0 q) _).mono ?_
  rintro e w1 ⟨rfl, hB⟩
  obtain ⟨hc, hf⟩ := bel_cells hB
  go_wp2_with fail
  refine (isNought_any (.number s (n + 1) p) _).mono ?_
  rintro e w2 ⟨rfl, hb⟩
  replace hB := hB.trans (hb.mono hB.size)
  clear hb hc hf
  obtain ⟨hc, hf⟩ := bel_cells hB
  go_wp2_with fail
  refine (endless_any _ _).mono ?_
  rintro e w2 ⟨rfl, hb⟩
  replace hB := hB.trans (hb.mono hB.size)
  clear hb hc hf
  obtain ⟨hc, hf⟩ := bel_cells hB
  unfold val
  go_wp2
  exact bodyPost_ret (v := val 2 (!(s == t)) 0 0) (by simp [results, Try.results90, go_sem, hc, val]) rfl ⟨rfl, bel_set4 (bel_four _ _ _ _ _ hB) (by omega) _ _ _ _⟩
end Go.Proofs.Ytfgbjaejkfkmmaa
