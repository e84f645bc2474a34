/- Contract of the reference's Product. -/
import Derived.Test.YtdihbpfoalmlcaaRounded2
namespace Go.Proofs.Ytdihbpfoalmlcaa
open Go.RowKit Ieee

/-- What an operation's answer reads as, laid down. -/
def resD (o : Option Datum) : Datum := match o with
  | none => .nan false 1
  | some d => single.read (single.write d)

theorem bel_four (w : World) (o1 o2 o3 o4 : Obj) {w1 : World} (h : Below ((((w.alloc o1).alloc o2).alloc o3).alloc o4).heap.size ((((w.alloc o1).alloc o2).alloc o3).alloc o4) w1) : Below w.heap.size w w1 :=
  bs_step (bs_alloc (bs_alloc (bs_alloc (bs_alloc (Below.refl _ _) _) _) _) _) h

theorem keep_set4 {w1 : World} {b b' i : Nat} {v x0 x1 x2 x3 : Value} (hne : b' ≠ b) (hc : w1.cell? ⟨b', i, none⟩ = some v) :
    ((((w1.setCell ⟨b, 0, none⟩ x0).setCell ⟨b, 1, none⟩ x1).setCell ⟨b, 2, none⟩ x2).setCell ⟨b, 3, none⟩ x3).cell? ⟨b', i, none⟩ = some v := by
  have h : ∀ (W : World) (j : Nat) (u : Value), (W.setCell ⟨b, j, none⟩ u).cell? ⟨b', i, none⟩ = W.cell? ⟨b', i, none⟩ := fun W j u =>
    World.cell?_setCell_other W ⟨b, j, none⟩ ⟨b', i, none⟩ u (fun e => hne (congrArg Addr.block e).symm)
  rw [h, h, h, h]
  exact hc

theorem xor_ne (s t : Bool) : (!(s == t)) = (s ^^ t) := by cases s <;> cases t <;> rfl

set_option maxHeartbeats 1000000 in
theorem product_nan_left (s : Int) (m : Bool) (n : Nat) (p : Int) (w : World) : Calls Try.prog 44 #[frm, val 1 false 0 0, val s m n p] w (Ret w (val 1 false 0 0)) := by
  unfold frm val
  go_enter Try.func44, Try.ntmps44
  go_wp2_with fail
  refine (none_any _).mono ?_
  rintro e w1 ⟨rfl, hB⟩
  obtain ⟨hc, hf⟩ := bel_cells hB
  unfold val
  go_wp2
  exact bodyPost_ret (v := val 1 false 0 0) (by simp [results, Try.results44, go_sem, hc, val]) rfl ⟨rfl, bel_set4 (bel_four _ _ _ _ _ hB) (by omega) _ _ _ _⟩

set_option maxHeartbeats 1000000 in
theorem product_inf_nan (m : Bool) (w : World) : Calls Try.prog 44 #[frm, val 2 m 0 0, val 1 false 0 0] w (Ret w (val 1 false 0 0)) := by
  unfold frm val
  go_enter Try.func44, Try.ntmps44
  go_wp2_with fail
  refine (none_any _).mono ?_
  rintro e w1 ⟨rfl, hB⟩
  obtain ⟨hc, hf⟩ := bel_cells hB
  unfold val
  go_wp2
  exact bodyPost_ret (v := val 1 false 0 0) (by simp [results, Try.results44, go_sem, hc, val]) rfl ⟨rfl, bel_set4 (bel_four _ _ _ _ _ hB) (by omega) _ _ _ _⟩

set_option maxHeartbeats 1000000 in
theorem product_num_nan (m : Bool) (n : Nat) (p : Int) (w : World) : Calls Try.prog 44 #[frm, val 3 m n p, val 1 false 0 0] w (Ret w (val 1 false 0 0)) := by
  unfold frm val
  go_enter Try.func44, Try.ntmps44
  go_wp2_with fail
  refine (none_any _).mono ?_
  rintro e w1 ⟨rfl, hB⟩
  obtain ⟨hc, hf⟩ := bel_cells hB
  unfold val
  go_wp2
  exact bodyPost_ret (v := val 1 false 0 0) (by simp [results, Try.results44, go_sem, hc, val]) rfl ⟨rfl, bel_set4 (bel_four _ _ _ _ _ hB) (by omega) _ _ _ _⟩

set_option maxHeartbeats 1000000 in
theorem product_inf_inf (s t : Bool) (w : World) : Calls Try.prog 44 #[frm, val 2 s 0 0, val 2 t 0 0] w (Ret w (val 2 (!(s == t)) 0 0)) := by
  unfold frm val
  go_enter Try.func44, Try.ntmps44
  go_wp2_with fail
  refine (isNought_any (.infinity s) _).mono ?_
  rintro e w1 ⟨rfl, hB⟩
  obtain ⟨hc, hf⟩ := bel_cells hB
  go_wp2_with fail
  refine (isNought_any (.infinity t) _).mono ?_
  rintro e w2 ⟨rfl, hb⟩
  replace hB := hB.trans (hb.mono hB.size)
  clear hb hc hf
  obtain ⟨hc, hf⟩ := bel_cells hB
  go_wp2_with fail
  refine (endless_any _ _).mono ?_
  rintro e w2 ⟨rfl, hb⟩
  replace hB := hB.trans (hb.mono hB.size)
  clear hb hc hf
  obtain ⟨hc, hf⟩ := bel_cells hB
  unfold val
  go_wp2
  exact bodyPost_ret (v := val 2 (!(s == t)) 0 0) (by simp [results, Try.results44, go_sem, hc, val]) rfl ⟨rfl, bel_set4 (bel_four _ _ _ _ _ hB) (by omega) _ _ _ _⟩

set_option maxHeartbeats 1000000 in
theorem product_inf_zero (s t : Bool) (p : Int) (w : World) : Calls Try.prog 44 #[frm, val 2 s 0 0, val 3 t 0 p] w (Ret w (val 1 false 0 0)) := by
  unfold frm val
  go_enter Try.func44, Try.ntmps44
  go_wp2_with fail
  refine (isNought_any (.infinity s) _).mono ?_
  rintro e w1 ⟨rfl, hB⟩
  obtain ⟨hc, hf⟩ := bel_cells hB
  go_wp2_with fail
  refine (isNought_any (.number t 0 p) _).mono ?_
  rintro e w2 ⟨rfl, hb⟩
  replace hB := hB.trans (hb.mono hB.size)
  clear hb hc hf
  obtain ⟨hc, hf⟩ := bel_cells hB
  go_wp2_with fail
  refine (none_any _).mono ?_
  rintro e w2 ⟨rfl, hb⟩
  replace hB := hB.trans (hb.mono hB.size)
  clear hb hc hf
  obtain ⟨hc, hf⟩ := bel_cells hB
  unfold val
  go_wp2
  exact bodyPost_ret (v := val 1 false 0 0) (by simp [results, Try.results44, go_sem, hc, val]) rfl ⟨rfl, bel_set4 (bel_four _ _ _ _ _ hB) (by omega) _ _ _ _⟩

set_option maxHeartbeats 1000000 in
theorem product_zero_inf (s t : Bool) (p : Int) (w : World) : Calls Try.prog 44 #[frm, val 3 s 0 p, val 2 t 0 0] w (Ret w (val 1 false 0 0)) := by
  unfold frm val
  go_enter Try.func44, Try.ntmps44
  go_wp2_with fail
  refine (isNought_any (.number s 0 p) _).mono ?_
  rintro e w1 ⟨rfl, hB⟩
  obtain ⟨hc, hf⟩ := bel_cells hB
  go_wp2_with fail
  refine (none_any _).mono ?_
  rintro e w2 ⟨rfl, hb⟩
  replace hB := hB.trans (hb.mono hB.size)
  clear hb hc hf
  obtain ⟨hc, hf⟩ := bel_cells hB
  unfold val
  go_wp2
  exact bodyPost_ret (v := val 1 false 0 0) (by simp [results, Try.results44, go_sem, hc, val]) rfl ⟨rfl, bel_set4 (bel_four _ _ _ _ _ hB) (by omega) _ _ _ _⟩

set_option maxHeartbeats 1000000 in
theorem product_inf_num (s t : Bool) (n : Nat) (p : Int) (w : World) : Calls Try.prog 44 #[frm, val 2 s 0 0, val 3 t (n + 1 : Nat) p] w (Ret w (val 2 (!(s == t)) 0 0)) := by
  unfold frm val
  go_enter Try.func44, Try.ntmps44
  go_wp2_with fail
  refine (isNought_any (.infinity s) _).mono ?_
  rintro e w1 ⟨rfl, hB⟩
  obtain ⟨hc, hf⟩ := bel_cells hB
  go_wp2_with fail
  refine (isNought_any (.number t (n + 1) p) _).mono ?_
  rintro e w2 ⟨rfl, hb⟩
  replace hB := hB.trans (hb.mono hB.size)
  clear hb hc hf
  obtain ⟨hc, hf⟩ := bel_cells hB
  go_wp2_with fail
  refine (endless_any _ _).mono ?_
  rintro e w2 ⟨rfl, hb⟩
  replace hB := hB.trans (hb.mono hB.size)
  clear hb hc hf
  obtain ⟨hc, hf⟩ := bel_cells hB
  unfold val
  go_wp2
  exact bodyPost_ret (v := val 2 (!(s == t)) 0 0) (by simp [results, Try.results44, go_sem, hc, val]) rfl ⟨rfl, bel_set4 (bel_four _ _ _ _ _ hB) (by omega) _ _ _ _⟩

set_option maxHeartbeats 1000000 in
theorem product_num_inf (s t : Bool) (n : Nat) (p : Int) (w : World) : Calls Try.prog 44 #[frm, val 3 s (n + 1 : Nat) p, val 2 t 0 0] w (Ret w (val 2 (!(s == t)) 0 0)) := by
  unfold frm val
  go_enter Try.func44, Try.ntmps44
  go_wp2_with fail
  refine (isNought_any (.number s (n + 1) p) _).mono ?_
  rintro e w1 ⟨rfl, hB⟩
  obtain ⟨hc, hf⟩ := bel_cells hB
  go_wp2_with fail
  refine (isNought_any (.infinity t) _).mono ?_
  rintro e w2 ⟨rfl, hb⟩
  replace hB := hB.trans (hb.mono hB.size)
  clear hb hc hf
  obtain ⟨hc, hf⟩ := bel_cells hB
  go_wp2_with fail
  refine (endless_any _ _).mono ?_
  rintro e w2 ⟨rfl, hb⟩
  replace hB := hB.trans (hb.mono hB.size)
  clear hb hc hf
  obtain ⟨hc, hf⟩ := bel_cells hB
  unfold val
  go_wp2
  exact bodyPost_ret (v := val 2 (!(s == t)) 0 0) (by simp [results, Try.results44, go_sem, hc, val]) rfl ⟨rfl, bel_set4 (bel_four _ _ _ _ _ hB) (by omega) _ _ _ _⟩
end Go.Proofs.Ytdihbpfoalmlcaa
