/- Contracts of the reference's Stand, joined, and Stands. -/
import Derived.Test.YtfgbjaejkfkmmaaStand
namespace Go.Proofs.Ytfgbjaejkfkmmaa
open Go.RowKit Ieee

theorem stand_nan_left (s : Int) (m : Bool) (n : Nat) (p : Int) (w : World) : Calls Try.prog 61 #[val 1 false 0 0, val s m n p] w (Ret w (.int .u8 1)) := by
  unfold val
  go_enter Try.func61, Try.ntmps61
  go_wp2
  go_ret
  exact ⟨rfl, bs_alloc (bs_alloc (Below.refl _ _) _) _⟩
theorem stand_nan_right (s : Int) (hs : (s == 1) = false) (m : Bool) (n : Nat) (p : Int) (w : World) : Calls Try.prog 61 #[val s m n p, val 1 false 0 0] w (Ret w (.int .u8 1)) := by
  unfold val
  go_enter Try.func61, Try.ntmps61
  go_wp2
  go_ret
  exact ⟨rfl, bs_alloc (bs_alloc (Below.refl _ _) _) _⟩

/-- What stands in memory of a datum that is a number or without end. -/
theorem encD_num (d : Datum) (hd : d.isNaN = false) : ∃ (s : Int) (m : Nat) (p : Int), encD d = val s d.neg m p ∧ (s == 1) = false := by
  cases d with
  | number s m p => exact ⟨3, m, p, rfl, rfl⟩
  | infinity s => exact ⟨2, 0, 0, rfl, rfl⟩
  | nan _ _ => simp [Datum.isNaN] at hd

set_option maxHeartbeats 1000000 in
theorem stand_both (d1 d2 : Datum) (n1 : d1.isNaN = false) (n2 : d2.isNaN = false) (hz1 : d1.isZero = true) (hz2 : d2.isZero = true) (w : World) :
    Calls Try.prog 61 #[encD d1, encD d2] w (Ret w (.int .u8 3)) := by
  obtain ⟨a0, a2, a3, e1, ha⟩ := encD_num d1 n1
  obtain ⟨b0, b2, b3, e2, hb⟩ := encD_num d2 n2
  have hN1 := fun W => isNought_any d1 W
  have hN2 := fun W => isNought_any d2 W
  have hS1 := fun W => signed_any d1 n1 W
  have hS2 := fun W => signed_any d2 n2 W
  rw [hz1] at hN1
  rw [hz2] at hN2
  rw [e1] at hN1 hS1 ⊢
  rw [e2] at hN2 hS2 ⊢
  have bx := sgN_bound d1
  have by_ := sgN_bound d2
  generalize sgN d1 = x at *
  generalize sgN d2 = y at *
  have HN1 := Lib.hid hN1
  have HN2 := Lib.hid hN2
  have HS1 := Lib.hid hS1
  have HS2 := Lib.hid hS2
  clear hN1 hN2 hS1 hS2 hz1 hz2 e1 e2 n1 n2
  generalize d1.neg = s1 at *
  generalize d2.neg = s2 at *
  unfold val at *
  go_enter Try.func61, Try.ntmps61
  go_wp2_with fail
  refine (HN1.out _).mono ?_
  rintro e w1 ⟨rfl, hB⟩
  obtain ⟨hc, hf⟩ := bel_cells hB
  go_wp2_with fail
  refine (HN2.out _).mono ?_
  rintro e w2 ⟨rfl, hb1⟩
  replace hB := hB.trans (hb1.mono hB.size)
  clear hb1 hc hf
  obtain ⟨hc, hf⟩ := bel_cells hB
  go_wp2
  go_ret
  exact ⟨rfl, bel_two _ _ _ hB⟩

set_option maxHeartbeats 1000000 in
theorem stand_lt_z (d1 d2 : Datum) (n1 : d1.isNaN = false) (n2 : d2.isNaN = false) (hz1 : d1.isZero = true) (hz2 : d2.isZero = false) (hlt : sgN d1 < sgN d2) (w : World) :
    Calls Try.prog 61 #[encD d1, encD d2] w (Ret w (.int .u8 2)) := by
  obtain ⟨a0, a2, a3, e1, ha⟩ := encD_num d1 n1
  obtain ⟨b0, b2, b3, e2, hb⟩ := encD_num d2 n2
  have hN1 := fun W => isNought_any d1 W
  have hN2 := fun W => isNought_any d2 W
  have hS1 := fun W => signed_any d1 n1 W
  have hS2 := fun W => signed_any d2 n2 W
  rw [hz1] at hN1
  rw [hz2] at hN2
  rw [e1] at hN1 hS1 ⊢
  rw [e2] at hN2 hS2 ⊢
  have bx := sgN_bound d1
  have by_ := sgN_bound d2
  generalize sgN d1 = x at *
  generalize sgN d2 = y at *
  have hxy : (x != y) = true := by rw [bne_iff_ne]; omega
  have HN1 := Lib.hid hN1
  have HN2 := Lib.hid hN2
  have HS1 := Lib.hid hS1
  have HS2 := Lib.hid hS2
  clear hN1 hN2 hS1 hS2 hz1 hz2 e1 e2 n1 n2
  generalize d1.neg = s1 at *
  generalize d2.neg = s2 at *
  unfold val at *
  go_enter Try.func61, Try.ntmps61
  go_wp2_with fail
  refine (HN1.out _).mono ?_
  rintro e w1 ⟨rfl, hB⟩
  obtain ⟨hc, hf⟩ := bel_cells hB
  go_wp2_with fail
  refine (HN2.out _).mono ?_
  rintro e w2 ⟨rfl, hb1⟩
  replace hB := hB.trans (hb1.mono hB.size)
  clear hb1 hc hf
  obtain ⟨hc, hf⟩ := bel_cells hB
  go_wp2_with fail
  refine (HS1.out _).mono ?_
  rintro e w2 ⟨rfl, hb1⟩
  replace hB := hB.trans (hb1.mono hB.size)
  clear hb1 hc hf
  obtain ⟨hc, hf⟩ := bel_cells hB
  go_wp2_with fail
  refine (HS2.out _).mono ?_
  rintro e w2 ⟨rfl, hb1⟩
  replace hB := hB.trans (hb1.mono hB.size)
  clear hb1 hc hf
  obtain ⟨hc, hf⟩ := bel_cells hB
  go_wp2
  go_ret
  exact ⟨rfl, bel_two _ _ _ hB⟩

set_option maxHeartbeats 1000000 in
theorem stand_gt_z (d1 d2 : Datum) (n1 : d1.isNaN = false) (n2 : d2.isNaN = false) (hz1 : d1.isZero = true) (hz2 : d2.isZero = false) (hlt : sgN d2 < sgN d1) (w : World) :
    Calls Try.prog 61 #[encD d1, encD d2] w (Ret w (.int .u8 4)) := by
  obtain ⟨a0, a2, a3, e1, ha⟩ := encD_num d1 n1
  obtain ⟨b0, b2, b3, e2, hb⟩ := encD_num d2 n2
  have hN1 := fun W => isNought_any d1 W
  have hN2 := fun W => isNought_any d2 W
  have hS1 := fun W => signed_any d1 n1 W
  have hS2 := fun W => signed_any d2 n2 W
  rw [hz1] at hN1
  rw [hz2] at hN2
  rw [e1] at hN1 hS1 ⊢
  rw [e2] at hN2 hS2 ⊢
  have bx := sgN_bound d1
  have by_ := sgN_bound d2
  generalize sgN d1 = x at *
  generalize sgN d2 = y at *
  have hxy : (x != y) = true := by rw [bne_iff_ne]; omega
  have hnl : ¬ x < y := by omega
  have HN1 := Lib.hid hN1
  have HN2 := Lib.hid hN2
  have HS1 := Lib.hid hS1
  have HS2 := Lib.hid hS2
  clear hN1 hN2 hS1 hS2 hz1 hz2 e1 e2 n1 n2
  generalize d1.neg = s1 at *
  generalize d2.neg = s2 at *
  unfold val at *
  go_enter Try.func61, Try.ntmps61
  go_wp2_with fail
  refine (HN1.out _).mono ?_
  rintro e w1 ⟨rfl, hB⟩
  obtain ⟨hc, hf⟩ := bel_cells hB
  go_wp2_with fail
  refine (HN2.out _).mono ?_
  rintro e w2 ⟨rfl, hb1⟩
  replace hB := hB.trans (hb1.mono hB.size)
  clear hb1 hc hf
  obtain ⟨hc, hf⟩ := bel_cells hB
  go_wp2_with fail
  refine (HS1.out _).mono ?_
  rintro e w2 ⟨rfl, hb1⟩
  replace hB := hB.trans (hb1.mono hB.size)
  clear hb1 hc hf
  obtain ⟨hc, hf⟩ := bel_cells hB
  go_wp2_with fail
  refine (HS2.out _).mono ?_
  rintro e w2 ⟨rfl, hb1⟩
  replace hB := hB.trans (hb1.mono hB.size)
  clear hb1 hc hf
  obtain ⟨hc, hf⟩ := bel_cells hB
  go_wp2
  go_ret
  exact ⟨rfl, bel_two _ _ _ hB⟩

set_option maxHeartbeats 1000000 in
theorem stand_lt_n (d1 d2 : Datum) (n1 : d1.isNaN = false) (n2 : d2.isNaN = false) (hz1 : d1.isZero = false) (hlt : sgN d1 < sgN d2) (w : World) :
    Calls Try.prog 61 #[encD d1, encD d2] w (Ret w (.int .u8 2)) := by
  obtain ⟨a0, a2, a3, e1, ha⟩ := encD_num d1 n1
  obtain ⟨b0, b2, b3, e2, hb⟩ := encD_num d2 n2
  have hN1 := fun W => isNought_any d1 W
  have hN2 := fun W => isNought_any d2 W
  have hS1 := fun W => signed_any d1 n1 W
  have hS2 := fun W => signed_any d2 n2 W
  rw [hz1] at hN1
  
  rw [e1] at hN1 hS1 ⊢
  rw [e2] at hN2 hS2 ⊢
  have bx := sgN_bound d1
  have by_ := sgN_bound d2
  generalize sgN d1 = x at *
  generalize sgN d2 = y at *
  have hxy : (x != y) = true := by rw [bne_iff_ne]; omega
  have HN1 := Lib.hid hN1
  have HN2 := Lib.hid hN2
  have HS1 := Lib.hid hS1
  have HS2 := Lib.hid hS2
  clear hN1 hN2 hS1 hS2 hz1 e1 e2 n1 n2
  generalize d1.neg = s1 at *
  generalize d2.neg = s2 at *
  unfold val at *
  go_enter Try.func61, Try.ntmps61
  go_wp2_with fail
  refine (HN1.out _).mono ?_
  rintro e w1 ⟨rfl, hB⟩
  obtain ⟨hc, hf⟩ := bel_cells hB
  go_wp2_with fail
  refine (HS1.out _).mono ?_
  rintro e w2 ⟨rfl, hb1⟩
  replace hB := hB.trans (hb1.mono hB.size)
  clear hb1 hc hf
  obtain ⟨hc, hf⟩ := bel_cells hB
  go_wp2_with fail
  refine (HS2.out _).mono ?_
  rintro e w2 ⟨rfl, hb1⟩
  replace hB := hB.trans (hb1.mono hB.size)
  clear hb1 hc hf
  obtain ⟨hc, hf⟩ := bel_cells hB
  go_wp2
  go_ret
  exact ⟨rfl, bel_two _ _ _ hB⟩

set_option maxHeartbeats 1000000 in
theorem stand_gt_n (d1 d2 : Datum) (n1 : d1.isNaN = false) (n2 : d2.isNaN = false) (hz1 : d1.isZero = false) (hlt : sgN d2 < sgN d1) (w : World) :
    Calls Try.prog 61 #[encD d1, encD d2] w (Ret w (.int .u8 4)) := by
  obtain ⟨a0, a2, a3, e1, ha⟩ := encD_num d1 n1
  obtain ⟨b0, b2, b3, e2, hb⟩ := encD_num d2 n2
  have hN1 := fun W => isNought_any d1 W
  have hN2 := fun W => isNought_any d2 W
  have hS1 := fun W => signed_any d1 n1 W
  have hS2 := fun W => signed_any d2 n2 W
  rw [hz1] at hN1
  
  rw [e1] at hN1 hS1 ⊢
  rw [e2] at hN2 hS2 ⊢
  have bx := sgN_bound d1
  have by_ := sgN_bound d2
  generalize sgN d1 = x at *
  generalize sgN d2 = y at *
  have hxy : (x != y) = true := by rw [bne_iff_ne]; omega
  have hnl : ¬ x < y := by omega
  have HN1 := Lib.hid hN1
  have HN2 := Lib.hid hN2
  have HS1 := Lib.hid hS1
  have HS2 := Lib.hid hS2
  clear hN1 hN2 hS1 hS2 hz1 e1 e2 n1 n2
  generalize d1.neg = s1 at *
  generalize d2.neg = s2 at *
  unfold val at *
  go_enter Try.func61, Try.ntmps61
  go_wp2_with fail
  refine (HN1.out _).mono ?_
  rintro e w1 ⟨rfl, hB⟩
  obtain ⟨hc, hf⟩ := bel_cells hB
  go_wp2_with fail
  refine (HS1.out _).mono ?_
  rintro e w2 ⟨rfl, hb1⟩
  replace hB := hB.trans (hb1.mono hB.size)
  clear hb1 hc hf
  obtain ⟨hc, hf⟩ := bel_cells hB
  go_wp2_with fail
  refine (HS2.out _).mono ?_
  rintro e w2 ⟨rfl, hb1⟩
  replace hB := hB.trans (hb1.mono hB.size)
  clear hb1 hc hf
  obtain ⟨hc, hf⟩ := bel_cells hB
  go_wp2
  go_ret
  exact ⟨rfl, bel_two _ _ _ hB⟩

set_option maxHeartbeats 1000000 in
theorem stand_same_m_f (d1 d2 : Datum) (n1 : d1.isNaN = false) (n2 : d2.isNaN = false) (hz1 : d1.isZero = false) (hsame : sgN d1 = sgN d2) (hneg : d1.neg = false) (hbulk : ∀ W, Calls Try.prog 86 #[encD d1, encD d2] W (Ret W (.int .i64 (-1)))) (w : World) :
    Calls Try.prog 61 #[encD d1, encD d2] w (Ret w (.int .u8 2)) := by
  obtain ⟨a0, a2, a3, e1, ha⟩ := encD_num d1 n1
  obtain ⟨b0, b2, b3, e2, hb⟩ := encD_num d2 n2
  have hN1 := fun W => isNought_any d1 W
  have hN2 := fun W => isNought_any d2 W
  have hS1 := fun W => signed_any d1 n1 W
  have hS2 := fun W => signed_any d2 n2 W
  rw [hz1] at hN1
  
  rw [e1, e2] at hbulk
  rw [hneg] at e1 hbulk
  rw [e1] at hN1 hS1 ⊢
  rw [e2] at hN2 hS2 ⊢
  have bx := sgN_bound d1
  have by_ := sgN_bound d2
  rw [hsame] at hS1
  generalize sgN d1 = x at *
  generalize sgN d2 = y at *
  have HN1 := Lib.hid hN1
  have HN2 := Lib.hid hN2
  have HS1 := Lib.hid hS1
  have HS2 := Lib.hid hS2
  have HBK := Lib.hid hbulk
  clear hbulk hneg hsame
  clear hN1 hN2 hS1 hS2 hz1 e1 e2 n1 n2
  
  generalize d2.neg = s2 at *
  unfold val at *
  go_enter Try.func61, Try.ntmps61
  go_wp2_with fail
  refine (HN1.out _).mono ?_
  rintro e w1 ⟨rfl, hB⟩
  obtain ⟨hc, hf⟩ := bel_cells hB
  go_wp2_with fail
  refine (HS1.out _).mono ?_
  rintro e w2 ⟨rfl, hb1⟩
  replace hB := hB.trans (hb1.mono hB.size)
  clear hb1 hc hf
  obtain ⟨hc, hf⟩ := bel_cells hB
  go_wp2_with fail
  refine (HS2.out _).mono ?_
  rintro e w2 ⟨rfl, hb1⟩
  replace hB := hB.trans (hb1.mono hB.size)
  clear hb1 hc hf
  obtain ⟨hc, hf⟩ := bel_cells hB
  go_wp2_with fail
  refine (HBK.out _).mono ?_
  rintro e w2 ⟨rfl, hb1⟩
  replace hB := hB.trans (hb1.mono hB.size)
  clear hb1 hc hf
  obtain ⟨hc, hf⟩ := bel_cells hB
  go_wp2
  go_ret
  exact ⟨rfl, bel_two _ _ _ hB⟩

set_option maxHeartbeats 1000000 in
theorem stand_same_m_t (d1 d2 : Datum) (n1 : d1.isNaN = false) (n2 : d2.isNaN = false) (hz1 : d1.isZero = false) (hsame : sgN d1 = sgN d2) (hneg : d1.neg = true) (hbulk : ∀ W, Calls Try.prog 86 #[encD d1, encD d2] W (Ret W (.int .i64 (-1)))) (w : World) :
    Calls Try.prog 61 #[encD d1, encD d2] w (Ret w (.int .u8 4)) := by
  obtain ⟨a0, a2, a3, e1, ha⟩ := encD_num d1 n1
  obtain ⟨b0, b2, b3, e2, hb⟩ := encD_num d2 n2
  have hN1 := fun W => isNought_any d1 W
  have hN2 := fun W => isNought_any d2 W
  have hS1 := fun W => signed_any d1 n1 W
  have hS2 := fun W => signed_any d2 n2 W
  rw [hz1] at hN1
  
  rw [e1, e2] at hbulk
  rw [hneg] at e1 hbulk
  rw [e1] at hN1 hS1 ⊢
  rw [e2] at hN2 hS2 ⊢
  have bx := sgN_bound d1
  have by_ := sgN_bound d2
  rw [hsame] at hS1
  generalize sgN d1 = x at *
  generalize sgN d2 = y at *
  have HN1 := Lib.hid hN1
  have HN2 := Lib.hid hN2
  have HS1 := Lib.hid hS1
  have HS2 := Lib.hid hS2
  have HBK := Lib.hid hbulk
  clear hbulk hneg hsame
  clear hN1 hN2 hS1 hS2 hz1 e1 e2 n1 n2
  
  generalize d2.neg = s2 at *
  unfold val at *
  go_enter Try.func61, Try.ntmps61
  go_wp2_with fail
  refine (HN1.out _).mono ?_
  rintro e w1 ⟨rfl, hB⟩
  obtain ⟨hc, hf⟩ := bel_cells hB
  go_wp2_with fail
  refine (HS1.out _).mono ?_
  rintro e w2 ⟨rfl, hb1⟩
  replace hB := hB.trans (hb1.mono hB.size)
  clear hb1 hc hf
  obtain ⟨hc, hf⟩ := bel_cells hB
  go_wp2_with fail
  refine (HS2.out _).mono ?_
  rintro e w2 ⟨rfl, hb1⟩
  replace hB := hB.trans (hb1.mono hB.size)
  clear hb1 hc hf
  obtain ⟨hc, hf⟩ := bel_cells hB
  go_wp2_with fail
  refine (HBK.out _).mono ?_
  rintro e w2 ⟨rfl, hb1⟩
  replace hB := hB.trans (hb1.mono hB.size)
  clear hb1 hc hf
  obtain ⟨hc, hf⟩ := bel_cells hB
  go_wp2
  go_ret
  exact ⟨rfl, bel_two _ _ _ hB⟩

set_option maxHeartbeats 1000000 in
theorem stand_same_z_f (d1 d2 : Datum) (n1 : d1.isNaN = false) (n2 : d2.isNaN = false) (hz1 : d1.isZero = false) (hsame : sgN d1 = sgN d2) (hneg : d1.neg = false) (hbulk : ∀ W, Calls Try.prog 86 #[encD d1, encD d2] W (Ret W (.int .i64 (0)))) (w : World) :
    Calls Try.prog 61 #[encD d1, encD d2] w (Ret w (.int .u8 3)) := by
  obtain ⟨a0, a2, a3, e1, ha⟩ := encD_num d1 n1
  obtain ⟨b0, b2, b3, e2, hb⟩ := encD_num d2 n2
  have hN1 := fun W => isNought_any d1 W
  have hN2 := fun W => isNought_any d2 W
  have hS1 := fun W => signed_any d1 n1 W
  have hS2 := fun W => signed_any d2 n2 W
  rw [hz1] at hN1
  
  rw [e1, e2] at hbulk
  rw [hneg] at e1 hbulk
  rw [e1] at hN1 hS1 ⊢
  rw [e2] at hN2 hS2 ⊢
  have bx := sgN_bound d1
  have by_ := sgN_bound d2
  rw [hsame] at hS1
  generalize sgN d1 = x at *
  generalize sgN d2 = y at *
  have HN1 := Lib.hid hN1
  have HN2 := Lib.hid hN2
  have HS1 := Lib.hid hS1
  have HS2 := Lib.hid hS2
  have HBK := Lib.hid hbulk
  clear hbulk hneg hsame
  clear hN1 hN2 hS1 hS2 hz1 e1 e2 n1 n2
  
  generalize d2.neg = s2 at *
  unfold val at *
  go_enter Try.func61, Try.ntmps61
  go_wp2_with fail
  refine (HN1.out _).mono ?_
  rintro e w1 ⟨rfl, hB⟩
  obtain ⟨hc, hf⟩ := bel_cells hB
  go_wp2_with fail
  refine (HS1.out _).mono ?_
  rintro e w2 ⟨rfl, hb1⟩
  replace hB := hB.trans (hb1.mono hB.size)
  clear hb1 hc hf
  obtain ⟨hc, hf⟩ := bel_cells hB
  go_wp2_with fail
  refine (HS2.out _).mono ?_
  rintro e w2 ⟨rfl, hb1⟩
  replace hB := hB.trans (hb1.mono hB.size)
  clear hb1 hc hf
  obtain ⟨hc, hf⟩ := bel_cells hB
  go_wp2_with fail
  refine (HBK.out _).mono ?_
  rintro e w2 ⟨rfl, hb1⟩
  replace hB := hB.trans (hb1.mono hB.size)
  clear hb1 hc hf
  obtain ⟨hc, hf⟩ := bel_cells hB
  go_wp2
  go_ret
  exact ⟨rfl, bel_two _ _ _ hB⟩

set_option maxHeartbeats 1000000 in
theorem stand_same_z_t (d1 d2 : Datum) (n1 : d1.isNaN = false) (n2 : d2.isNaN = false) (hz1 : d1.isZero = false) (hsame : sgN d1 = sgN d2) (hneg : d1.neg = true) (hbulk : ∀ W, Calls Try.prog 86 #[encD d1, encD d2] W (Ret W (.int .i64 (0)))) (w : World) :
    Calls Try.prog 61 #[encD d1, encD d2] w (Ret w (.int .u8 3)) := by
  obtain ⟨a0, a2, a3, e1, ha⟩ := encD_num d1 n1
  obtain ⟨b0, b2, b3, e2, hb⟩ := encD_num d2 n2
  have hN1 := fun W => isNought_any d1 W
  have hN2 := fun W => isNought_any d2 W
  have hS1 := fun W => signed_any d1 n1 W
  have hS2 := fun W => signed_any d2 n2 W
  rw [hz1] at hN1
  
  rw [e1, e2] at hbulk
  rw [hneg] at e1 hbulk
  rw [e1] at hN1 hS1 ⊢
  rw [e2] at hN2 hS2 ⊢
  have bx := sgN_bound d1
  have by_ := sgN_bound d2
  rw [hsame] at hS1
  generalize sgN d1 = x at *
  generalize sgN d2 = y at *
  have HN1 := Lib.hid hN1
  have HN2 := Lib.hid hN2
  have HS1 := Lib.hid hS1
  have HS2 := Lib.hid hS2
  have HBK := Lib.hid hbulk
  clear hbulk hneg hsame
  clear hN1 hN2 hS1 hS2 hz1 e1 e2 n1 n2
  
  generalize d2.neg = s2 at *
  unfold val at *
  go_enter Try.func61, Try.ntmps61
  go_wp2_with fail
  refine (HN1.out _).mono ?_
  rintro e w1 ⟨rfl, hB⟩
  obtain ⟨hc, hf⟩ := bel_cells hB
  go_wp2_with fail
  refine (HS1.out _).mono ?_
  rintro e w2 ⟨rfl, hb1⟩
  replace hB := hB.trans (hb1.mono hB.size)
  clear hb1 hc hf
  obtain ⟨hc, hf⟩ := bel_cells hB
  go_wp2_with fail
  refine (HS2.out _).mono ?_
  rintro e w2 ⟨rfl, hb1⟩
  replace hB := hB.trans (hb1.mono hB.size)
  clear hb1 hc hf
  obtain ⟨hc, hf⟩ := bel_cells hB
  go_wp2_with fail
  refine (HBK.out _).mono ?_
  rintro e w2 ⟨rfl, hb1⟩
  replace hB := hB.trans (hb1.mono hB.size)
  clear hb1 hc hf
  obtain ⟨hc, hf⟩ := bel_cells hB
  go_wp2
  go_ret
  exact ⟨rfl, bel_two _ _ _ hB⟩

set_option maxHeartbeats 1000000 in
theorem stand_same_p_f (d1 d2 : Datum) (n1 : d1.isNaN = false) (n2 : d2.isNaN = false) (hz1 : d1.isZero = false) (hsame : sgN d1 = sgN d2) (hneg : d1.neg = false) (hbulk : ∀ W, Calls Try.prog 86 #[encD d1, encD d2] W (Ret W (.int .i64 (1)))) (w : World) :
    Calls Try.prog 61 #[encD d1, encD d2] w (Ret w (.int .u8 4)) := by
  obtain ⟨a0, a2, a3, e1, ha⟩ := encD_num d1 n1
  obtain ⟨b0, b2, b3, e2, hb⟩ := encD_num d2 n2
  have hN1 := fun W => isNought_any d1 W
  have hN2 := fun W => isNought_any d2 W
  have hS1 := fun W => signed_any d1 n1 W
  have hS2 := fun W => signed_any d2 n2 W
  rw [hz1] at hN1
  
  rw [e1, e2] at hbulk
  rw [hneg] at e1 hbulk
  rw [e1] at hN1 hS1 ⊢
  rw [e2] at hN2 hS2 ⊢
  have bx := sgN_bound d1
  have by_ := sgN_bound d2
  rw [hsame] at hS1
  generalize sgN d1 = x at *
  generalize sgN d2 = y at *
  have HN1 := Lib.hid hN1
  have HN2 := Lib.hid hN2
  have HS1 := Lib.hid hS1
  have HS2 := Lib.hid hS2
  have HBK := Lib.hid hbulk
  clear hbulk hneg hsame
  clear hN1 hN2 hS1 hS2 hz1 e1 e2 n1 n2
  
  generalize d2.neg = s2 at *
  unfold val at *
  go_enter Try.func61, Try.ntmps61
  go_wp2_with fail
  refine (HN1.out _).mono ?_
  rintro e w1 ⟨rfl, hB⟩
  obtain ⟨hc, hf⟩ := bel_cells hB
  go_wp2_with fail
  refine (HS1.out _).mono ?_
  rintro e w2 ⟨rfl, hb1⟩
  replace hB := hB.trans (hb1.mono hB.size)
  clear hb1 hc hf
  obtain ⟨hc, hf⟩ := bel_cells hB
  go_wp2_with fail
  refine (HS2.out _).mono ?_
  rintro e w2 ⟨rfl, hb1⟩
  replace hB := hB.trans (hb1.mono hB.size)
  clear hb1 hc hf
  obtain ⟨hc, hf⟩ := bel_cells hB
  go_wp2_with fail
  refine (HBK.out _).mono ?_
  rintro e w2 ⟨rfl, hb1⟩
  replace hB := hB.trans (hb1.mono hB.size)
  clear hb1 hc hf
  obtain ⟨hc, hf⟩ := bel_cells hB
  go_wp2
  go_ret
  exact ⟨rfl, bel_two _ _ _ hB⟩

set_option maxHeartbeats 1000000 in
theorem stand_same_p_t (d1 d2 : Datum) (n1 : d1.isNaN = false) (n2 : d2.isNaN = false) (hz1 : d1.isZero = false) (hsame : sgN d1 = sgN d2) (hneg : d1.neg = true) (hbulk : ∀ W, Calls Try.prog 86 #[encD d1, encD d2] W (Ret W (.int .i64 (1)))) (w : World) :
    Calls Try.prog 61 #[encD d1, encD d2] w (Ret w (.int .u8 2)) := by
  obtain ⟨a0, a2, a3, e1, ha⟩ := encD_num d1 n1
  obtain ⟨b0, b2, b3, e2, hb⟩ := encD_num d2 n2
  have hN1 := fun W => isNought_any d1 W
  have hN2 := fun W => isNought_any d2 W
  have hS1 := fun W => signed_any d1 n1 W
  have hS2 := fun W => signed_any d2 n2 W
  rw [hz1] at hN1
  
  rw [e1, e2] at hbulk
  rw [hneg] at e1 hbulk
  rw [e1] at hN1 hS1 ⊢
  rw [e2] at hN2 hS2 ⊢
  have bx := sgN_bound d1
  have by_ := sgN_bound d2
  rw [hsame] at hS1
  generalize sgN d1 = x at *
  generalize sgN d2 = y at *
  have HN1 := Lib.hid hN1
  have HN2 := Lib.hid hN2
  have HS1 := Lib.hid hS1
  have HS2 := Lib.hid hS2
  have HBK := Lib.hid hbulk
  clear hbulk hneg hsame
  clear hN1 hN2 hS1 hS2 hz1 e1 e2 n1 n2
  
  generalize d2.neg = s2 at *
  unfold val at *
  go_enter Try.func61, Try.ntmps61
  go_wp2_with fail
  refine (HN1.out _).mono ?_
  rintro e w1 ⟨rfl, hB⟩
  obtain ⟨hc, hf⟩ := bel_cells hB
  go_wp2_with fail
  refine (HS1.out _).mono ?_
  rintro e w2 ⟨rfl, hb1⟩
  replace hB := hB.trans (hb1.mono hB.size)
  clear hb1 hc hf
  obtain ⟨hc, hf⟩ := bel_cells hB
  go_wp2_with fail
  refine (HS2.out _).mono ?_
  rintro e w2 ⟨rfl, hb1⟩
  replace hB := hB.trans (hb1.mono hB.size)
  clear hb1 hc hf
  obtain ⟨hc, hf⟩ := bel_cells hB
  go_wp2_with fail
  refine (HBK.out _).mono ?_
  rintro e w2 ⟨rfl, hb1⟩
  replace hB := hB.trans (hb1.mono hB.size)
  clear hb1 hc hf
  obtain ⟨hc, hf⟩ := bel_cells hB
  go_wp2
  go_ret
  exact ⟨rfl, bel_two _ _ _ hB⟩

theorem bulk_any (d1 d2 : Datum) (h1 : Can d1) (h2 : Can d2) (n1 : d1.isNaN = false) (n2 : d2.isNaN = false) (hk : d1.isInfinity = d2.isInfinity) (w : World) : Calls Try.prog 86 #[encD d1, encD d2] w (Ret w (.int .i64 (bulkI d1 d2))) := by
  cases d1 with
  | nan _ _ => simp [Datum.isNaN] at n1
  | infinity s =>
    obtain ⟨t0, t1, t2, t3, he⟩ := encD_form d2
    rw [he]
    exact bulk_inf s t0 t1 t2 t3 w
  | number s m i =>
    cases d2 with
    | nan _ _ => simp [Datum.isNaN] at n2
    | infinity t => simp [Datum.isInfinity] at hk
    | number t n j =>
      obtain ⟨a1, a2, a3⟩ := h1
      obtain ⟨b1, b2, b3⟩ := h2
      by_cases hij : j < i
      · have e : min i j = j := by omega
        simp only [bulkI, e]
        exact bulk_lt s t m n _ _ i j a1 b1 a2 a3 b2 b3 hij rfl (by rw [Int.sub_self]) w
      · have e : min i j = i := by omega
        simp only [bulkI, e]
        exact bulk_ge s t m n _ _ i j a1 b1 a2 a3 b2 b3 hij (by rw [Int.sub_self]) rfl w

theorem sg_kind (d1 d2 : Datum) (n1 : d1.isNaN = false) (n2 : d2.isNaN = false) (h : sgN d1 = sgN d2) : d1.isInfinity = d2.isInfinity := by
  cases d1 with
  | nan _ _ => simp [Datum.isNaN] at n1
  | infinity s => cases d2 with
    | nan _ _ => simp [Datum.isNaN] at n2
    | infinity t => rfl
    | number t n q => exfalso; simp only [sgN] at h; split at h <;> split at h <;> (try split at h) <;> omega
  | number s m p => cases d2 with
    | nan _ _ => simp [Datum.isNaN] at n2
    | number t n q => rfl
    | infinity t => exfalso; simp only [sgN] at h; split at h <;> (try split at h) <;> (try split at h) <;> omega

theorem bulkI_cases (d1 d2 : Datum) : bulkI d1 d2 = -1 ∨ bulkI d1 d2 = 0 ∨ bulkI d1 d2 = 1 := by
  cases d1 with
  | number s m i => cases d2 with
    | number t n j =>
      show cmpI _ _ = -1 ∨ cmpI _ _ = 0 ∨ cmpI _ _ = 1
      rcases cmpI_cases (m * 2 ^ (i - min i j).toNat) (n * 2 ^ (j - min i j).toNat) with ⟨h, _⟩ | ⟨h, _⟩ | ⟨h, _⟩
      · exact .inl h
      · exact .inr (.inl h)
      · exact .inr (.inr h)
    | infinity _ => exact .inr (.inl rfl)
    | nan _ _ => exact .inr (.inl rfl)
  | infinity _ => exact .inr (.inl rfl)
  | nan _ _ => exact .inr (.inl rfl)

theorem stand_any (d1 d2 : Datum) (h1 : Can d1) (h2 : Can d2) (w : World) : Calls Try.prog 61 #[encD d1, encD d2] w (Ret w (.int .u8 (sideOf (d1.order d2) : Nat))) := by
  by_cases n1 : d1.isNaN = false
  · by_cases n2 : d2.isNaN = false
    · by_cases hz1 : d1.isZero = true
      · by_cases hz2 : d2.isZero = true
        · rw [zero_zero d1 d2 hz1 hz2]
          exact stand_both d1 d2 n1 n2 hz1 hz2 w
        · have hz2' : d2.isZero = false := by simpa using hz2
          rcases Int.lt_trichotomy (sgN d1) (sgN d2) with h | h | h
          · rw [sg_lt d1 d2 n1 n2 h]; exact stand_lt_z d1 d2 n1 n2 hz1 hz2' h w
          · exfalso
            exact hz2 (by
              have z1 : sgN d1 = 0 := by cases d1 with
                | number s m p => cases m with
                  | zero => rfl
                  | succ m => simp [Datum.isZero] at hz1
                | infinity _ => simp [Datum.isZero] at hz1
                | nan _ _ => simp [Datum.isZero] at hz1
              rw [z1] at h
              cases d2 with
              | number t n q => cases n with
                | zero => rfl
                | succ n => cases t <;> simp [sgN] at h
              | infinity t => cases t <;> simp [sgN] at h
              | nan _ _ => simp [Datum.isNaN] at n2)
          · rw [sg_gt d1 d2 n1 n2 h]; exact stand_gt_z d1 d2 n1 n2 hz1 hz2' h w
      · have hz1' : d1.isZero = false := by simpa using hz1
        rcases Int.lt_trichotomy (sgN d1) (sgN d2) with h | h | h
        · rw [sg_lt d1 d2 n1 n2 h]; exact stand_lt_n d1 d2 n1 n2 hz1' h w
        · have hb := fun W => bulk_any d1 d2 h1 h2 n1 n2 (sg_kind d1 d2 n1 n2 h) W
          rw [sg_same d1 d2 n1 n2 (fun hh => hz1 hh.1) h]
          rcases bulkI_cases d1 d2 with hc | hc | hc <;> rw [hc] at hb ⊢ <;> cases hn : d1.neg
          · exact stand_same_m_f d1 d2 n1 n2 hz1' h hn hb w
          · exact stand_same_m_t d1 d2 n1 n2 hz1' h hn hb w
          · exact stand_same_z_f d1 d2 n1 n2 hz1' h hn hb w
          · exact stand_same_z_t d1 d2 n1 n2 hz1' h hn hb w
          · exact stand_same_p_f d1 d2 n1 n2 hz1' h hn hb w
          · exact stand_same_p_t d1 d2 n1 n2 hz1' h hn hb w
        · rw [sg_gt d1 d2 n1 n2 h]; exact stand_gt_n d1 d2 n1 n2 hz1' h w
    · cases d2 with
      | number _ _ _ => simp [Datum.isNaN] at n2
      | infinity _ => simp [Datum.isNaN] at n2
      | nan t x =>
        obtain ⟨a0, a2, a3, e1, ha⟩ := encD_num d1 n1
        rw [e1]
        have hr : d1.order (.nan t x) = none := by cases d1 <;> rfl
        rw [hr]
        exact stand_nan_right a0 ha _ a2 a3 w
  · cases d1 with
    | number _ _ _ => simp [Datum.isNaN] at n1
    | infinity _ => simp [Datum.isNaN] at n1
    | nan t x =>
      obtain ⟨t0, t1, t2, t3, he⟩ := encD_form d2
      rw [he]
      have hr : Datum.order (.nan t x) d2 = none := by cases d2 <;> rfl
      rw [hr]
      exact stand_nan_left t0 t1 t2 t3 w

theorem Stands_any (a b : Int) (a0 : 0 ≤ a) (a1 : a ≤ 4294967295) (b0 : 0 ≤ b) (b1 : b ≤ 4294967295) (w : World) :
    Calls Try.prog 42 #[.int .u32 a, .int .u32 b] w (Ret w (.int .u8 (sideOf (single.order a.toNat b.toNat) : Nat))) := by
  go_enter Try.func42, Try.ntmps42
  go_wp2_with fail
  refine (take_any a a0 a1 _).mono ?_
  rintro e w2 ⟨rfl, hb2⟩
  go_wp2_with fail
  refine (take_any b b0 b1 _).mono ?_
  rintro e w3 ⟨rfl, hb3⟩
  go_wp2_with fail
  refine (stand_any _ _ (can_read _) (can_read _) _).mono ?_
  rintro e w4 ⟨rfl, hb4⟩
  go_wp2
  go_ret
  exact ⟨rfl, bs_step (bs_step hb2 hb3) hb4⟩
end Go.Proofs.Ytfgbjaejkfkmmaa
