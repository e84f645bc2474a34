/- Contract of the reference's Above, way by way. -/
import Derived.Test.YtdihbpfoalmlcaaStepR
namespace Go.Proofs.Ytdihbpfoalmlcaa
open Go.RowKit Ieee

set_option maxHeartbeats 1000000 in
theorem above_none (a : Int) (hT : ∀ W, Calls Try.prog 46 #[.int .u32 a] W (Ret W (val 1 false 0 0))) (w : World) :
    Calls Try.prog 23 #[.int .u32 a] w (Ret w (.int .u32 (wordD (.nan false 0) : Nat))) := by
  unfold val at hT
  have HT := Lib.hid hT
  clear hT
  go_enter Try.func23, Try.ntmps23
  go_wp2_with fail
  refine (HT.out _).mono ?_
  rintro e w1 ⟨rfl, hb1⟩
  go_wp2_with fail
  refine (lay_any (.nan false 0) trivial _).mono ?_
  rintro e w2 ⟨rfl, hb2⟩
  go_wp2
  go_ret
  refine ⟨rfl, ?_⟩
  repeat (first | exact Below.refl _ _ | refine bs_alloc ?_ _ | (refine bs_step ?_ (by assumption)))

set_option maxHeartbeats 1000000 in
theorem above_inf (a : Int) (hT : ∀ W, Calls Try.prog 46 #[.int .u32 a] W (Ret W (val 2 false 0 0))) (w : World) :
    Calls Try.prog 23 #[.int .u32 a] w (Ret w (.int .u32 (wordD (.infinity false) : Nat))) := by
  unfold val at hT
  have HT := Lib.hid hT
  clear hT
  go_enter Try.func23, Try.ntmps23
  go_wp2_with fail
  refine (HT.out _).mono ?_
  rintro e w1 ⟨rfl, hb1⟩
  go_wp2_with fail
  refine (lay_any (.infinity false) trivial _).mono ?_
  rintro e w2 ⟨rfl, hb2⟩
  go_wp2
  go_ret
  refine ⟨rfl, ?_⟩
  repeat (first | exact Below.refl _ _ | refine bs_alloc ?_ _ | (refine bs_step ?_ (by assumption)))

set_option maxHeartbeats 1000000 in
theorem above_short_inf (a : Int) (d d' : Datum) (n : Nat) (p : Int) (hd : encD d = val 2 true n p) (hz : d.isZero = false) (hd' : Can d')
    (hT : ∀ W, Calls Try.prog 46 #[.int .u32 a] W (Ret W (val 2 true n p)))
    (hS : ∀ W, Calls Try.prog 53 #[val 2 true n p] W (Ret W (encD d'))) (w : World) :
    Calls Try.prog 23 #[.int .u32 a] w (Ret w (.int .u32 (wordD d' : Nat))) := by
  have hN := fun W => isNought_any d W
  have hL := fun W => lay_any d' hd' W
  rw [hd, hz] at hN
  generalize wordD d' = x at *
  obtain ⟨t0, t1, t2, t3, he⟩ := encD_form d'
  rw [he] at hS hL
  unfold val at hT hN hS hL
  have HT := Lib.hid hT
  have HN := Lib.hid hN
  have HS := Lib.hid hS
  have HL := Lib.hid hL
  clear hT hN hS hL hd hz hd' he
  go_enter Try.func23, Try.ntmps23
  go_wp2_with fail
  refine (HT.out _).mono ?_
  rintro e w1 ⟨rfl, hb1⟩
  go_wp2_with fail
  refine (HN.out _).mono ?_
  rintro e w2 ⟨rfl, hB⟩
  obtain ⟨hc, hf⟩ := bel_cells hB
  go_wp2_with fail
  refine (HS.out _).mono ?_
  rintro e w3 ⟨rfl, hb3⟩
  go_wp2_with fail
  refine (HL.out _).mono ?_
  rintro e w4 ⟨rfl, hb4⟩
  go_wp2
  go_ret
  refine ⟨rfl, ?_⟩
  repeat (first | exact Below.refl _ _ | refine bs_alloc ?_ _ | (refine bs_step ?_ (by assumption)))

set_option maxHeartbeats 1000000 in
theorem above_short_num (a : Int) (d d' : Datum) (n : Nat) (p : Int) (hd : encD d = val 3 true n p) (hz : d.isZero = false) (hd' : Can d')
    (hT : ∀ W, Calls Try.prog 46 #[.int .u32 a] W (Ret W (val 3 true n p)))
    (hS : ∀ W, Calls Try.prog 53 #[val 3 true n p] W (Ret W (encD d'))) (w : World) :
    Calls Try.prog 23 #[.int .u32 a] w (Ret w (.int .u32 (wordD d' : Nat))) := by
  have hN := fun W => isNought_any d W
  have hL := fun W => lay_any d' hd' W
  rw [hd, hz] at hN
  generalize wordD d' = x at *
  obtain ⟨t0, t1, t2, t3, he⟩ := encD_form d'
  rw [he] at hS hL
  unfold val at hT hN hS hL
  have HT := Lib.hid hT
  have HN := Lib.hid hN
  have HS := Lib.hid hS
  have HL := Lib.hid hL
  clear hT hN hS hL hd hz hd' he
  go_enter Try.func23, Try.ntmps23
  go_wp2_with fail
  refine (HT.out _).mono ?_
  rintro e w1 ⟨rfl, hb1⟩
  go_wp2_with fail
  refine (HN.out _).mono ?_
  rintro e w2 ⟨rfl, hB⟩
  obtain ⟨hc, hf⟩ := bel_cells hB
  go_wp2_with fail
  refine (HS.out _).mono ?_
  rintro e w3 ⟨rfl, hb3⟩
  go_wp2_with fail
  refine (HL.out _).mono ?_
  rintro e w4 ⟨rfl, hb4⟩
  go_wp2
  go_ret
  refine ⟨rfl, ?_⟩
  repeat (first | exact Below.refl _ _ | refine bs_alloc ?_ _ | (refine bs_step ?_ (by assumption)))

set_option maxHeartbeats 1000000 in
theorem above_long (a : Int) (d' : Datum) (n : Nat) (p : Int) (hn : 0 < n) (hd' : Can d')
    (hT : ∀ W, Calls Try.prog 46 #[.int .u32 a] W (Ret W (val 3 false n p)))
    (hS : ∀ W, Calls Try.prog 54 #[val 3 false n p] W (Ret W (encD d'))) (w : World) :
    Calls Try.prog 23 #[.int .u32 a] w (Ret w (.int .u32 (wordD d' : Nat))) := by
  have hN := fun W => isNought_any (.number false n p) W
  have hL := fun W => lay_any d' hd' W
  rw [show (Datum.number false n p).isZero = false from by unfold Datum.isZero; cases n with | zero => omega | succ m => rfl] at hN
  unfold encD at hN
  generalize wordD d' = x at *
  obtain ⟨t0, t1, t2, t3, he⟩ := encD_form d'
  rw [he] at hS hL
  unfold val at hT hN hS hL
  have HT := Lib.hid hT
  have HN := Lib.hid hN
  have HS := Lib.hid hS
  have HL := Lib.hid hL
  clear hT hN hS hL hd' he
  go_enter Try.func23, Try.ntmps23
  go_wp2_with fail
  refine (HT.out _).mono ?_
  rintro e w1 ⟨rfl, hb1⟩
  go_wp2_with fail
  refine (HN.out _).mono ?_
  rintro e w2 ⟨rfl, hB⟩
  obtain ⟨hc, hf⟩ := bel_cells hB
  go_wp2_with fail
  refine (HS.out _).mono ?_
  rintro e w3 ⟨rfl, hb3⟩
  go_wp2_with fail
  refine (HL.out _).mono ?_
  rintro e w4 ⟨rfl, hb4⟩
  go_wp2
  go_ret
  refine ⟨rfl, ?_⟩
  repeat (first | exact Below.refl _ _ | refine bs_alloc ?_ _ | (refine bs_step ?_ (by assumption)))

set_option maxHeartbeats 1000000 in
theorem above_zero_plus (a : Int) (p : Int) (hp : -149 ≤ p ∧ p ≤ 104)
    (hT : ∀ W, Calls Try.prog 46 #[.int .u32 a] W (Ret W (val 3 false 0 p))) (w : World) :
    Calls Try.prog 23 #[.int .u32 a] w (Ret w (.int .u32 (wordD (.number false 1 p) : Nat))) := by
  have hN := fun W => isNought_any (.number false 0 p) W
  have hL := fun W => lay_any (.number false 1 p) ⟨by omega, hp⟩ W
  have hS := fun W => longer_low false 0 1 p rfl rfl (by decide) W
  rw [show (Datum.number false 0 p).isZero = true from rfl] at hN
  unfold encD at hN hL
  generalize wordD (.number false 1 p) = x at *
  unfold val at hT hN hS hL
  have HT := Lib.hid hT
  have HN := Lib.hid hN
  have HS := Lib.hid hS
  have HL := Lib.hid hL
  clear hT hN hS hL
  go_enter Try.func23, Try.ntmps23
  go_wp2_with fail
  refine (HT.out _).mono ?_
  rintro e w1 ⟨rfl, hb1⟩
  go_wp2_with fail
  refine (HN.out _).mono ?_
  rintro e w2 ⟨rfl, hB⟩
  obtain ⟨hc, hf⟩ := bel_cells hB
  go_wp2_with fail
  refine (HS.out _).mono ?_
  rintro e w3 ⟨rfl, hb3⟩
  go_wp2_with fail
  refine (HL.out _).mono ?_
  rintro e w4 ⟨rfl, hb4⟩
  go_wp2
  go_ret
  refine ⟨rfl, ?_⟩
  repeat (first | exact Below.refl _ _ | refine bs_alloc ?_ _ | (refine bs_set ?_ _ _ _ (by have := hb1.size; omega)) | (refine bs_step ?_ (by assumption)))

set_option maxHeartbeats 1000000 in
theorem above_zero_minus (a : Int) (p : Int) (hp : -149 ≤ p ∧ p ≤ 104)
    (hT : ∀ W, Calls Try.prog 46 #[.int .u32 a] W (Ret W (val 3 true 0 p))) (w : World) :
    Calls Try.prog 23 #[.int .u32 a] w (Ret w (.int .u32 (wordD (.number false 1 p) : Nat))) := by
  have hN := fun W => isNought_any (.number true 0 p) W
  have hL := fun W => lay_any (.number false 1 p) ⟨by omega, hp⟩ W
  have hS := fun W => longer_low false 0 1 p rfl rfl (by decide) W
  rw [show (Datum.number true 0 p).isZero = true from rfl] at hN
  unfold encD at hN hL
  generalize wordD (.number false 1 p) = x at *
  unfold val at hT hN hS hL
  have HT := Lib.hid hT
  have HN := Lib.hid hN
  have HS := Lib.hid hS
  have HL := Lib.hid hL
  clear hT hN hS hL
  go_enter Try.func23, Try.ntmps23
  go_wp2_with fail
  refine (HT.out _).mono ?_
  rintro e w1 ⟨rfl, hb1⟩
  go_wp2_with fail
  refine (HN.out _).mono ?_
  rintro e w2 ⟨rfl, hB⟩
  obtain ⟨hc, hf⟩ := bel_cells hB
  go_wp2_with fail
  refine (HN.out _).mono ?_
  rintro e w2 ⟨rfl, hb2⟩
  replace hB := hB.trans (hb2.mono hB.size)
  clear hb2 hc hf
  obtain ⟨hc, hf⟩ := bel_cells hB
  go_wp2_with fail
  refine (HS.out _).mono ?_
  rintro e w3 ⟨rfl, hb3⟩
  go_wp2_with fail
  refine (HL.out _).mono ?_
  rintro e w4 ⟨rfl, hb4⟩
  go_wp2
  go_ret
  refine ⟨rfl, ?_⟩
  repeat (first | exact Below.refl _ _ | refine bs_alloc ?_ _ | (refine bs_set ?_ _ _ _ (by have := hb1.size; omega)) | (refine bs_step ?_ (by assumption)))
end Go.Proofs.Ytdihbpfoalmlcaa
