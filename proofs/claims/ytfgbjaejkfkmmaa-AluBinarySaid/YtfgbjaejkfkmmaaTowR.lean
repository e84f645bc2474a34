/- Contract of the reference's Toward, way by way. -/
import Derived.Test.YtfgbjaejkfkmmaaTowB
import Derived.Test.YtfgbjaejkfkmmaaStandP
import Derived.Test.YtfgbjaejkfkmmaaSumP
import Derived.Test.YtfgbjaejkfkmmaaOf
namespace Go.Proofs.Ytfgbjaejkfkmmaa
open Go.RowKit Ieee

theorem low_is (v : Value) (n r : Nat) (w : World) (h : IsN w v n) (hr : n % 18446744073709551616 = r) :
    Calls Try.prog 59 #[v] w fun e w' => e = .returned (.int .u64 r) ∧ w = w' := hr ▸ low_any v n w h

set_option maxHeartbeats 1000000 in
theorem rtow_nan (a : Int) (hT : ∀ W, Calls Try.prog 58 #[.int .u32 a] W (Ret W (val 1 false 0 0))) (w : World) :
    Calls Try.prog 40 #[.int .u32 a] w (Ret w (.int .i32 (0))) := by
  unfold val at hT
  have HT := Lib.hid hT
  clear hT
  go_enter Try.func40, Try.ntmps40
  go_wp2_with fail
  refine (HT.out _).mono ?_
  rintro e w1 ⟨rfl, hb1⟩
  go_wp2
  go_ret
  refine ⟨rfl, ?_⟩
  repeat (first | exact Below.refl _ _ | refine bs_alloc ?_ _ | refine bs_drew ?_ | refine bs_drewN ?_ _ | (refine bs_step ?_ (by assumption)))

set_option maxHeartbeats 1000000 in
theorem rtow_inf_plus (a : Int) (hT : ∀ W, Calls Try.prog 58 #[.int .u32 a] W (Ret W (val 2 false 0 0))) (w : World) :
    Calls Try.prog 40 #[.int .u32 a] w (Ret w (.int .i32 (2147483647))) := by
  unfold val at hT
  have HT := Lib.hid hT
  clear hT
  go_enter Try.func40, Try.ntmps40
  go_wp2_with fail
  refine (HT.out _).mono ?_
  rintro e w1 ⟨rfl, hb1⟩
  go_wp2
  go_ret
  refine ⟨rfl, ?_⟩
  repeat (first | exact Below.refl _ _ | refine bs_alloc ?_ _ | refine bs_drew ?_ | refine bs_drewN ?_ _ | (refine bs_step ?_ (by assumption)))

set_option maxHeartbeats 1000000 in
theorem rtow_inf_minus (a : Int) (hT : ∀ W, Calls Try.prog 58 #[.int .u32 a] W (Ret W (val 2 true 0 0))) (w : World) :
    Calls Try.prog 40 #[.int .u32 a] w (Ret w (.int .i32 (-2147483648))) := by
  unfold val at hT
  have HT := Lib.hid hT
  clear hT
  go_enter Try.func40, Try.ntmps40
  go_wp2_with fail
  refine (HT.out _).mono ?_
  rintro e w1 ⟨rfl, hb1⟩
  go_wp2
  go_ret
  refine ⟨rfl, ?_⟩
  repeat (first | exact Below.refl _ _ | refine bs_alloc ?_ _ | refine bs_drew ?_ | refine bs_drewN ?_ _ | (refine bs_step ?_ (by assumption)))

set_option maxHeartbeats 1000000 in
theorem rtow_big_plus (a : Int) (m : Nat) (p : Int) (h8 : decide (p ≤ 8) = false) (hz : ((m : Int) == 0) = false) (hT : ∀ W, Calls Try.prog 58 #[.int .u32 a] W (Ret W (val 3 false m p))) (w : World) :
    Calls Try.prog 40 #[.int .u32 a] w (Ret w (.int .i32 (2147483647))) := by
  unfold val at hT
  have HT := Lib.hid hT
  clear hT
  go_enter Try.func40, Try.ntmps40
  go_wp2_with fail
  refine (HT.out _).mono ?_
  rintro e w1 ⟨rfl, hb1⟩
  go_wp2
  go_ret
  refine ⟨rfl, ?_⟩
  repeat (first | exact Below.refl _ _ | refine bs_alloc ?_ _ | refine bs_drew ?_ | refine bs_drewN ?_ _ | (refine bs_step ?_ (by assumption)))

set_option maxHeartbeats 1000000 in
theorem rtow_big_minus (a : Int) (m : Nat) (p : Int) (h8 : decide (p ≤ 8) = false) (hz : ((m : Int) == 0) = false) (hT : ∀ W, Calls Try.prog 58 #[.int .u32 a] W (Ret W (val 3 true m p))) (w : World) :
    Calls Try.prog 40 #[.int .u32 a] w (Ret w (.int .i32 (-2147483648))) := by
  unfold val at hT
  have HT := Lib.hid hT
  clear hT
  go_enter Try.func40, Try.ntmps40
  go_wp2_with fail
  refine (HT.out _).mono ?_
  rintro e w1 ⟨rfl, hb1⟩
  go_wp2
  go_ret
  refine ⟨rfl, ?_⟩
  repeat (first | exact Below.refl _ _ | refine bs_alloc ?_ _ | refine bs_drew ?_ | refine bs_drewN ?_ _ | (refine bs_step ?_ (by assumption)))

set_option maxHeartbeats 1000000 in
theorem rtow_up_plus_in (a : Int) (m T : Nat) (p : Int) (hp : 0 ≤ p) (hp2 : p ≤ 8) (hT0 : m * 2 ^ p.toNat = T) (hT2 : T ≤ 4294967296) (hz : ((m : Int) == 0) = false) (hm : m < 16777216) (ho : T ≤ 2147483647) (hT : ∀ W, Calls Try.prog 58 #[.int .u32 a] W (Ret W (val 3 false m p))) (w : World) :
    Calls Try.prog 40 #[.int .u32 a] w (Ret w (.int .i32 ((T : Int)))) := by
  have h8 : decide (p ≤ 8) = true := decide_eq_true hp2
  have h0 : decide (0 ≤ p) = true := decide_eq_true hp
  have hmw : IntKind.i64.wrap (m : Int) = m := IntWalk.i64_in _ (by omega)
  have hpu : IntKind.u64.wrap p = p := IntWalk.u64_in _ (by omega)
  have hsh : IntKind.i64.wrap ((m : Int) * 2 ^ p.toNat) = (T : Int) := by
    rw [show ((m : Int) * 2 ^ p.toNat) = ((m * 2 ^ p.toNat : Nat) : Int) from by push_cast; rfl, hT0]
    exact IntWalk.i64_in _ (by omega)
  have hg1 : decide ((2147483647 : Int) < (T : Int)) = false := decide_eq_false (by omega)
  have hg2 : decide ((T : Int) < (-2147483648 : Int)) = false := decide_eq_false (by omega)
  have hcv : IntKind.i32.wrap ((T : Int)) = (T : Int) := IntWalk.i32_in _ (by omega)
  unfold val at hT
  have HT := Lib.hid hT
  clear hT
  go_enter Try.func40, Try.ntmps40
  go_wp2_with fail
  refine (HT.out _).mono ?_
  rintro e w1 ⟨rfl, hb1⟩
  go_wp2
  go_ret
  refine ⟨rfl, ?_⟩
  repeat (first | exact Below.refl _ _ | refine bs_alloc ?_ _ | refine bs_drew ?_ | refine bs_drewN ?_ _ | (refine bs_step ?_ (by assumption)))

set_option maxHeartbeats 1000000 in
theorem rtow_up_plus_over (a : Int) (m T : Nat) (p : Int) (hp : 0 ≤ p) (hp2 : p ≤ 8) (hT0 : m * 2 ^ p.toNat = T) (hT2 : T ≤ 4294967296) (hz : ((m : Int) == 0) = false) (hm : m < 16777216) (ho : 2147483647 < T) (hT : ∀ W, Calls Try.prog 58 #[.int .u32 a] W (Ret W (val 3 false m p))) (w : World) :
    Calls Try.prog 40 #[.int .u32 a] w (Ret w (.int .i32 (2147483647))) := by
  have h8 : decide (p ≤ 8) = true := decide_eq_true hp2
  have h0 : decide (0 ≤ p) = true := decide_eq_true hp
  have hmw : IntKind.i64.wrap (m : Int) = m := IntWalk.i64_in _ (by omega)
  have hpu : IntKind.u64.wrap p = p := IntWalk.u64_in _ (by omega)
  have hsh : IntKind.i64.wrap ((m : Int) * 2 ^ p.toNat) = (T : Int) := by
    rw [show ((m : Int) * 2 ^ p.toNat) = ((m * 2 ^ p.toNat : Nat) : Int) from by push_cast; rfl, hT0]
    exact IntWalk.i64_in _ (by omega)
  have hg1 : decide ((2147483647 : Int) < (T : Int)) = true := decide_eq_true (by omega)
  unfold val at hT
  have HT := Lib.hid hT
  clear hT
  go_enter Try.func40, Try.ntmps40
  go_wp2_with fail
  refine (HT.out _).mono ?_
  rintro e w1 ⟨rfl, hb1⟩
  go_wp2
  go_ret
  refine ⟨rfl, ?_⟩
  repeat (first | exact Below.refl _ _ | refine bs_alloc ?_ _ | refine bs_drew ?_ | refine bs_drewN ?_ _ | (refine bs_step ?_ (by assumption)))

set_option maxHeartbeats 1000000 in
theorem rtow_up_minus_in (a : Int) (m T : Nat) (p : Int) (hp : 0 ≤ p) (hp2 : p ≤ 8) (hT0 : m * 2 ^ p.toNat = T) (hT2 : T ≤ 4294967296) (hz : ((m : Int) == 0) = false) (hm : m < 16777216) (ho : T ≤ 2147483648) (hT : ∀ W, Calls Try.prog 58 #[.int .u32 a] W (Ret W (val 3 true m p))) (w : World) :
    Calls Try.prog 40 #[.int .u32 a] w (Ret w (.int .i32 (-(T : Int)))) := by
  have h8 : decide (p ≤ 8) = true := decide_eq_true hp2
  have h0 : decide (0 ≤ p) = true := decide_eq_true hp
  have hmw : IntKind.i64.wrap (m : Int) = m := IntWalk.i64_in _ (by omega)
  have hpu : IntKind.u64.wrap p = p := IntWalk.u64_in _ (by omega)
  have hsh : IntKind.i64.wrap ((m : Int) * 2 ^ p.toNat) = (T : Int) := by
    rw [show ((m : Int) * 2 ^ p.toNat) = ((m * 2 ^ p.toNat : Nat) : Int) from by push_cast; rfl, hT0]
    exact IntWalk.i64_in _ (by omega)
  have hng : IntKind.i64.wrap (-(T : Int)) = -(T : Int) := IntWalk.i64_in _ (by omega)
  have hg1 : decide ((2147483647 : Int) < -(T : Int)) = false := decide_eq_false (by omega)
  have hg2 : decide (-(T : Int) < (-2147483648 : Int)) = false := decide_eq_false (by omega)
  have hcv : IntKind.i32.wrap (-(T : Int)) = -(T : Int) := IntWalk.i32_in _ (by omega)
  unfold val at hT
  have HT := Lib.hid hT
  clear hT
  go_enter Try.func40, Try.ntmps40
  go_wp2_with fail
  refine (HT.out _).mono ?_
  rintro e w1 ⟨rfl, hb1⟩
  go_wp2
  go_ret
  refine ⟨rfl, ?_⟩
  repeat (first | exact Below.refl _ _ | refine bs_alloc ?_ _ | refine bs_drew ?_ | refine bs_drewN ?_ _ | (refine bs_step ?_ (by assumption)))

set_option maxHeartbeats 1000000 in
theorem rtow_up_minus_over (a : Int) (m T : Nat) (p : Int) (hp : 0 ≤ p) (hp2 : p ≤ 8) (hT0 : m * 2 ^ p.toNat = T) (hT2 : T ≤ 4294967296) (hz : ((m : Int) == 0) = false) (hm : m < 16777216) (ho : 2147483648 < T) (hT : ∀ W, Calls Try.prog 58 #[.int .u32 a] W (Ret W (val 3 true m p))) (w : World) :
    Calls Try.prog 40 #[.int .u32 a] w (Ret w (.int .i32 (-2147483648))) := by
  have h8 : decide (p ≤ 8) = true := decide_eq_true hp2
  have h0 : decide (0 ≤ p) = true := decide_eq_true hp
  have hmw : IntKind.i64.wrap (m : Int) = m := IntWalk.i64_in _ (by omega)
  have hpu : IntKind.u64.wrap p = p := IntWalk.u64_in _ (by omega)
  have hsh : IntKind.i64.wrap ((m : Int) * 2 ^ p.toNat) = (T : Int) := by
    rw [show ((m : Int) * 2 ^ p.toNat) = ((m * 2 ^ p.toNat : Nat) : Int) from by push_cast; rfl, hT0]
    exact IntWalk.i64_in _ (by omega)
  have hng : IntKind.i64.wrap (-(T : Int)) = -(T : Int) := IntWalk.i64_in _ (by omega)
  have hg1 : decide ((2147483647 : Int) < -(T : Int)) = false := decide_eq_false (by omega)
  have hg2 : decide (-(T : Int) < (-2147483648 : Int)) = true := decide_eq_true (by omega)
  unfold val at hT
  have HT := Lib.hid hT
  clear hT
  go_enter Try.func40, Try.ntmps40
  go_wp2_with fail
  refine (HT.out _).mono ?_
  rintro e w1 ⟨rfl, hb1⟩
  go_wp2
  go_ret
  refine ⟨rfl, ?_⟩
  repeat (first | exact Below.refl _ _ | refine bs_alloc ?_ _ | refine bs_drew ?_ | refine bs_drewN ?_ _ | (refine bs_step ?_ (by assumption)))

set_option maxHeartbeats 1000000 in
theorem rtow_low_plus (a : Int) (m T : Nat) (p : Int) (hp : p < 0) (hp2 : -149 ≤ p) (hT0 : m / 2 ^ (-p).toNat = T) (hT2 : T ≤ 16777216) (hz : ((m : Int) == 0) = false) (hm : m < 16777216) (hT : ∀ W, Calls Try.prog 58 #[.int .u32 a] W (Ret W (val 3 false m p))) (w : World) :
    Calls Try.prog 40 #[.int .u32 a] w (Ret w (.int .i32 ((T : Int)))) := by
  have h8 : decide (p ≤ 8) = true := decide_eq_true (by omega)
  have h0 : decide (0 ≤ p) = false := decide_eq_false (by omega)
  have hnp : IntKind.i64.wrap (-p) = -p := IntWalk.i64_in _ (by omega)
  have htw : IntKind.i64.wrap (T : Int) = T := IntWalk.i64_in _ (by omega)
  have hbs : bsize m ≤ 100000 := Nat.le_trans (bsize_of_lt (k := 24) hm) (by omega)
  have HM := Lib.hid (show T % 18446744073709551616 = T from by omega)
  have HD := Lib.hid hT0
  have hg1 : decide ((2147483647 : Int) < (T : Int)) = false := decide_eq_false (by omega)
  have hg2 : decide ((T : Int) < (-2147483648 : Int)) = false := decide_eq_false (by omega)
  have hcv : IntKind.i32.wrap ((T : Int)) = (T : Int) := IntWalk.i32_in _ (by omega)
  clear hT0
  unfold val at hT
  have HT := Lib.hid hT
  clear hT
  go_enter Try.func40, Try.ntmps40
  go_wp2_with fail
  refine (HT.out _).mono ?_
  rintro e w1 ⟨rfl, hb1⟩
  go_wp2_with fail
  go_region_held3 (fun w' => w'.cell? ⟨w1.heap.size, 0, none⟩ = some (.int .u8 3) ∧ w'.cell? ⟨w1.heap.size, 1, none⟩ = some (.bool false) ∧ w'.cell? ⟨w1.heap.size, 2, none⟩ = some (.int .u64 m) ∧ w'.cell? ⟨w1.heap.size, 3, none⟩ = some (.int .i64 p))
    (first | (go_split_ands; (with_reducible (refine ⟨keepc hb1 ?_, keepc hb1 ?_, keepc hb1 ?_, keepc hb1 ?_⟩)); all_goals assumption) | go_keep)
    (first
      | (go_at_call 57; refine (nat_any m _ (by omega)).mono ?_; rintro e w2 ⟨v1, rfl, hv1, hb1⟩)
      | (go_at_call 60; refine (down_is _ m T _ _ (by first | assumption | exact IsN.below (by assumption) (by assumption)) hbs (by omega) (by omega) HD.out).mono ?_; rintro e w2 ⟨v2, rfl, hv2, hb1⟩)
      | (go_at_call 59; refine (low_is _ T T _ (by assumption) HM.out).mono ?_; rintro e w2 ⟨rfl, rfl⟩))
  go_wp2
  go_ret
  refine ⟨rfl, ?_⟩
  repeat (first | exact Below.refl _ _ | refine bs_alloc ?_ _ | refine bs_drew ?_ | refine bs_drewN ?_ _ | (refine bs_step ?_ (by assumption)))

set_option maxHeartbeats 1000000 in
theorem rtow_low_plus_zero (a : Int) (m T : Nat) (p : Int) (hp : p < 0) (hp2 : -149 ≤ p) (hT0 : m / 2 ^ (-p).toNat = T) (hT2 : T ≤ 16777216) (hz : ((m : Int) == 0) = true) (hm : m < 16777216) (hT : ∀ W, Calls Try.prog 58 #[.int .u32 a] W (Ret W (val 3 false m p))) (w : World) :
    Calls Try.prog 40 #[.int .u32 a] w (Ret w (.int .i32 (0))) := by
  have h8 : decide (p ≤ 8) = true := decide_eq_true (by omega)
  have h0 : decide (0 ≤ p) = false := decide_eq_false (by omega)
  have hnp : IntKind.i64.wrap (-p) = -p := IntWalk.i64_in _ (by omega)
  have htw : IntKind.i64.wrap (T : Int) = T := IntWalk.i64_in _ (by omega)
  have hbs : bsize m ≤ 100000 := Nat.le_trans (bsize_of_lt (k := 24) hm) (by omega)
  have HM := Lib.hid (show T % 18446744073709551616 = T from by omega)
  have HD := Lib.hid hT0
  clear hT0
  unfold val at hT
  have HT := Lib.hid hT
  clear hT
  go_enter Try.func40, Try.ntmps40
  go_wp2_with fail
  refine (HT.out _).mono ?_
  rintro e w1 ⟨rfl, hb1⟩
  go_wp2_with fail
  go_region_held3 (fun w' => w'.cell? ⟨w1.heap.size, 0, none⟩ = some (.int .u8 3) ∧ w'.cell? ⟨w1.heap.size, 1, none⟩ = some (.bool false) ∧ w'.cell? ⟨w1.heap.size, 2, none⟩ = some (.int .u64 m) ∧ w'.cell? ⟨w1.heap.size, 3, none⟩ = some (.int .i64 p))
    (first | (go_split_ands; (with_reducible (refine ⟨keepc hb1 ?_, keepc hb1 ?_, keepc hb1 ?_, keepc hb1 ?_⟩)); all_goals assumption) | go_keep)
    (first
      | (go_at_call 57; refine (nat_any m _ (by omega)).mono ?_; rintro e w2 ⟨v1, rfl, hv1, hb1⟩)
      | (go_at_call 60; refine (down_is _ m T _ _ (by first | assumption | exact IsN.below (by assumption) (by assumption)) hbs (by omega) (by omega) HD.out).mono ?_; rintro e w2 ⟨v2, rfl, hv2, hb1⟩)
      | (go_at_call 59; refine (low_is _ T T _ (by assumption) HM.out).mono ?_; rintro e w2 ⟨rfl, rfl⟩))
  go_wp2
  go_ret
  refine ⟨rfl, ?_⟩
  repeat (first | exact Below.refl _ _ | refine bs_alloc ?_ _ | refine bs_drew ?_ | refine bs_drewN ?_ _ | (refine bs_step ?_ (by assumption)))

set_option maxHeartbeats 1000000 in
theorem rtow_low_minus (a : Int) (m T : Nat) (p : Int) (hp : p < 0) (hp2 : -149 ≤ p) (hT0 : m / 2 ^ (-p).toNat = T) (hT2 : T ≤ 16777216) (hz : ((m : Int) == 0) = false) (hm : m < 16777216) (hT : ∀ W, Calls Try.prog 58 #[.int .u32 a] W (Ret W (val 3 true m p))) (w : World) :
    Calls Try.prog 40 #[.int .u32 a] w (Ret w (.int .i32 (-(T : Int)))) := by
  have h8 : decide (p ≤ 8) = true := decide_eq_true (by omega)
  have h0 : decide (0 ≤ p) = false := decide_eq_false (by omega)
  have hnp : IntKind.i64.wrap (-p) = -p := IntWalk.i64_in _ (by omega)
  have htw : IntKind.i64.wrap (T : Int) = T := IntWalk.i64_in _ (by omega)
  have hbs : bsize m ≤ 100000 := Nat.le_trans (bsize_of_lt (k := 24) hm) (by omega)
  have HM := Lib.hid (show T % 18446744073709551616 = T from by omega)
  have HD := Lib.hid hT0
  have hng : IntKind.i64.wrap (-(T : Int)) = -(T : Int) := IntWalk.i64_in _ (by omega)
  have hg1 : decide ((2147483647 : Int) < -(T : Int)) = false := decide_eq_false (by omega)
  have hg2 : decide (-(T : Int) < (-2147483648 : Int)) = false := decide_eq_false (by omega)
  have hcv : IntKind.i32.wrap (-(T : Int)) = -(T : Int) := IntWalk.i32_in _ (by omega)
  clear hT0
  unfold val at hT
  have HT := Lib.hid hT
  clear hT
  go_enter Try.func40, Try.ntmps40
  go_wp2_with fail
  refine (HT.out _).mono ?_
  rintro e w1 ⟨rfl, hb1⟩
  go_wp2_with fail
  go_region_held3 (fun w' => w'.cell? ⟨w1.heap.size, 0, none⟩ = some (.int .u8 3) ∧ w'.cell? ⟨w1.heap.size, 1, none⟩ = some (.bool true) ∧ w'.cell? ⟨w1.heap.size, 2, none⟩ = some (.int .u64 m) ∧ w'.cell? ⟨w1.heap.size, 3, none⟩ = some (.int .i64 p))
    (first | (go_split_ands; (with_reducible (refine ⟨keepc hb1 ?_, keepc hb1 ?_, keepc hb1 ?_, keepc hb1 ?_⟩)); all_goals assumption) | go_keep)
    (first
      | (go_at_call 57; refine (nat_any m _ (by omega)).mono ?_; rintro e w2 ⟨v1, rfl, hv1, hb1⟩)
      | (go_at_call 60; refine (down_is _ m T _ _ (by first | assumption | exact IsN.below (by assumption) (by assumption)) hbs (by omega) (by omega) HD.out).mono ?_; rintro e w2 ⟨v2, rfl, hv2, hb1⟩)
      | (go_at_call 59; refine (low_is _ T T _ (by assumption) HM.out).mono ?_; rintro e w2 ⟨rfl, rfl⟩))
  go_wp2
  go_ret
  refine ⟨rfl, ?_⟩
  repeat (first | exact Below.refl _ _ | refine bs_alloc ?_ _ | refine bs_drew ?_ | refine bs_drewN ?_ _ | (refine bs_step ?_ (by assumption)))

set_option maxHeartbeats 1000000 in
theorem rtow_low_minus_zero (a : Int) (m T : Nat) (p : Int) (hp : p < 0) (hp2 : -149 ≤ p) (hT0 : m / 2 ^ (-p).toNat = T) (hT2 : T ≤ 16777216) (hz : ((m : Int) == 0) = true) (hm : m < 16777216) (hT : ∀ W, Calls Try.prog 58 #[.int .u32 a] W (Ret W (val 3 true m p))) (w : World) :
    Calls Try.prog 40 #[.int .u32 a] w (Ret w (.int .i32 (0))) := by
  have h8 : decide (p ≤ 8) = true := decide_eq_true (by omega)
  have h0 : decide (0 ≤ p) = false := decide_eq_false (by omega)
  have hnp : IntKind.i64.wrap (-p) = -p := IntWalk.i64_in _ (by omega)
  have htw : IntKind.i64.wrap (T : Int) = T := IntWalk.i64_in _ (by omega)
  have hbs : bsize m ≤ 100000 := Nat.le_trans (bsize_of_lt (k := 24) hm) (by omega)
  have HM := Lib.hid (show T % 18446744073709551616 = T from by omega)
  have HD := Lib.hid hT0
  clear hT0
  unfold val at hT
  have HT := Lib.hid hT
  clear hT
  go_enter Try.func40, Try.ntmps40
  go_wp2_with fail
  refine (HT.out _).mono ?_
  rintro e w1 ⟨rfl, hb1⟩
  go_wp2_with fail
  go_region_held3 (fun w' => w'.cell? ⟨w1.heap.size, 0, none⟩ = some (.int .u8 3) ∧ w'.cell? ⟨w1.heap.size, 1, none⟩ = some (.bool true) ∧ w'.cell? ⟨w1.heap.size, 2, none⟩ = some (.int .u64 m) ∧ w'.cell? ⟨w1.heap.size, 3, none⟩ = some (.int .i64 p))
    (first | (go_split_ands; (with_reducible (refine ⟨keepc hb1 ?_, keepc hb1 ?_, keepc hb1 ?_, keepc hb1 ?_⟩)); all_goals assumption) | go_keep)
    (first
      | (go_at_call 57; refine (nat_any m _ (by omega)).mono ?_; rintro e w2 ⟨v1, rfl, hv1, hb1⟩)
      | (go_at_call 60; refine (down_is _ m T _ _ (by first | assumption | exact IsN.below (by assumption) (by assumption)) hbs (by omega) (by omega) HD.out).mono ?_; rintro e w2 ⟨v2, rfl, hv2, hb1⟩)
      | (go_at_call 59; refine (low_is _ T T _ (by assumption) HM.out).mono ?_; rintro e w2 ⟨rfl, rfl⟩))
  go_wp2
  go_ret
  refine ⟨rfl, ?_⟩
  repeat (first | exact Below.refl _ _ | refine bs_alloc ?_ _ | refine bs_drew ?_ | refine bs_drewN ?_ _ | (refine bs_step ?_ (by assumption)))

end Go.Proofs.Ytfgbjaejkfkmmaa
