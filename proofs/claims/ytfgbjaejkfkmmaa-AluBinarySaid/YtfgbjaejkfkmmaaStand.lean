/- Contracts of the reference's Stand and the program's. -/
import Derived.Test.YtfgbjaejkfkmmaaStandP
import Derived.Test.YtfgbjaejkfkmmaaWords
import Derived.Test.YtfgbjaejkfkmmaaStandB
namespace Go.Proofs.Ytfgbjaejkfkmmaa
open Go.RowKit Ieee

theorem signed_zero (s : Bool) (p : Int) (w : World) : Calls Try.prog 85 #[val 3 s 0 p] w (Ret w (.int .i64 (0))) := by
  unfold val
  go_enter Try.func85, Try.ntmps85
  go_wp2_with fail
  refine (isNought_any (.number s 0 p) _).mono ?_
  rintro e w1 ⟨rfl, hb1⟩
  obtain ⟨hc, hf⟩ := bel_cells hb1
  go_wp2
  go_ret
  exact ⟨rfl, bel_one _ _ hb1⟩

theorem signed_pos (n : Nat) (p : Int) (w : World) : Calls Try.prog 85 #[val 3 false (n + 1 : Nat) p] w (Ret w (.int .i64 (1))) := by
  unfold val
  go_enter Try.func85, Try.ntmps85
  go_wp2_with fail
  refine (isNought_any (.number false (n + 1) p) _).mono ?_
  rintro e w1 ⟨rfl, hb1⟩
  obtain ⟨hc, hf⟩ := bel_cells hb1
  go_wp2
  go_ret
  exact ⟨rfl, bel_one _ _ hb1⟩

theorem signed_minus (n : Nat) (p : Int) (w : World) : Calls Try.prog 85 #[val 3 true (n + 1 : Nat) p] w (Ret w (.int .i64 (-1))) := by
  unfold val
  go_enter Try.func85, Try.ntmps85
  go_wp2_with fail
  refine (isNought_any (.number true (n + 1) p) _).mono ?_
  rintro e w1 ⟨rfl, hb1⟩
  obtain ⟨hc, hf⟩ := bel_cells hb1
  go_wp2
  go_ret
  exact ⟨rfl, bel_one _ _ hb1⟩

theorem signed_inf  (w : World) : Calls Try.prog 85 #[val 2 false 0 0] w (Ret w (.int .i64 (2))) := by
  unfold val
  go_enter Try.func85, Try.ntmps85
  go_wp2_with fail
  refine (isNought_any (.infinity false) _).mono ?_
  rintro e w1 ⟨rfl, hb1⟩
  obtain ⟨hc, hf⟩ := bel_cells hb1
  go_wp2
  go_ret
  exact ⟨rfl, bel_one _ _ hb1⟩

theorem signed_infminus  (w : World) : Calls Try.prog 85 #[val 2 true 0 0] w (Ret w (.int .i64 (-2))) := by
  unfold val
  go_enter Try.func85, Try.ntmps85
  go_wp2_with fail
  refine (isNought_any (.infinity true) _).mono ?_
  rintro e w1 ⟨rfl, hb1⟩
  obtain ⟨hc, hf⟩ := bel_cells hb1
  go_wp2
  go_ret
  exact ⟨rfl, bel_one _ _ hb1⟩

theorem signed_any (d : Datum) (hd : d.isNaN = false) (w : World) : Calls Try.prog 85 #[encD d] w (Ret w (.int .i64 (sgN d))) := by
  cases d with
  | nan _ _ => simp [Datum.isNaN] at hd
  | infinity s => cases s
                  · exact signed_inf w
                  · exact signed_infminus w
  | number s m p => cases m with
    | zero => exact signed_zero s p w
    | succ m => cases s
                · exact signed_pos m p w
                · exact signed_minus m p w

theorem bulk_inf (s : Bool) (t0 : Int) (t1 : Bool) (t2 : Nat) (t3 : Int) (w : World) : Calls Try.prog 86 #[val 2 s 0 0, val t0 t1 t2 t3] w (Ret w (.int .i64 0)) := by
  unfold val
  go_enter Try.func86, Try.ntmps86
  go_wp2
  go_ret
  exact ⟨rfl, bs_alloc (bs_alloc (Below.refl _ _) _) _⟩

set_option maxHeartbeats 4000000 in
theorem bulk_lt (s t : Bool) (m n X Y : Nat) (i j : Int) (hm : m < 16777216) (hn : n < 16777216) (hi : -149 ≤ i) (hi2 : i ≤ 104) (hj : -149 ≤ j) (hj2 : j ≤ 104)
    (hij : j < i) (hX : m * 2 ^ (i - j).toNat = X) (hY : n * 2 ^ (0 : Int).toNat = Y) (w : World) :
    Calls Try.prog 86 #[val 3 s m i, val 3 t n j] w (Ret w (.int .i64 (cmpI X Y))) := by
  have bX : bsize X ≤ 300 := by rw [← hX]; have h1 := bsize_shift m ((i - j)).toNat; have h2 := bsize_of_lt (a := m) (k := 24) (by omega); omega
  have bm : bsize m ≤ 24 := bsize_of_lt (k := 24) (by omega)
  have bn : bsize n ≤ 24 := bsize_of_lt (k := 24) (by omega)
  obtain ⟨c, hc⟩ : ∃ c, cmpI X Y = c := ⟨_, rfl⟩
  rw [hc]
  have HC := Lib.hid hc
  have HX := Lib.hid hX
  have HY := Lib.hid hY
  have hz : IntKind.i64.wrap 0 = 0 := rfl
  have hsub : IntKind.i64.wrap (i - j) = i - j := IntWalk.i64_in _ (by omega)
  have hdif : i - j ≤ 1000 := by omega
  clear hX hY hc
  unfold val
  go_enter Try.func86, Try.ntmps86
  go_wp2_with fail
  have tok1 : True := trivial
  have tok2 : True := trivial
  go_region_held3 (fun w' => w'.cell? ⟨w.heap.size, 2, none⟩ = some (.int .u64 m) ∧ w'.cell? ⟨w.heap.size, 3, none⟩ = some (.int .i64 i) ∧ w'.cell? ⟨w.heap.size + 1, 2, none⟩ = some (.int .u64 n) ∧ w'.cell? ⟨w.heap.size + 1, 3, none⟩ = some (.int .i64 j)) (first | (go_split_ands; (with_reducible (refine ⟨keepc hb1 ?_, keepc hb1 ?_, keepc hb1 ?_, keepc hb1 ?_⟩)); all_goals assumption) | go_keep)
    (first
      | (go_at_call 57; have _t := tok1; refine (nat_any m _ (by omega)).mono ?_; rintro e w1 ⟨v1, rfl, hv1, hb1⟩; clear tok1 _t)
      | (go_at_call 75; have _t := tok2; refine (up_is _ m X _ _ hv1 (by omega) (by omega) (by omega) HX.out).mono ?_; rintro e w1 ⟨v1, rfl, hx, hb1⟩; clear tok2 _t hv1)
      | (go_at_call 57; refine (nat_any n _ (by omega)).mono ?_; rintro e w1 ⟨v1, rfl, hv1, hb1⟩; replace hx := hx.below hb1)
      | (go_at_call 75; refine (up_is _ n Y _ _ hv1 (by omega) (by omega) (by omega) HY.out).mono ?_; rintro e w1 ⟨v1, rfl, hy, hb1⟩; replace hx := hx.below hb1)
      | (go_at_call 80; refine (against_is _ _ X Y c _ hx hy (by omega) HC.out).mono ?_; rintro e _ ⟨rfl, n1, rfl⟩))
  go_wp2
  go_ret
  exact ⟨rfl, (by repeat (first | exact Below.refl _ _ | refine bs_alloc ?_ _ | refine bs_drew ?_ | refine bs_drewN ?_ _ | (refine bs_step ?_ (by assumption))))⟩

set_option maxHeartbeats 4000000 in
theorem bulk_ge (s t : Bool) (m n X Y : Nat) (i j : Int) (hm : m < 16777216) (hn : n < 16777216) (hi : -149 ≤ i) (hi2 : i ≤ 104) (hj : -149 ≤ j) (hj2 : j ≤ 104)
    (hij : ¬ j < i) (hX : m * 2 ^ (0 : Int).toNat = X) (hY : n * 2 ^ (j - i).toNat = Y) (w : World) :
    Calls Try.prog 86 #[val 3 s m i, val 3 t n j] w (Ret w (.int .i64 (cmpI X Y))) := by
  have bX : bsize X ≤ 300 := by rw [← hX]; have h1 := bsize_shift m ((0 : Int)).toNat; have h2 := bsize_of_lt (a := m) (k := 24) (by omega); omega
  have bm : bsize m ≤ 24 := bsize_of_lt (k := 24) (by omega)
  have bn : bsize n ≤ 24 := bsize_of_lt (k := 24) (by omega)
  obtain ⟨c, hc⟩ : ∃ c, cmpI X Y = c := ⟨_, rfl⟩
  rw [hc]
  have HC := Lib.hid hc
  have HX := Lib.hid hX
  have HY := Lib.hid hY
  have hz : IntKind.i64.wrap 0 = 0 := rfl
  have hsub : IntKind.i64.wrap (j - i) = j - i := IntWalk.i64_in _ (by omega)
  have hdif : j - i ≤ 1000 := by omega
  clear hX hY hc
  unfold val
  go_enter Try.func86, Try.ntmps86
  go_wp2_with fail
  have tok1 : True := trivial
  have tok2 : True := trivial
  go_region_held3 (fun w' => w'.cell? ⟨w.heap.size, 2, none⟩ = some (.int .u64 m) ∧ w'.cell? ⟨w.heap.size, 3, none⟩ = some (.int .i64 i) ∧ w'.cell? ⟨w.heap.size + 1, 2, none⟩ = some (.int .u64 n) ∧ w'.cell? ⟨w.heap.size + 1, 3, none⟩ = some (.int .i64 j)) (first | (go_split_ands; (with_reducible (refine ⟨keepc hb1 ?_, keepc hb1 ?_, keepc hb1 ?_, keepc hb1 ?_⟩)); all_goals assumption) | go_keep)
    (first
      | (go_at_call 57; have _t := tok1; refine (nat_any m _ (by omega)).mono ?_; rintro e w1 ⟨v1, rfl, hv1, hb1⟩; clear tok1 _t)
      | (go_at_call 75; have _t := tok2; refine (up_is _ m X _ _ hv1 (by omega) (by omega) (by omega) HX.out).mono ?_; rintro e w1 ⟨v1, rfl, hx, hb1⟩; clear tok2 _t hv1)
      | (go_at_call 57; refine (nat_any n _ (by omega)).mono ?_; rintro e w1 ⟨v1, rfl, hv1, hb1⟩; replace hx := hx.below hb1)
      | (go_at_call 75; refine (up_is _ n Y _ _ hv1 (by omega) (by omega) (by omega) HY.out).mono ?_; rintro e w1 ⟨v1, rfl, hy, hb1⟩; replace hx := hx.below hb1)
      | (go_at_call 80; refine (against_is _ _ X Y c _ hx hy (by omega) HC.out).mono ?_; rintro e _ ⟨rfl, n1, rfl⟩))
  go_wp2
  go_ret
  exact ⟨rfl, (by repeat (first | exact Below.refl _ _ | refine bs_alloc ?_ _ | refine bs_drew ?_ | refine bs_drewN ?_ _ | (refine bs_step ?_ (by assumption))))⟩
end Go.Proofs.Ytfgbjaejkfkmmaa
