/- Contract of the reference's Ratio, of two numbers (printed by a program of ours). -/
import Derived.Test.YtfgbjaejkfkmmaaRatio
namespace Go.Proofs.Ytfgbjaejkfkmmaa
open Go.RowKit Ieee

set_option maxHeartbeats 4000000 in
theorem ratio_num_true (s t : Bool) (m n q : Nat) (i j : Int) (hm : m < 16777216) (hn : n < 16777216) (hn0 : 0 < n) (hi : -149 ≤ i) (hi2 : i ≤ 104) (hj : -149 ≤ j) (hj2 : j ≤ 104)
    (hq : m * 2 ^ 128 / n = q) (hr : decide (0 < m * 2 ^ 128 % n) = true) (w : World) :
    Calls Try.prog 90 #[frm, val 3 s m i, val 3 t n j] w (Ret w (encD (single.read (single.nearest (!(s == t)) (2 * q + 1) (i - j - 128 - 1))))) := by
  obtain ⟨t0, t1, t2, t3, he⟩ := encD_form (single.read (single.nearest (!(s == t)) (2 * q + 1) (i - j - 128 - 1)))
  have bm : bsize m ≤ 24 := bsize_of_lt (k := 24) (by omega)
  have bn : bsize n ≤ 24 := bsize_of_lt (k := 24) (by omega)
  have bM : bsize (m * 2 ^ 128) ≤ 152 := by have := bsize_shift m 128; omega
  have bq : bsize q ≤ 152 := by have := bsize_mono (show q ≤ m * 2 ^ 128 by rw [← hq]; exact Nat.div_le_self _ _); omega
  have hround := fun v W (h : IsN W v q) => roundm_any (!(s == t)) v q (i - j - 128) W h (by omega) (by omega) (by omega)
  rw [he] at hround ⊢
  unfold val at hround
  have HR := Lib.hid hround
  have HU := Lib.hid (fun va W (ha : IsN W va m) => up_is va m (m * 2 ^ 128) 128 W ha (by omega) (by omega) (by omega) rfl)
  have HO := Lib.hid (fun va vb W (ha : IsN W va (m * 2 ^ 128)) (hb : IsN W vb n) => over_any va vb (m * 2 ^ 128) n W ha hb (by omega) (by omega) hn0)
  rw [hq, hr] at HO
  have hsub : IntKind.i64.wrap (i - j) = i - j := IntWalk.i64_in _ (by omega)
  have hsub2 : IntKind.i64.wrap (i - j - 128) = i - j - 128 := IntWalk.i64_in _ (by omega)
  have hzn : (Datum.number t n j).isZero = false := by
    obtain ⟨k, rfl⟩ : ∃ k, n = k + 1 := ⟨n - 1, by omega⟩
    rfl
  have HZ := Lib.hid (fun W => isNought_any (.number t n j) W)
  rw [hzn] at HZ
  clear hround he hzn hq hr bM bq
  have HM := Lib.hid (show m < 18446744073709551616 by omega)
  have HNN := Lib.hid (show n < 18446744073709551616 by omega)
  obtain ⟨M, hM⟩ : ∃ M, m * 2 ^ 128 = M := ⟨_, rfl⟩
  rw [hM] at HU HO
  clear hM
  unfold frm val
  go_enter Try.func90, Try.ntmps90
  go_wp2_with fail
  refine (HZ.out _).mono ?_
  rintro e w1 ⟨rfl, hB⟩
  have HB := Lib.hid hB
  obtain ⟨hc, hf⟩ := bel_cells hB
  have k0 : w1.cell? ⟨w.heap.size, 0, none⟩ = some (.int .i64 24) := by rw [hc _ _ (by first | (simp; done) | (simp; omega)), World.cell?_alloc_past _ _ _ (by first | (simp; done) | (simp; omega)), World.cell?_alloc_past _ _ _ (by first | (simp; done) | (simp; omega)), World.cell?_alloc_past _ _ _ (by first | (simp; done) | (simp; omega)), World.cell?_alloc_at _ _ _ _ (by first | (simp; done) | (simp; omega))]; rfl
  have k1 : w1.cell? ⟨w.heap.size, 1, none⟩ = some (.int .i64 (-149)) := by rw [hc _ _ (by first | (simp; done) | (simp; omega)), World.cell?_alloc_past _ _ _ (by first | (simp; done) | (simp; omega)), World.cell?_alloc_past _ _ _ (by first | (simp; done) | (simp; omega)), World.cell?_alloc_past _ _ _ (by first | (simp; done) | (simp; omega)), World.cell?_alloc_at _ _ _ _ (by first | (simp; done) | (simp; omega))]; rfl
  have k2 : w1.cell? ⟨w.heap.size, 2, none⟩ = some (.int .i64 104) := by rw [hc _ _ (by first | (simp; done) | (simp; omega)), World.cell?_alloc_past _ _ _ (by first | (simp; done) | (simp; omega)), World.cell?_alloc_past _ _ _ (by first | (simp; done) | (simp; omega)), World.cell?_alloc_past _ _ _ (by first | (simp; done) | (simp; omega)), World.cell?_alloc_at _ _ _ _ (by first | (simp; done) | (simp; omega))]; rfl
  have k3 : w1.cell? ⟨w.heap.size + 1, 2, none⟩ = some (.int .u64 m) := by rw [hc _ _ (by first | (simp; done) | (simp; omega)), World.cell?_alloc_past _ _ _ (by first | (simp; done) | (simp; omega)), World.cell?_alloc_past _ _ _ (by first | (simp; done) | (simp; omega)), World.cell?_alloc_at _ _ _ _ (by first | (simp; done) | (simp; omega))]; rfl
  have k4 : w1.cell? ⟨w.heap.size + 1, 3, none⟩ = some (.int .i64 i) := by rw [hc _ _ (by first | (simp; done) | (simp; omega)), World.cell?_alloc_past _ _ _ (by first | (simp; done) | (simp; omega)), World.cell?_alloc_past _ _ _ (by first | (simp; done) | (simp; omega)), World.cell?_alloc_at _ _ _ _ (by first | (simp; done) | (simp; omega))]; rfl
  have k5 : w1.cell? ⟨w.heap.size + 1 + 1, 2, none⟩ = some (.int .u64 n) := by rw [hc _ _ (by first | (simp; done) | (simp; omega)), World.cell?_alloc_past _ _ _ (by first | (simp; done) | (simp; omega)), World.cell?_alloc_at _ _ _ _ (by first | (simp; done) | (simp; omega))]; rfl
  have k6 : w1.cell? ⟨w.heap.size + 1 + 1, 3, none⟩ = some (.int .i64 j) := by rw [hc _ _ (by first | (simp; done) | (simp; omega)), World.cell?_alloc_past _ _ _ (by first | (simp; done) | (simp; omega)), World.cell?_alloc_at _ _ _ _ (by first | (simp; done) | (simp; omega))]; rfl
  obtain ⟨wz, rfl⟩ : ∃ wz : World, wz = w1 := ⟨_, rfl⟩
  clear hB hc hf
  go_wp2_with fail
  go_region_held3 (fun w' => w'.cell? ⟨w.heap.size, 0, none⟩ = some (.int .i64 24) ∧ w'.cell? ⟨w.heap.size, 1, none⟩ = some (.int .i64 (-149)) ∧ w'.cell? ⟨w.heap.size, 2, none⟩ = some (.int .i64 104) ∧ w'.cell? ⟨w.heap.size + 1, 2, none⟩ = some (.int .u64 m) ∧ w'.cell? ⟨w.heap.size + 1, 3, none⟩ = some (.int .i64 i) ∧ w'.cell? ⟨w.heap.size + 1 + 1, 2, none⟩ = some (.int .u64 n) ∧ w'.cell? ⟨w.heap.size + 1 + 1, 3, none⟩ = some (.int .i64 j)) (first | (go_split_ands; (with_reducible (refine ⟨keepc hb1 ?_, keepc hb1 ?_, keepc hb1 ?_, keepc hb1 ?_, keepc hb1 ?_, keepc hb1 ?_, keepc hb1 ?_⟩)); all_goals assumption) | go_keep)
    (first
      | (go_at_call 57; refine (nat_any _ _ (by omega)).mono ?_; rintro e w1 ⟨v1, rfl, hv1, hb1⟩)
      | (go_at_call 75; refine (HU.out _ _ (by first | assumption | exact IsN.below (by assumption) (by assumption))).mono ?_; rintro e w1 ⟨v1, rfl, hv1, hb1⟩)
      | (go_at_call 96; refine (HO.out _ _ _ (by first | assumption | exact IsN.below (by assumption) (by assumption)) (by first | assumption | exact IsN.below (by assumption) (by assumption))).mono ?_; rintro e w1 ⟨v1, rfl, hv1, hb1⟩))
  all_goals
    have hmm : Below wz.heap.size wz w1 := (by repeat (first | exact Below.refl _ _ | refine bs_alloc ?_ _ | refine bs_drew ?_ | refine bs_drewN ?_ _ | (refine bs_step ?_ (by assumption))))
    replace HB := Lib.hid (HB.out.trans (hmm.mono HB.out.size))
    clear hmm
    obtain ⟨hc, hf⟩ := bel_cells HB.out
    go_wp2_with fail
    refine (HR.out _ _ (by first | assumption | exact IsN.drewN (by assumption) _)).mono ?_
    rintro e w2 ⟨rfl, hb2⟩
    have hB := HB.out.trans (hb2.mono HB.out.size)
    clear hc hf
    obtain ⟨hc, hf⟩ := bel_cells hB
    go_wp2
    exact bodyPost_ret (v := val t0 t1 t2 t3) (by simp [results, Try.results90, go_sem, hc, val]) rfl ⟨rfl, bel_set4 (bel_four _ _ _ _ _ hB) (by omega) _ _ _ _⟩

set_option maxHeartbeats 4000000 in
theorem ratio_num_false (s t : Bool) (m n q : Nat) (i j : Int) (hm : m < 16777216) (hn : n < 16777216) (hn0 : 0 < n) (hi : -149 ≤ i) (hi2 : i ≤ 104) (hj : -149 ≤ j) (hj2 : j ≤ 104)
    (hq : m * 2 ^ 128 / n = q) (hr : decide (0 < m * 2 ^ 128 % n) = false) (w : World) :
    Calls Try.prog 90 #[frm, val 3 s m i, val 3 t n j] w (Ret w (encD (single.read (single.nearest (!(s == t)) q (i - j - 128))))) := by
  obtain ⟨t0, t1, t2, t3, he⟩ := encD_form (single.read (single.nearest (!(s == t)) q (i - j - 128)))
  have bm : bsize m ≤ 24 := bsize_of_lt (k := 24) (by omega)
  have bn : bsize n ≤ 24 := bsize_of_lt (k := 24) (by omega)
  have bM : bsize (m * 2 ^ 128) ≤ 152 := by have := bsize_shift m 128; omega
  have bq : bsize q ≤ 152 := by have := bsize_mono (show q ≤ m * 2 ^ 128 by rw [← hq]; exact Nat.div_le_self _ _); omega
  have hround := fun v W (h : IsN W v q) => rounded_any (!(s == t)) v q (i - j - 128) W h (by omega) (by omega) (by omega)
  rw [he] at hround ⊢
  unfold val at hround
  have HR := Lib.hid hround
  have HU := Lib.hid (fun va W (ha : IsN W va m) => up_is va m (m * 2 ^ 128) 128 W ha (by omega) (by omega) (by omega) rfl)
  have HO := Lib.hid (fun va vb W (ha : IsN W va (m * 2 ^ 128)) (hb : IsN W vb n) => over_any va vb (m * 2 ^ 128) n W ha hb (by omega) (by omega) hn0)
  rw [hq, hr] at HO
  have hsub : IntKind.i64.wrap (i - j) = i - j := IntWalk.i64_in _ (by omega)
  have hsub2 : IntKind.i64.wrap (i - j - 128) = i - j - 128 := IntWalk.i64_in _ (by omega)
  have hzn : (Datum.number t n j).isZero = false := by
    obtain ⟨k, rfl⟩ : ∃ k, n = k + 1 := ⟨n - 1, by omega⟩
    rfl
  have HZ := Lib.hid (fun W => isNought_any (.number t n j) W)
  rw [hzn] at HZ
  clear hround he hzn hq hr bM bq
  have HM := Lib.hid (show m < 18446744073709551616 by omega)
  have HNN := Lib.hid (show n < 18446744073709551616 by omega)
  obtain ⟨M, hM⟩ : ∃ M, m * 2 ^ 128 = M := ⟨_, rfl⟩
  rw [hM] at HU HO
  clear hM
  unfold frm val
  go_enter Try.func90, Try.ntmps90
  go_wp2_with fail
  refine (HZ.out _).mono ?_
  rintro e w1 ⟨rfl, hB⟩
  have HB := Lib.hid hB
  obtain ⟨hc, hf⟩ := bel_cells hB
  have k0 : w1.cell? ⟨w.heap.size, 0, none⟩ = some (.int .i64 24) := by rw [hc _ _ (by first | (simp; done) | (simp; omega)), World.cell?_alloc_past _ _ _ (by first | (simp; done) | (simp; omega)), World.cell?_alloc_past _ _ _ (by first | (simp; done) | (simp; omega)), World.cell?_alloc_past _ _ _ (by first | (simp; done) | (simp; omega)), World.cell?_alloc_at _ _ _ _ (by first | (simp; done) | (simp; omega))]; rfl
  have k1 : w1.cell? ⟨w.heap.size, 1, none⟩ = some (.int .i64 (-149)) := by rw [hc _ _ (by first | (simp; done) | (simp; omega)), World.cell?_alloc_past _ _ _ (by first | (simp; done) | (simp; omega)), World.cell?_alloc_past _ _ _ (by first | (simp; done) | (simp; omega)), World.cell?_alloc_past _ _ _ (by first | (simp; done) | (simp; omega)), World.cell?_alloc_at _ _ _ _ (by first | (simp; done) | (simp; omega))]; rfl
  have k2 : w1.cell? ⟨w.heap.size, 2, none⟩ = some (.int .i64 104) := by rw [hc _ _ (by first | (simp; done) | (simp; omega)), World.cell?_alloc_past _ _ _ (by first | (simp; done) | (simp; omega)), World.cell?_alloc_past _ _ _ (by first | (simp; done) | (simp; omega)), World.cell?_alloc_past _ _ _ (by first | (simp; done) | (simp; omega)), World.cell?_alloc_at _ _ _ _ (by first | (simp; done) | (simp; omega))]; rfl
  have k3 : w1.cell? ⟨w.heap.size + 1, 2, none⟩ = some (.int .u64 m) := by rw [hc _ _ (by first | (simp; done) | (simp; omega)), World.cell?_alloc_past _ _ _ (by first | (simp; done) | (simp; omega)), World.cell?_alloc_past _ _ _ (by first | (simp; done) | (simp; omega)), World.cell?_alloc_at _ _ _ _ (by first | (simp; done) | (simp; omega))]; rfl
  have k4 : w1.cell? ⟨w.heap.size + 1, 3, none⟩ = some (.int .i64 i) := by rw [hc _ _ (by first | (simp; done) | (simp; omega)), World.cell?_alloc_past _ _ _ (by first | (simp; done) | (simp; omega)), World.cell?_alloc_past _ _ _ (by first | (simp; done) | (simp; omega)), World.cell?_alloc_at _ _ _ _ (by first | (simp; done) | (simp; omega))]; rfl
  have k5 : w1.cell? ⟨w.heap.size + 1 + 1, 2, none⟩ = some (.int .u64 n) := by rw [hc _ _ (by first | (simp; done) | (simp; omega)), World.cell?_alloc_past _ _ _ (by first | (simp; done) | (simp; omega)), World.cell?_alloc_at _ _ _ _ (by first | (simp; done) | (simp; omega))]; rfl
  have k6 : w1.cell? ⟨w.heap.size + 1 + 1, 3, none⟩ = some (.int .i64 j) := by rw [hc _ _ (by first | (simp; done) | (simp; omega)), World.cell?_alloc_past _ _ _ (by first | (simp; done) | (simp; omega)), World.cell?_alloc_at _ _ _ _ (by first | (simp; done) | (simp; omega))]; rfl
  obtain ⟨wz, rfl⟩ : ∃ wz : World, wz = w1 := ⟨_, rfl⟩
  clear hB hc hf
  go_wp2_with fail
  go_region_held3 (fun w' => w'.cell? ⟨w.heap.size, 0, none⟩ = some (.int .i64 24) ∧ w'.cell? ⟨w.heap.size, 1, none⟩ = some (.int .i64 (-149)) ∧ w'.cell? ⟨w.heap.size, 2, none⟩ = some (.int .i64 104) ∧ w'.cell? ⟨w.heap.size + 1, 2, none⟩ = some (.int .u64 m) ∧ w'.cell? ⟨w.heap.size + 1, 3, none⟩ = some (.int .i64 i) ∧ w'.cell? ⟨w.heap.size + 1 + 1, 2, none⟩ = some (.int .u64 n) ∧ w'.cell? ⟨w.heap.size + 1 + 1, 3, none⟩ = some (.int .i64 j)) (first | (go_split_ands; (with_reducible (refine ⟨keepc hb1 ?_, keepc hb1 ?_, keepc hb1 ?_, keepc hb1 ?_, keepc hb1 ?_, keepc hb1 ?_, keepc hb1 ?_⟩)); all_goals assumption) | go_keep)
    (first
      | (go_at_call 57; refine (nat_any _ _ (by omega)).mono ?_; rintro e w1 ⟨v1, rfl, hv1, hb1⟩)
      | (go_at_call 75; refine (HU.out _ _ (by first | assumption | exact IsN.below (by assumption) (by assumption))).mono ?_; rintro e w1 ⟨v1, rfl, hv1, hb1⟩)
      | (go_at_call 96; refine (HO.out _ _ _ (by first | assumption | exact IsN.below (by assumption) (by assumption)) (by first | assumption | exact IsN.below (by assumption) (by assumption))).mono ?_; rintro e w1 ⟨v1, rfl, hv1, hb1⟩))
  all_goals
    have hmm : Below wz.heap.size wz w1 := (by repeat (first | exact Below.refl _ _ | refine bs_alloc ?_ _ | refine bs_drew ?_ | refine bs_drewN ?_ _ | (refine bs_step ?_ (by assumption))))
    replace HB := Lib.hid (HB.out.trans (hmm.mono HB.out.size))
    clear hmm
    obtain ⟨hc, hf⟩ := bel_cells HB.out
    go_wp2_with fail
    refine (HR.out _ _ (by first | assumption | exact IsN.drewN (by assumption) _)).mono ?_
    rintro e w2 ⟨rfl, hb2⟩
    have hB := HB.out.trans (hb2.mono HB.out.size)
    clear hc hf
    obtain ⟨hc, hf⟩ := bel_cells hB
    go_wp2
    exact bodyPost_ret (v := val t0 t1 t2 t3) (by simp [results, Try.results90, go_sem, hc, val]) rfl ⟨rfl, bel_set4 (bel_four _ _ _ _ _ hB) (by omega) _ _ _ _⟩
end Go.Proofs.Ytfgbjaejkfkmmaa
