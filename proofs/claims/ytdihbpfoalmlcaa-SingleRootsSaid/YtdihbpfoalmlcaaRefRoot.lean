/- Contract of the reference's Root and Roots (printed by a program of ours). -/
import Derived.Test.YtdihbpfoalmlcaaRoundM2
import Derived.Test.YtdihbpfoalmlcaaNat8
import Derived.Test.YtdihbpfoalmlcaaWords
import Derived.Test.YtdihbpfoalmlcaaRootP
namespace Go.Proofs.Ytdihbpfoalmlcaa
open Go.RowKit Ieee
set_option linter.unusedSimpArgs false

theorem bel_three (w : World) (o1 o2 o3 : Obj) {w1 : World} (h : Below (((w.alloc o1).alloc o2).alloc o3).heap.size (((w.alloc o1).alloc o2).alloc o3) w1) : Below w.heap.size w w1 :=
  bs_step (bs_alloc (bs_alloc (bs_alloc (Below.refl _ _) _) _) _) h

set_option maxHeartbeats 1000000 in
theorem root_nan  (w : World) : Calls Try.prog 63 #[frm, val 1 false 0 0] w (Ret w (val 1 false 0 0)) := by
  unfold frm val
  go_enter Try.func63, Try.ntmps63
  go_wp2_with fail
  refine (isNought_any (.nan false 0) _).mono ?_
  rintro e w1 ⟨rfl, hB⟩
  obtain ⟨hc, hf⟩ := bel_cells hB
  try unfold val
  go_wp2
  exact bodyPost_ret (v := val 1 false 0 0) (by simp [results, Try.results63, go_sem, hc, val]) rfl ⟨rfl, bel_set4 (bel_three _ _ _ _ hB) (by first | (simp; done) | (simp; omega) | omega) _ _ _ _⟩

set_option maxHeartbeats 1000000 in
theorem root_zero (s : Bool) (p : Int) (w : World) : Calls Try.prog 63 #[frm, val 3 s 0 p] w (Ret w (val 3 s 0 p)) := by
  unfold frm val
  go_enter Try.func63, Try.ntmps63
  go_wp2_with fail
  refine (isNought_any (.number s 0 p) _).mono ?_
  rintro e w1 ⟨rfl, hB⟩
  obtain ⟨hc, hf⟩ := bel_cells hB
  try unfold val
  go_wp2
  exact bodyPost_ret (v := val 3 s 0 p) (by simp [results, Try.results63, go_sem, hc, val]) rfl ⟨rfl, bel_set4 (bel_three _ _ _ _ hB) (by first | (simp; done) | (simp; omega) | omega) _ _ _ _⟩

set_option maxHeartbeats 1000000 in
theorem root_minf  (w : World) : Calls Try.prog 63 #[frm, val 2 true 0 0] w (Ret w (val 1 false 0 0)) := by
  unfold frm val
  go_enter Try.func63, Try.ntmps63
  go_wp2_with fail
  refine (isNought_any (.infinity true) _).mono ?_
  rintro e w1 ⟨rfl, hB⟩
  obtain ⟨hc, hf⟩ := bel_cells hB
  go_wp2_with fail
  refine (none_any _).mono ?_
  rintro e w2 ⟨rfl, hb⟩
  replace hB := hB.trans (hb.mono hB.size)
  clear hb hc hf
  obtain ⟨hc, hf⟩ := bel_cells hB
  try unfold val
  go_wp2
  exact bodyPost_ret (v := val 1 false 0 0) (by simp [results, Try.results63, go_sem, hc, val]) rfl ⟨rfl, bel_set4 (bel_three _ _ _ _ hB) (by first | (simp; done) | (simp; omega) | omega) _ _ _ _⟩

set_option maxHeartbeats 1000000 in
theorem root_minus (n : Nat) (p : Int) (w : World) : Calls Try.prog 63 #[frm, val 3 true (n + 1 : Nat) p] w (Ret w (val 1 false 0 0)) := by
  unfold frm val
  go_enter Try.func63, Try.ntmps63
  go_wp2_with fail
  refine (isNought_any (.number true (n + 1) p) _).mono ?_
  rintro e w1 ⟨rfl, hB⟩
  obtain ⟨hc, hf⟩ := bel_cells hB
  go_wp2_with fail
  refine (none_any _).mono ?_
  rintro e w2 ⟨rfl, hb⟩
  replace hB := hB.trans (hb.mono hB.size)
  clear hb hc hf
  obtain ⟨hc, hf⟩ := bel_cells hB
  try unfold val
  go_wp2
  exact bodyPost_ret (v := val 1 false 0 0) (by simp [results, Try.results63, go_sem, hc, val]) rfl ⟨rfl, bel_set4 (bel_three _ _ _ _ hB) (by first | (simp; done) | (simp; omega) | omega) _ _ _ _⟩

set_option maxHeartbeats 1000000 in
theorem root_inf  (w : World) : Calls Try.prog 63 #[frm, val 2 false 0 0] w (Ret w (val 2 false 0 0)) := by
  unfold frm val
  go_enter Try.func63, Try.ntmps63
  go_wp2_with fail
  refine (isNought_any (.infinity false) _).mono ?_
  rintro e w1 ⟨rfl, hB⟩
  obtain ⟨hc, hf⟩ := bel_cells hB
  try unfold val
  go_wp2
  exact bodyPost_ret (v := val 2 false 0 0) (by simp [results, Try.results63, go_sem, hc, val]) rfl ⟨rfl, bel_set4 (bel_three _ _ _ _ hB) (by first | (simp; done) | (simp; omega) | omega) _ _ _ _⟩

set_option maxHeartbeats 4000000 in
theorem root_num_128_true (m q : Nat) (i e : Int) (hm : m < 16777216) (hm0 : 0 < m) (hi : -149 ≤ i) (hi2 : i ≤ 104) (he : i - 128 = 2 * e) (hpar : i % 2 = 0)
    (h1 : q * q ≤ m * 2 ^ 128) (h2 : m * 2 ^ 128 < (q + 1) * (q + 1)) (hr : (!(q * q == m * 2 ^ 128)) = true) (w : World) :
    Calls Try.prog 63 #[frm, val 3 false m i] w (Ret w (encD (single.read (single.nearest false (2 * q + 1) (e - 1))))) := by
  obtain ⟨t0, t1, t2, t3, hee⟩ := encD_form (single.read (single.nearest false (2 * q + 1) (e - 1)))
  have bm : bsize m ≤ 24 := bsize_of_lt (k := 24) (by omega)
  have bM : bsize (m * 2 ^ 128) ≤ 200 := by have := bsize_shift m 128; omega
  have bq : bsize q ≤ 200 := by have := bsize_mono (sq_le h1); omega
  have hround := fun v W (h : IsN W v q) => roundm_any false v q e W h (by omega) (by omega) (by omega)
  rw [hee] at hround ⊢
  unfold val at hround
  have HR := Lib.hid hround
  have HU := Lib.hid (fun va W (ha : IsN W va m) => up_is va m (m * 2 ^ 128) 128 W ha (by omega) (by omega) (by omega) rfl)
  have HO := Lib.hid (fun va W (ha : IsN W va (m * 2 ^ 128)) => root_any va (m * 2 ^ 128) q W ha (by omega) h1 h2)
  rw [hr] at HO
  have hsub : IntKind.i64.wrap (i - 128) = i - 128 := IntWalk.i64_in _ (by omega)
  have hsub2 : IntKind.i64.wrap (i - 128) = i - 128 := IntWalk.i64_in _ (by omega)
  have hmod : (i - 128).tmod 2 = 0 := by
    rw [Int.tmod_eq_emod]
    rw [if_pos (by omega)]; omega
  have hdiv : (i - 128).tdiv 2 = e := by rw [he, Int.mul_comm]; exact Int.mul_tdiv_cancel _ (by omega)
  have hwe : IntKind.i64.wrap e = e := IntWalk.i64_in _ (by omega)
  have hzn : (Datum.number false m i).isZero = false := by
    obtain ⟨k, rfl⟩ : ∃ k, m = k + 1 := ⟨m - 1, by omega⟩
    rfl
  have HZ := Lib.hid (fun W => isNought_any (.number false m i) W)
  rw [hzn] at HZ
  clear hround hee hzn hr bM bq h1 h2 he hpar
  obtain ⟨M, hM⟩ : ∃ M, m * 2 ^ 128 = M := ⟨_, rfl⟩
  rw [hM] at HU HO
  clear hM
  unfold frm val
  go_enter Try.func63, Try.ntmps63
  go_wp2_with fail
  refine (HZ.out _).mono ?_
  rintro e' w1 ⟨rfl, hB⟩
  have HB := Lib.hid hB
  obtain ⟨hc, hf⟩ := bel_cells hB
  have k0 : w1.cell? ⟨w.heap.size, 0, none⟩ = some (.int .i64 24) := by rw [hc _ _ (by first | (simp; done) | (simp; omega)), World.cell?_alloc_past _ _ _ (by first | (simp; done) | (simp; omega)), World.cell?_alloc_past _ _ _ (by first | (simp; done) | (simp; omega)), World.cell?_alloc_at _ _ _ _ (by first | (simp; done) | (simp; omega))]; rfl
  have k1 : w1.cell? ⟨w.heap.size, 1, none⟩ = some (.int .i64 (-149)) := by rw [hc _ _ (by first | (simp; done) | (simp; omega)), World.cell?_alloc_past _ _ _ (by first | (simp; done) | (simp; omega)), World.cell?_alloc_past _ _ _ (by first | (simp; done) | (simp; omega)), World.cell?_alloc_at _ _ _ _ (by first | (simp; done) | (simp; omega))]; rfl
  have k2 : w1.cell? ⟨w.heap.size, 2, none⟩ = some (.int .i64 104) := by rw [hc _ _ (by first | (simp; done) | (simp; omega)), World.cell?_alloc_past _ _ _ (by first | (simp; done) | (simp; omega)), World.cell?_alloc_past _ _ _ (by first | (simp; done) | (simp; omega)), World.cell?_alloc_at _ _ _ _ (by first | (simp; done) | (simp; omega))]; rfl
  have k3 : w1.cell? ⟨w.heap.size + 1, 2, none⟩ = some (.int .u64 m) := by rw [hc _ _ (by first | (simp; done) | (simp; omega)), World.cell?_alloc_past _ _ _ (by first | (simp; done) | (simp; omega)), World.cell?_alloc_at _ _ _ _ (by first | (simp; done) | (simp; omega))]; rfl
  have k4 : w1.cell? ⟨w.heap.size + 1, 3, none⟩ = some (.int .i64 i) := by rw [hc _ _ (by first | (simp; done) | (simp; omega)), World.cell?_alloc_past _ _ _ (by first | (simp; done) | (simp; omega)), World.cell?_alloc_at _ _ _ _ (by first | (simp; done) | (simp; omega))]; rfl
  have k5 : w1.cell? ⟨w.heap.size + 1, 1, none⟩ = some (.bool false) := by rw [hc _ _ (by first | (simp; done) | (simp; omega)), World.cell?_alloc_past _ _ _ (by first | (simp; done) | (simp; omega)), World.cell?_alloc_at _ _ _ _ (by first | (simp; done) | (simp; omega))]; rfl
  have k6 : w1.cell? ⟨w.heap.size + 1, 0, none⟩ = some (.int .u8 3) := by rw [hc _ _ (by first | (simp; done) | (simp; omega)), World.cell?_alloc_past _ _ _ (by first | (simp; done) | (simp; omega)), World.cell?_alloc_at _ _ _ _ (by first | (simp; done) | (simp; omega))]; rfl
  obtain ⟨wz, rfl⟩ : ∃ wz : World, wz = w1 := ⟨_, rfl⟩
  clear hB hc hf
  go_wp2_with (first
    | (go_at_call 56; refine (nat_any _ _ (by omega)).mono ?_; rintro e' w1 ⟨v1, rfl, hv1, hb1⟩)
    | (go_at_call 73; refine (HU.out _ _ (by first | assumption | exact IsN.below (by assumption) (by assumption))).mono ?_; rintro e' w2 ⟨v2, rfl, hv2, hb2⟩)
    | (go_at_call 84; refine (HO.out _ _ (by first | assumption | exact IsN.below (by assumption) (by assumption))).mono ?_; rintro e' w3 ⟨v3, rfl, hv3, hb3⟩; have hmm : Below wz.heap.size wz w3 := (by repeat (first | exact Below.refl _ _ | refine bs_drew ?_ | refine bs_drewN ?_ _ | (refine bs_step ?_ (by assumption)))); replace HB := Lib.hid (HB.out.trans (hmm.mono HB.out.size)); clear hmm k0 k1 k2 k3 k4 k5 k6; obtain ⟨hc, hf⟩ := bel_cells HB.out)
    | (go_at_call 55; refine (HR.out _ _ (by first | assumption | exact IsN.drewN (by assumption) _)).mono ?_; rintro e' w4 ⟨rfl, hb4⟩; have hB := HB.out.trans (hb4.mono HB.out.size); clear hc hf; obtain ⟨hc, hf⟩ := bel_cells hB))
  exact bodyPost_ret (v := val t0 t1 t2 t3) (by simp [results, Try.results63, go_sem, hc, val]) rfl ⟨rfl, bel_set4 (bel_three _ _ _ _ hB) (by first | (simp; done) | (simp; omega) | omega) _ _ _ _⟩

set_option maxHeartbeats 4000000 in
theorem root_num_128_false (m q : Nat) (i e : Int) (hm : m < 16777216) (hm0 : 0 < m) (hi : -149 ≤ i) (hi2 : i ≤ 104) (he : i - 128 = 2 * e) (hpar : i % 2 = 0)
    (h1 : q * q ≤ m * 2 ^ 128) (h2 : m * 2 ^ 128 < (q + 1) * (q + 1)) (hr : (!(q * q == m * 2 ^ 128)) = false) (w : World) :
    Calls Try.prog 63 #[frm, val 3 false m i] w (Ret w (encD (single.read (single.nearest false q e)))) := by
  obtain ⟨t0, t1, t2, t3, hee⟩ := encD_form (single.read (single.nearest false q e))
  have bm : bsize m ≤ 24 := bsize_of_lt (k := 24) (by omega)
  have bM : bsize (m * 2 ^ 128) ≤ 200 := by have := bsize_shift m 128; omega
  have bq : bsize q ≤ 200 := by have := bsize_mono (sq_le h1); omega
  have hround := fun v W (h : IsN W v q) => rounded_any false v q e W h (by omega) (by omega) (by omega)
  rw [hee] at hround ⊢
  unfold val at hround
  have HR := Lib.hid hround
  have HU := Lib.hid (fun va W (ha : IsN W va m) => up_is va m (m * 2 ^ 128) 128 W ha (by omega) (by omega) (by omega) rfl)
  have HO := Lib.hid (fun va W (ha : IsN W va (m * 2 ^ 128)) => root_any va (m * 2 ^ 128) q W ha (by omega) h1 h2)
  rw [hr] at HO
  have hsub : IntKind.i64.wrap (i - 128) = i - 128 := IntWalk.i64_in _ (by omega)
  have hsub2 : IntKind.i64.wrap (i - 128) = i - 128 := IntWalk.i64_in _ (by omega)
  have hmod : (i - 128).tmod 2 = 0 := by
    rw [Int.tmod_eq_emod]
    rw [if_pos (by omega)]; omega
  have hdiv : (i - 128).tdiv 2 = e := by rw [he, Int.mul_comm]; exact Int.mul_tdiv_cancel _ (by omega)
  have hwe : IntKind.i64.wrap e = e := IntWalk.i64_in _ (by omega)
  have hzn : (Datum.number false m i).isZero = false := by
    obtain ⟨k, rfl⟩ : ∃ k, m = k + 1 := ⟨m - 1, by omega⟩
    rfl
  have HZ := Lib.hid (fun W => isNought_any (.number false m i) W)
  rw [hzn] at HZ
  clear hround hee hzn hr bM bq h1 h2 he hpar
  obtain ⟨M, hM⟩ : ∃ M, m * 2 ^ 128 = M := ⟨_, rfl⟩
  rw [hM] at HU HO
  clear hM
  unfold frm val
  go_enter Try.func63, Try.ntmps63
  go_wp2_with fail
  refine (HZ.out _).mono ?_
  rintro e' w1 ⟨rfl, hB⟩
  have HB := Lib.hid hB
  obtain ⟨hc, hf⟩ := bel_cells hB
  have k0 : w1.cell? ⟨w.heap.size, 0, none⟩ = some (.int .i64 24) := by rw [hc _ _ (by first | (simp; done) | (simp; omega)), World.cell?_alloc_past _ _ _ (by first | (simp; done) | (simp; omega)), World.cell?_alloc_past _ _ _ (by first | (simp; done) | (simp; omega)), World.cell?_alloc_at _ _ _ _ (by first | (simp; done) | (simp; omega))]; rfl
  have k1 : w1.cell? ⟨w.heap.size, 1, none⟩ = some (.int .i64 (-149)) := by rw [hc _ _ (by first | (simp; done) | (simp; omega)), World.cell?_alloc_past _ _ _ (by first | (simp; done) | (simp; omega)), World.cell?_alloc_past _ _ _ (by first | (simp; done) | (simp; omega)), World.cell?_alloc_at _ _ _ _ (by first | (simp; done) | (simp; omega))]; rfl
  have k2 : w1.cell? ⟨w.heap.size, 2, none⟩ = some (.int .i64 104) := by rw [hc _ _ (by first | (simp; done) | (simp; omega)), World.cell?_alloc_past _ _ _ (by first | (simp; done) | (simp; omega)), World.cell?_alloc_past _ _ _ (by first | (simp; done) | (simp; omega)), World.cell?_alloc_at _ _ _ _ (by first | (simp; done) | (simp; omega))]; rfl
  have k3 : w1.cell? ⟨w.heap.size + 1, 2, none⟩ = some (.int .u64 m) := by rw [hc _ _ (by first | (simp; done) | (simp; omega)), World.cell?_alloc_past _ _ _ (by first | (simp; done) | (simp; omega)), World.cell?_alloc_at _ _ _ _ (by first | (simp; done) | (simp; omega))]; rfl
  have k4 : w1.cell? ⟨w.heap.size + 1, 3, none⟩ = some (.int .i64 i) := by rw [hc _ _ (by first | (simp; done) | (simp; omega)), World.cell?_alloc_past _ _ _ (by first | (simp; done) | (simp; omega)), World.cell?_alloc_at _ _ _ _ (by first | (simp; done) | (simp; omega))]; rfl
  have k5 : w1.cell? ⟨w.heap.size + 1, 1, none⟩ = some (.bool false) := by rw [hc _ _ (by first | (simp; done) | (simp; omega)), World.cell?_alloc_past _ _ _ (by first | (simp; done) | (simp; omega)), World.cell?_alloc_at _ _ _ _ (by first | (simp; done) | (simp; omega))]; rfl
  have k6 : w1.cell? ⟨w.heap.size + 1, 0, none⟩ = some (.int .u8 3) := by rw [hc _ _ (by first | (simp; done) | (simp; omega)), World.cell?_alloc_past _ _ _ (by first | (simp; done) | (simp; omega)), World.cell?_alloc_at _ _ _ _ (by first | (simp; done) | (simp; omega))]; rfl
  obtain ⟨wz, rfl⟩ : ∃ wz : World, wz = w1 := ⟨_, rfl⟩
  clear hB hc hf
  go_wp2_with (first
    | (go_at_call 56; refine (nat_any _ _ (by omega)).mono ?_; rintro e' w1 ⟨v1, rfl, hv1, hb1⟩)
    | (go_at_call 73; refine (HU.out _ _ (by first | assumption | exact IsN.below (by assumption) (by assumption))).mono ?_; rintro e' w2 ⟨v2, rfl, hv2, hb2⟩)
    | (go_at_call 84; refine (HO.out _ _ (by first | assumption | exact IsN.below (by assumption) (by assumption))).mono ?_; rintro e' w3 ⟨v3, rfl, hv3, hb3⟩; have hmm : Below wz.heap.size wz w3 := (by repeat (first | exact Below.refl _ _ | refine bs_drew ?_ | refine bs_drewN ?_ _ | (refine bs_step ?_ (by assumption)))); replace HB := Lib.hid (HB.out.trans (hmm.mono HB.out.size)); clear hmm k0 k1 k2 k3 k4 k5 k6; obtain ⟨hc, hf⟩ := bel_cells HB.out)
    | (go_at_call 55; refine (HR.out _ _ (by first | assumption | exact IsN.drewN (by assumption) _)).mono ?_; rintro e' w4 ⟨rfl, hb4⟩; have hB := HB.out.trans (hb4.mono HB.out.size); clear hc hf; obtain ⟨hc, hf⟩ := bel_cells hB))
  exact bodyPost_ret (v := val t0 t1 t2 t3) (by simp [results, Try.results63, go_sem, hc, val]) rfl ⟨rfl, bel_set4 (bel_three _ _ _ _ hB) (by first | (simp; done) | (simp; omega) | omega) _ _ _ _⟩

set_option maxHeartbeats 4000000 in
theorem root_num_129_true (m q : Nat) (i e : Int) (hm : m < 16777216) (hm0 : 0 < m) (hi : -149 ≤ i) (hi2 : i ≤ 104) (he : i - 129 = 2 * e) (hpar : i % 2 = 1)
    (h1 : q * q ≤ m * 2 ^ 129) (h2 : m * 2 ^ 129 < (q + 1) * (q + 1)) (hr : (!(q * q == m * 2 ^ 129)) = true) (w : World) :
    Calls Try.prog 63 #[frm, val 3 false m i] w (Ret w (encD (single.read (single.nearest false (2 * q + 1) (e - 1))))) := by
  obtain ⟨t0, t1, t2, t3, hee⟩ := encD_form (single.read (single.nearest false (2 * q + 1) (e - 1)))
  have bm : bsize m ≤ 24 := bsize_of_lt (k := 24) (by omega)
  have bM : bsize (m * 2 ^ 129) ≤ 200 := by have := bsize_shift m 129; omega
  have bq : bsize q ≤ 200 := by have := bsize_mono (sq_le h1); omega
  have hround := fun v W (h : IsN W v q) => roundm_any false v q e W h (by omega) (by omega) (by omega)
  rw [hee] at hround ⊢
  unfold val at hround
  have HR := Lib.hid hround
  have HU := Lib.hid (fun va W (ha : IsN W va m) => up_is va m (m * 2 ^ 129) 129 W ha (by omega) (by omega) (by omega) rfl)
  have HO := Lib.hid (fun va W (ha : IsN W va (m * 2 ^ 129)) => root_any va (m * 2 ^ 129) q W ha (by omega) h1 h2)
  rw [hr] at HO
  have hsub : IntKind.i64.wrap (i - 128) = i - 128 := IntWalk.i64_in _ (by omega)
  have hsub2 : IntKind.i64.wrap (i - 129) = i - 129 := IntWalk.i64_in _ (by omega)
  have hmod : (i - 128).tmod 2 = -1 := by
    rw [Int.tmod_eq_emod]
    rw [if_neg (by omega)]; simp; omega
  have hdiv : (i - 129).tdiv 2 = e := by rw [he, Int.mul_comm]; exact Int.mul_tdiv_cancel _ (by omega)
  have hwe : IntKind.i64.wrap e = e := IntWalk.i64_in _ (by omega)
  have hzn : (Datum.number false m i).isZero = false := by
    obtain ⟨k, rfl⟩ : ∃ k, m = k + 1 := ⟨m - 1, by omega⟩
    rfl
  have HZ := Lib.hid (fun W => isNought_any (.number false m i) W)
  rw [hzn] at HZ
  clear hround hee hzn hr bM bq h1 h2 he hpar
  obtain ⟨M, hM⟩ : ∃ M, m * 2 ^ 129 = M := ⟨_, rfl⟩
  rw [hM] at HU HO
  clear hM
  unfold frm val
  go_enter Try.func63, Try.ntmps63
  go_wp2_with fail
  refine (HZ.out _).mono ?_
  rintro e' w1 ⟨rfl, hB⟩
  have HB := Lib.hid hB
  obtain ⟨hc, hf⟩ := bel_cells hB
  have k0 : w1.cell? ⟨w.heap.size, 0, none⟩ = some (.int .i64 24) := by rw [hc _ _ (by first | (simp; done) | (simp; omega)), World.cell?_alloc_past _ _ _ (by first | (simp; done) | (simp; omega)), World.cell?_alloc_past _ _ _ (by first | (simp; done) | (simp; omega)), World.cell?_alloc_at _ _ _ _ (by first | (simp; done) | (simp; omega))]; rfl
  have k1 : w1.cell? ⟨w.heap.size, 1, none⟩ = some (.int .i64 (-149)) := by rw [hc _ _ (by first | (simp; done) | (simp; omega)), World.cell?_alloc_past _ _ _ (by first | (simp; done) | (simp; omega)), World.cell?_alloc_past _ _ _ (by first | (simp; done) | (simp; omega)), World.cell?_alloc_at _ _ _ _ (by first | (simp; done) | (simp; omega))]; rfl
  have k2 : w1.cell? ⟨w.heap.size, 2, none⟩ = some (.int .i64 104) := by rw [hc _ _ (by first | (simp; done) | (simp; omega)), World.cell?_alloc_past _ _ _ (by first | (simp; done) | (simp; omega)), World.cell?_alloc_past _ _ _ (by first | (simp; done) | (simp; omega)), World.cell?_alloc_at _ _ _ _ (by first | (simp; done) | (simp; omega))]; rfl
  have k3 : w1.cell? ⟨w.heap.size + 1, 2, none⟩ = some (.int .u64 m) := by rw [hc _ _ (by first | (simp; done) | (simp; omega)), World.cell?_alloc_past _ _ _ (by first | (simp; done) | (simp; omega)), World.cell?_alloc_at _ _ _ _ (by first | (simp; done) | (simp; omega))]; rfl
  have k4 : w1.cell? ⟨w.heap.size + 1, 3, none⟩ = some (.int .i64 i) := by rw [hc _ _ (by first | (simp; done) | (simp; omega)), World.cell?_alloc_past _ _ _ (by first | (simp; done) | (simp; omega)), World.cell?_alloc_at _ _ _ _ (by first | (simp; done) | (simp; omega))]; rfl
  have k5 : w1.cell? ⟨w.heap.size + 1, 1, none⟩ = some (.bool false) := by rw [hc _ _ (by first | (simp; done) | (simp; omega)), World.cell?_alloc_past _ _ _ (by first | (simp; done) | (simp; omega)), World.cell?_alloc_at _ _ _ _ (by first | (simp; done) | (simp; omega))]; rfl
  have k6 : w1.cell? ⟨w.heap.size + 1, 0, none⟩ = some (.int .u8 3) := by rw [hc _ _ (by first | (simp; done) | (simp; omega)), World.cell?_alloc_past _ _ _ (by first | (simp; done) | (simp; omega)), World.cell?_alloc_at _ _ _ _ (by first | (simp; done) | (simp; omega))]; rfl
  obtain ⟨wz, rfl⟩ : ∃ wz : World, wz = w1 := ⟨_, rfl⟩
  clear hB hc hf
  go_wp2_with (first
    | (go_at_call 56; refine (nat_any _ _ (by omega)).mono ?_; rintro e' w1 ⟨v1, rfl, hv1, hb1⟩)
    | (go_at_call 73; refine (HU.out _ _ (by first | assumption | exact IsN.below (by assumption) (by assumption))).mono ?_; rintro e' w2 ⟨v2, rfl, hv2, hb2⟩)
    | (go_at_call 84; refine (HO.out _ _ (by first | assumption | exact IsN.below (by assumption) (by assumption))).mono ?_; rintro e' w3 ⟨v3, rfl, hv3, hb3⟩; have hmm : Below wz.heap.size wz w3 := (by repeat (first | exact Below.refl _ _ | refine bs_drew ?_ | refine bs_drewN ?_ _ | (refine bs_step ?_ (by assumption)))); replace HB := Lib.hid (HB.out.trans (hmm.mono HB.out.size)); clear hmm k0 k1 k2 k3 k4 k5 k6; obtain ⟨hc, hf⟩ := bel_cells HB.out)
    | (go_at_call 55; refine (HR.out _ _ (by first | assumption | exact IsN.drewN (by assumption) _)).mono ?_; rintro e' w4 ⟨rfl, hb4⟩; have hB := HB.out.trans (hb4.mono HB.out.size); clear hc hf; obtain ⟨hc, hf⟩ := bel_cells hB))
  exact bodyPost_ret (v := val t0 t1 t2 t3) (by simp [results, Try.results63, go_sem, hc, val]) rfl ⟨rfl, bel_set4 (bel_three _ _ _ _ hB) (by first | (simp; done) | (simp; omega) | omega) _ _ _ _⟩

set_option maxHeartbeats 4000000 in
theorem root_num_129_false (m q : Nat) (i e : Int) (hm : m < 16777216) (hm0 : 0 < m) (hi : -149 ≤ i) (hi2 : i ≤ 104) (he : i - 129 = 2 * e) (hpar : i % 2 = 1)
    (h1 : q * q ≤ m * 2 ^ 129) (h2 : m * 2 ^ 129 < (q + 1) * (q + 1)) (hr : (!(q * q == m * 2 ^ 129)) = false) (w : World) :
    Calls Try.prog 63 #[frm, val 3 false m i] w (Ret w (encD (single.read (single.nearest false q e)))) := by
  obtain ⟨t0, t1, t2, t3, hee⟩ := encD_form (single.read (single.nearest false q e))
  have bm : bsize m ≤ 24 := bsize_of_lt (k := 24) (by omega)
  have bM : bsize (m * 2 ^ 129) ≤ 200 := by have := bsize_shift m 129; omega
  have bq : bsize q ≤ 200 := by have := bsize_mono (sq_le h1); omega
  have hround := fun v W (h : IsN W v q) => rounded_any false v q e W h (by omega) (by omega) (by omega)
  rw [hee] at hround ⊢
  unfold val at hround
  have HR := Lib.hid hround
  have HU := Lib.hid (fun va W (ha : IsN W va m) => up_is va m (m * 2 ^ 129) 129 W ha (by omega) (by omega) (by omega) rfl)
  have HO := Lib.hid (fun va W (ha : IsN W va (m * 2 ^ 129)) => root_any va (m * 2 ^ 129) q W ha (by omega) h1 h2)
  rw [hr] at HO
  have hsub : IntKind.i64.wrap (i - 128) = i - 128 := IntWalk.i64_in _ (by omega)
  have hsub2 : IntKind.i64.wrap (i - 129) = i - 129 := IntWalk.i64_in _ (by omega)
  have hmod : (i - 128).tmod 2 = -1 := by
    rw [Int.tmod_eq_emod]
    rw [if_neg (by omega)]; simp; omega
  have hdiv : (i - 129).tdiv 2 = e := by rw [he, Int.mul_comm]; exact Int.mul_tdiv_cancel _ (by omega)
  have hwe : IntKind.i64.wrap e = e := IntWalk.i64_in _ (by omega)
  have hzn : (Datum.number false m i).isZero = false := by
    obtain ⟨k, rfl⟩ : ∃ k, m = k + 1 := ⟨m - 1, by omega⟩
    rfl
  have HZ := Lib.hid (fun W => isNought_any (.number false m i) W)
  rw [hzn] at HZ
  clear hround hee hzn hr bM bq h1 h2 he hpar
  obtain ⟨M, hM⟩ : ∃ M, m * 2 ^ 129 = M := ⟨_, rfl⟩
  rw [hM] at HU HO
  clear hM
  unfold frm val
  go_enter Try.func63, Try.ntmps63
  go_wp2_with fail
  refine (HZ.out _).mono ?_
  rintro e' w1 ⟨rfl, hB⟩
  have HB := Lib.hid hB
  obtain ⟨hc, hf⟩ := bel_cells hB
  have k0 : w1.cell? ⟨w.heap.size, 0, none⟩ = some (.int .i64 24) := by rw [hc _ _ (by first | (simp; done) | (simp; omega)), World.cell?_alloc_past _ _ _ (by first | (simp; done) | (simp; omega)), World.cell?_alloc_past _ _ _ (by first | (simp; done) | (simp; omega)), World.cell?_alloc_at _ _ _ _ (by first | (simp; done) | (simp; omega))]; rfl
  have k1 : w1.cell? ⟨w.heap.size, 1, none⟩ = some (.int .i64 (-149)) := by rw [hc _ _ (by first | (simp; done) | (simp; omega)), World.cell?_alloc_past _ _ _ (by first | (simp; done) | (simp; omega)), World.cell?_alloc_past _ _ _ (by first | (simp; done) | (simp; omega)), World.cell?_alloc_at _ _ _ _ (by first | (simp; done) | (simp; omega))]; rfl
  have k2 : w1.cell? ⟨w.heap.size, 2, none⟩ = some (.int .i64 104) := by rw [hc _ _ (by first | (simp; done) | (simp; omega)), World.cell?_alloc_past _ _ _ (by first | (simp; done) | (simp; omega)), World.cell?_alloc_past _ _ _ (by first | (simp; done) | (simp; omega)), World.cell?_alloc_at _ _ _ _ (by first | (simp; done) | (simp; omega))]; rfl
  have k3 : w1.cell? ⟨w.heap.size + 1, 2, none⟩ = some (.int .u64 m) := by rw [hc _ _ (by first | (simp; done) | (simp; omega)), World.cell?_alloc_past _ _ _ (by first | (simp; done) | (simp; omega)), World.cell?_alloc_at _ _ _ _ (by first | (simp; done) | (simp; omega))]; rfl
  have k4 : w1.cell? ⟨w.heap.size + 1, 3, none⟩ = some (.int .i64 i) := by rw [hc _ _ (by first | (simp; done) | (simp; omega)), World.cell?_alloc_past _ _ _ (by first | (simp; done) | (simp; omega)), World.cell?_alloc_at _ _ _ _ (by first | (simp; done) | (simp; omega))]; rfl
  have k5 : w1.cell? ⟨w.heap.size + 1, 1, none⟩ = some (.bool false) := by rw [hc _ _ (by first | (simp; done) | (simp; omega)), World.cell?_alloc_past _ _ _ (by first | (simp; done) | (simp; omega)), World.cell?_alloc_at _ _ _ _ (by first | (simp; done) | (simp; omega))]; rfl
  have k6 : w1.cell? ⟨w.heap.size + 1, 0, none⟩ = some (.int .u8 3) := by rw [hc _ _ (by first | (simp; done) | (simp; omega)), World.cell?_alloc_past _ _ _ (by first | (simp; done) | (simp; omega)), World.cell?_alloc_at _ _ _ _ (by first | (simp; done) | (simp; omega))]; rfl
  obtain ⟨wz, rfl⟩ : ∃ wz : World, wz = w1 := ⟨_, rfl⟩
  clear hB hc hf
  go_wp2_with (first
    | (go_at_call 56; refine (nat_any _ _ (by omega)).mono ?_; rintro e' w1 ⟨v1, rfl, hv1, hb1⟩)
    | (go_at_call 73; refine (HU.out _ _ (by first | assumption | exact IsN.below (by assumption) (by assumption))).mono ?_; rintro e' w2 ⟨v2, rfl, hv2, hb2⟩)
    | (go_at_call 84; refine (HO.out _ _ (by first | assumption | exact IsN.below (by assumption) (by assumption))).mono ?_; rintro e' w3 ⟨v3, rfl, hv3, hb3⟩; have hmm : Below wz.heap.size wz w3 := (by repeat (first | exact Below.refl _ _ | refine bs_drew ?_ | refine bs_drewN ?_ _ | (refine bs_step ?_ (by assumption)))); replace HB := Lib.hid (HB.out.trans (hmm.mono HB.out.size)); clear hmm k0 k1 k2 k3 k4 k5 k6; obtain ⟨hc, hf⟩ := bel_cells HB.out)
    | (go_at_call 55; refine (HR.out _ _ (by first | assumption | exact IsN.drewN (by assumption) _)).mono ?_; rintro e' w4 ⟨rfl, hb4⟩; have hB := HB.out.trans (hb4.mono HB.out.size); clear hc hf; obtain ⟨hc, hf⟩ := bel_cells hB))
  exact bodyPost_ret (v := val t0 t1 t2 t3) (by simp [results, Try.results63, go_sem, hc, val]) rfl ⟨rfl, bel_set4 (bel_three _ _ _ _ hB) (by first | (simp; done) | (simp; omega) | omega) _ _ _ _⟩
end Go.Proofs.Ytdihbpfoalmlcaa
