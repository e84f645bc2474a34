/- Contract of the reference's Sum: two finite numbers. -/
import Derived.Test.YtfgbjaejkfkmmaaSum
import Derived.Test.YtfgbjaejkfkmmaaSumP
namespace Go.Proofs.Ytfgbjaejkfkmmaa
open Go.RowKit Ieee

set_option maxHeartbeats 4000000 in
theorem sum_lt_same (s : Bool) (m n X Y : Nat) (i j : Int) (hm : m < 16777216) (hn : n < 16777216) (hi : -149 ≤ i) (hi2 : i ≤ 104) (hj : -149 ≤ j) (hj2 : j ≤ 104)
    (hij : j < i) (hX : m * 2 ^ (i - j).toNat = X) (hY : n * 2 ^ (0 : Int).toNat = Y) (w : World) :
    Calls Try.prog 87 #[frm, val 3 s m i, val 3 s n j] w (Ret w (encD (single.read (single.nearest s (X + Y) j)))) := by
  have bX : bsize X ≤ 300 := by rw [← hX]; have h1 := bsize_shift m ((i - j)).toNat; have h2 := bsize_of_lt (a := m) (k := 24) (by omega); omega
  have bY : bsize Y ≤ 300 := by rw [← hY]; have h1 := bsize_shift n ((0 : Int)).toNat; have h2 := bsize_of_lt (a := n) (k := 24) (by omega); omega
  have bm : bsize m ≤ 24 := bsize_of_lt (k := 24) (by omega)
  have bn : bsize n ≤ 24 := bsize_of_lt (k := 24) (by omega)
  obtain ⟨t0, t1, t2, t3, he⟩ := encD_form (single.read (single.nearest s (X + Y) j))
  have bN : bsize (X + Y) ≤ 301 := by have := bsize_add X Y 300 bX bY; omega
  have hround := fun v W (hh : IsN W v (X + Y)) => rounded_any s v (X + Y) j W hh (by omega) (by omega) (by omega)
  rw [he] at hround ⊢
  unfold val at hround
  have HR := Lib.hid hround
  clear hround he
  have HX := Lib.hid hX
  have HY := Lib.hid hY
  have hz : IntKind.i64.wrap 0 = 0 := rfl
  have hsub : IntKind.i64.wrap (i - j) = i - j := IntWalk.i64_in _ (by omega)
  have hdif : i - j ≤ 1000 := by omega
  clear hX hY
  have c1 : ((((w.alloc (.cells #[.int .i64 24, .int .i64 (-149), .int .i64 104] 68)).alloc (.cells #[.int .u8 3, .bool s, .int .u64 m, .int .i64 i] 65)).alloc (.cells #[.int .u8 3, .bool s, .int .u64 n, .int .i64 j] 65)).alloc (.cells #[.int .u8 0, .bool false, .int .u64 0, .int .i64 0] 65)).cell? ⟨w.heap.size + 1 + 1, 1, none⟩ = some (.bool s) := by
    rw [World.cell?_alloc_past _ _ _ (by simp), World.cell?_alloc_at _ _ _ _ (by simp)]; rfl
  have c2 : ((((w.alloc (.cells #[.int .i64 24, .int .i64 (-149), .int .i64 104] 68)).alloc (.cells #[.int .u8 3, .bool s, .int .u64 m, .int .i64 i] 65)).alloc (.cells #[.int .u8 3, .bool s, .int .u64 n, .int .i64 j] 65)).alloc (.cells #[.int .u8 0, .bool false, .int .u64 0, .int .i64 0] 65)).cell? ⟨w.heap.size + 1 + 1, 2, none⟩ = some (.int .u64 n) := by
    rw [World.cell?_alloc_past _ _ _ (by simp), World.cell?_alloc_at _ _ _ _ (by simp)]; rfl
  have c3 : ((((w.alloc (.cells #[.int .i64 24, .int .i64 (-149), .int .i64 104] 68)).alloc (.cells #[.int .u8 3, .bool s, .int .u64 m, .int .i64 i] 65)).alloc (.cells #[.int .u8 3, .bool s, .int .u64 n, .int .i64 j] 65)).alloc (.cells #[.int .u8 0, .bool false, .int .u64 0, .int .i64 0] 65)).cell? ⟨w.heap.size + 1 + 1, 3, none⟩ = some (.int .i64 j) := by
    rw [World.cell?_alloc_past _ _ _ (by simp), World.cell?_alloc_at _ _ _ _ (by simp)]; rfl
  unfold frm val
  go_enter Try.func87, Try.ntmps87
  go_wp2_with fail
  go_region_held3 (fun w' => w'.cell? ⟨w.heap.size, 0, none⟩ = some (.int .i64 24) ∧ w'.cell? ⟨w.heap.size, 1, none⟩ = some (.int .i64 (-149)) ∧ w'.cell? ⟨w.heap.size, 2, none⟩ = some (.int .i64 104) ∧ w'.cell? ⟨w.heap.size + 1, 1, none⟩ = some (.bool s) ∧ w'.cell? ⟨w.heap.size + 1, 2, none⟩ = some (.int .u64 m) ∧ w'.cell? ⟨w.heap.size + 1, 3, none⟩ = some (.int .i64 i) ∧ w'.cell? ⟨w.heap.size + 1 + 1, 1, none⟩ = some (.bool s) ∧ w'.cell? ⟨w.heap.size + 1 + 1, 2, none⟩ = some (.int .u64 n) ∧ w'.cell? ⟨w.heap.size + 1 + 1, 3, none⟩ = some (.int .i64 j)) (first | (go_split_ands; (with_reducible (refine ⟨keepc hb1 ?_, keepc hb1 ?_, keepc hb1 ?_, keepc hb1 ?_, keepc hb1 ?_, keepc hb1 ?_, keepc hb1 ?_, keepc hb1 ?_, keepc hb1 ?_⟩)); all_goals assumption) | (go_split_ands; (with_reducible (refine ⟨keep_set4 ?_ ?_, keep_set4 ?_ ?_, keep_set4 ?_ ?_, keep_set4 ?_ ?_, keep_set4 ?_ ?_, keep_set4 ?_ ?_, keep_set4 ?_ ?_, keep_set4 ?_ ?_, keep_set4 ?_ ?_⟩)); all_goals (first | assumption | omega)) | go_keep)
    (first
      | (go_at_call 57; refine (nat_any m _ (by omega)).mono ?_; rintro e w1 ⟨v1, rfl, hv1, hb1⟩)
      | (go_at_call 75; refine (up_is _ m X _ _ hv1 (by omega) (by omega) (by omega) HX.out).mono ?_; rintro e w1 ⟨v1, rfl, hx, hb1⟩))
  clear hv1 c1 c2 c3
  go_wp2_with fail
  go_region_held3 (fun w' => w'.cell? ⟨w.heap.size, 0, none⟩ = some (.int .i64 24) ∧ w'.cell? ⟨w.heap.size, 1, none⟩ = some (.int .i64 (-149)) ∧ w'.cell? ⟨w.heap.size, 2, none⟩ = some (.int .i64 104) ∧ w'.cell? ⟨w.heap.size + 1, 1, none⟩ = some (.bool s) ∧ w'.cell? ⟨w.heap.size + 1, 2, none⟩ = some (.int .u64 m) ∧ w'.cell? ⟨w.heap.size + 1, 3, none⟩ = some (.int .i64 i) ∧ w'.cell? ⟨w.heap.size + 1 + 1, 1, none⟩ = some (.bool s) ∧ w'.cell? ⟨w.heap.size + 1 + 1, 2, none⟩ = some (.int .u64 n) ∧ w'.cell? ⟨w.heap.size + 1 + 1, 3, none⟩ = some (.int .i64 j)) (first | (go_split_ands; (with_reducible (refine ⟨keepc hb1 ?_, keepc hb1 ?_, keepc hb1 ?_, keepc hb1 ?_, keepc hb1 ?_, keepc hb1 ?_, keepc hb1 ?_, keepc hb1 ?_, keepc hb1 ?_⟩)); all_goals assumption) | (go_split_ands; (with_reducible (refine ⟨keep_set4 ?_ ?_, keep_set4 ?_ ?_, keep_set4 ?_ ?_, keep_set4 ?_ ?_, keep_set4 ?_ ?_, keep_set4 ?_ ?_, keep_set4 ?_ ?_, keep_set4 ?_ ?_, keep_set4 ?_ ?_⟩)); all_goals (first | assumption | omega)) | go_keep)
    (first
      | (go_at_call 57; refine (nat_any n _ (by omega)).mono ?_; rintro e w1 ⟨v1, rfl, hv1, hb1⟩; replace hx := (hx.drewN 1).below hb1)
      | (go_at_call 75; refine (up_is _ n Y _ _ hv1 (by omega) (by omega) (by omega) HY.out).mono ?_; rintro e w1 ⟨v1, rfl, hy, hb1⟩; replace hx := hx.below hb1))
  clear hv1
  go_wp2_with fail
  go_region_held3 (fun w' => w'.cell? ⟨w.heap.size, 0, none⟩ = some (.int .i64 24) ∧ w'.cell? ⟨w.heap.size, 1, none⟩ = some (.int .i64 (-149)) ∧ w'.cell? ⟨w.heap.size, 2, none⟩ = some (.int .i64 104) ∧ w'.cell? ⟨w.heap.size + 1, 1, none⟩ = some (.bool s) ∧ w'.cell? ⟨w.heap.size + 1, 2, none⟩ = some (.int .u64 m) ∧ w'.cell? ⟨w.heap.size + 1, 3, none⟩ = some (.int .i64 i) ∧ w'.cell? ⟨w.heap.size + 1 + 1, 1, none⟩ = some (.bool s) ∧ w'.cell? ⟨w.heap.size + 1 + 1, 2, none⟩ = some (.int .u64 n) ∧ w'.cell? ⟨w.heap.size + 1 + 1, 3, none⟩ = some (.int .i64 j)) (first | (go_split_ands; (with_reducible (refine ⟨keepc hb1 ?_, keepc hb1 ?_, keepc hb1 ?_, keepc hb1 ?_, keepc hb1 ?_, keepc hb1 ?_, keepc hb1 ?_, keepc hb1 ?_, keepc hb1 ?_⟩)); all_goals assumption) | (go_split_ands; (with_reducible (refine ⟨keep_set4 ?_ ?_, keep_set4 ?_ ?_, keep_set4 ?_ ?_, keep_set4 ?_ ?_, keep_set4 ?_ ?_, keep_set4 ?_ ?_, keep_set4 ?_ ?_, keep_set4 ?_ ?_, keep_set4 ?_ ?_⟩)); all_goals (first | assumption | omega)) | go_keep)
    (first
      | (go_at_call 74; refine (plus_any _ _ X Y _ (hx.drewN 1) (hy.drewN 1) (by omega) (by omega)).mono ?_; rintro e w1 ⟨v1, rfl, hv1, hb1⟩)
      | (go_at_call 55; refine (HR.out _ _ hv1).mono ?_; rintro e w1 ⟨rfl, hb1⟩; have hB : Below ((((w.alloc (.cells #[.int .i64 24, .int .i64 (-149), .int .i64 104] 68)).alloc (.cells #[.int .u8 3, .bool s, .int .u64 m, .int .i64 i] 65)).alloc (.cells #[.int .u8 3, .bool s, .int .u64 n, .int .i64 j] 65)).alloc (.cells #[.int .u8 0, .bool false, .int .u64 0, .int .i64 0] 65)).heap.size ((((w.alloc (.cells #[.int .i64 24, .int .i64 (-149), .int .i64 104] 68)).alloc (.cells #[.int .u8 3, .bool s, .int .u64 m, .int .i64 i] 65)).alloc (.cells #[.int .u8 3, .bool s, .int .u64 n, .int .i64 j] 65)).alloc (.cells #[.int .u8 0, .bool false, .int .u64 0, .int .i64 0] 65)) w1 := (by repeat (first | exact Below.refl _ _ | refine bs_alloc ?_ _ | refine bs_drew ?_ | refine bs_drewN ?_ _ | (refine bs_step ?_ (by assumption)))); obtain ⟨hc, hf⟩ := bel_cells hB))
  go_wp2
  exact bodyPost_ret (v := val t0 t1 t2 t3) (by simp [results, Try.results87, go_sem, hc, val]) rfl ⟨rfl, bel_set4 (bel_four _ _ _ _ _ hB) (by omega) _ _ _ _⟩

set_option maxHeartbeats 4000000 in
theorem sum_lt_even (s : Bool) (m n X Y : Nat) (i j : Int) (hm : m < 16777216) (hn : n < 16777216) (hi : -149 ≤ i) (hi2 : i ≤ 104) (hj : -149 ≤ j) (hj2 : j ≤ 104)
    (hij : j < i) (hX : m * 2 ^ (i - j).toNat = X) (hY : n * 2 ^ (0 : Int).toNat = Y) (h : X = Y) (w : World) :
    Calls Try.prog 87 #[frm, val 3 s m i, val 3 (!s) n j] w (Ret w (encD (Datum.number false 0 (-149)))) := by
  have bX : bsize X ≤ 300 := by rw [← hX]; have h1 := bsize_shift m ((i - j)).toNat; have h2 := bsize_of_lt (a := m) (k := 24) (by omega); omega
  have bY : bsize Y ≤ 300 := by rw [← hY]; have h1 := bsize_shift n ((0 : Int)).toNat; have h2 := bsize_of_lt (a := n) (k := 24) (by omega); omega
  have bm : bsize m ≤ 24 := bsize_of_lt (k := 24) (by omega)
  have bn : bsize n ≤ 24 := bsize_of_lt (k := 24) (by omega)
  have he : encD (Datum.number false 0 (-149)) = val 3 false 0 (-149) := rfl
  rw [he]
  clear he
  have HCMP := Lib.hid (show cmpI X Y = 0 from by unfold cmpI; rw [if_neg (by omega), if_pos h])
  have HX := Lib.hid hX
  have HY := Lib.hid hY
  have hz : IntKind.i64.wrap 0 = 0 := rfl
  have hsub : IntKind.i64.wrap (i - j) = i - j := IntWalk.i64_in _ (by omega)
  have hdif : i - j ≤ 1000 := by omega
  have hst : (s == (!s)) = false := by cases s <;> rfl
  clear hX hY h
  have c1 : ((((w.alloc (.cells #[.int .i64 24, .int .i64 (-149), .int .i64 104] 68)).alloc (.cells #[.int .u8 3, .bool s, .int .u64 m, .int .i64 i] 65)).alloc (.cells #[.int .u8 3, .bool (!s), .int .u64 n, .int .i64 j] 65)).alloc (.cells #[.int .u8 0, .bool false, .int .u64 0, .int .i64 0] 65)).cell? ⟨w.heap.size + 1 + 1, 1, none⟩ = some (.bool (!s)) := by
    rw [World.cell?_alloc_past _ _ _ (by simp), World.cell?_alloc_at _ _ _ _ (by simp)]; rfl
  have c2 : ((((w.alloc (.cells #[.int .i64 24, .int .i64 (-149), .int .i64 104] 68)).alloc (.cells #[.int .u8 3, .bool s, .int .u64 m, .int .i64 i] 65)).alloc (.cells #[.int .u8 3, .bool (!s), .int .u64 n, .int .i64 j] 65)).alloc (.cells #[.int .u8 0, .bool false, .int .u64 0, .int .i64 0] 65)).cell? ⟨w.heap.size + 1 + 1, 2, none⟩ = some (.int .u64 n) := by
    rw [World.cell?_alloc_past _ _ _ (by simp), World.cell?_alloc_at _ _ _ _ (by simp)]; rfl
  have c3 : ((((w.alloc (.cells #[.int .i64 24, .int .i64 (-149), .int .i64 104] 68)).alloc (.cells #[.int .u8 3, .bool s, .int .u64 m, .int .i64 i] 65)).alloc (.cells #[.int .u8 3, .bool (!s), .int .u64 n, .int .i64 j] 65)).alloc (.cells #[.int .u8 0, .bool false, .int .u64 0, .int .i64 0] 65)).cell? ⟨w.heap.size + 1 + 1, 3, none⟩ = some (.int .i64 j) := by
    rw [World.cell?_alloc_past _ _ _ (by simp), World.cell?_alloc_at _ _ _ _ (by simp)]; rfl
  unfold frm val
  go_enter Try.func87, Try.ntmps87
  go_wp2_with fail
  go_region_held3 (fun w' => w'.cell? ⟨w.heap.size, 0, none⟩ = some (.int .i64 24) ∧ w'.cell? ⟨w.heap.size, 1, none⟩ = some (.int .i64 (-149)) ∧ w'.cell? ⟨w.heap.size, 2, none⟩ = some (.int .i64 104) ∧ w'.cell? ⟨w.heap.size + 1, 1, none⟩ = some (.bool s) ∧ w'.cell? ⟨w.heap.size + 1, 2, none⟩ = some (.int .u64 m) ∧ w'.cell? ⟨w.heap.size + 1, 3, none⟩ = some (.int .i64 i) ∧ w'.cell? ⟨w.heap.size + 1 + 1, 1, none⟩ = some (.bool (!s)) ∧ w'.cell? ⟨w.heap.size + 1 + 1, 2, none⟩ = some (.int .u64 n) ∧ w'.cell? ⟨w.heap.size + 1 + 1, 3, none⟩ = some (.int .i64 j)) (first | (go_split_ands; (with_reducible (refine ⟨keepc hb1 ?_, keepc hb1 ?_, keepc hb1 ?_, keepc hb1 ?_, keepc hb1 ?_, keepc hb1 ?_, keepc hb1 ?_, keepc hb1 ?_, keepc hb1 ?_⟩)); all_goals assumption) | (go_split_ands; (with_reducible (refine ⟨keep_set4 ?_ ?_, keep_set4 ?_ ?_, keep_set4 ?_ ?_, keep_set4 ?_ ?_, keep_set4 ?_ ?_, keep_set4 ?_ ?_, keep_set4 ?_ ?_, keep_set4 ?_ ?_, keep_set4 ?_ ?_⟩)); all_goals (first | assumption | omega)) | go_keep)
    (first
      | (go_at_call 57; refine (nat_any m _ (by omega)).mono ?_; rintro e w1 ⟨v1, rfl, hv1, hb1⟩)
      | (go_at_call 75; refine (up_is _ m X _ _ hv1 (by omega) (by omega) (by omega) HX.out).mono ?_; rintro e w1 ⟨v1, rfl, hx, hb1⟩))
  clear hv1 c1 c2 c3
  go_wp2_with fail
  go_region_held3 (fun w' => w'.cell? ⟨w.heap.size, 0, none⟩ = some (.int .i64 24) ∧ w'.cell? ⟨w.heap.size, 1, none⟩ = some (.int .i64 (-149)) ∧ w'.cell? ⟨w.heap.size, 2, none⟩ = some (.int .i64 104) ∧ w'.cell? ⟨w.heap.size + 1, 1, none⟩ = some (.bool s) ∧ w'.cell? ⟨w.heap.size + 1, 2, none⟩ = some (.int .u64 m) ∧ w'.cell? ⟨w.heap.size + 1, 3, none⟩ = some (.int .i64 i) ∧ w'.cell? ⟨w.heap.size + 1 + 1, 1, none⟩ = some (.bool (!s)) ∧ w'.cell? ⟨w.heap.size + 1 + 1, 2, none⟩ = some (.int .u64 n) ∧ w'.cell? ⟨w.heap.size + 1 + 1, 3, none⟩ = some (.int .i64 j)) (first | (go_split_ands; (with_reducible (refine ⟨keepc hb1 ?_, keepc hb1 ?_, keepc hb1 ?_, keepc hb1 ?_, keepc hb1 ?_, keepc hb1 ?_, keepc hb1 ?_, keepc hb1 ?_, keepc hb1 ?_⟩)); all_goals assumption) | (go_split_ands; (with_reducible (refine ⟨keep_set4 ?_ ?_, keep_set4 ?_ ?_, keep_set4 ?_ ?_, keep_set4 ?_ ?_, keep_set4 ?_ ?_, keep_set4 ?_ ?_, keep_set4 ?_ ?_, keep_set4 ?_ ?_, keep_set4 ?_ ?_⟩)); all_goals (first | assumption | omega)) | go_keep)
    (first
      | (go_at_call 57; refine (nat_any n _ (by omega)).mono ?_; rintro e w1 ⟨v1, rfl, hv1, hb1⟩; replace hx := (hx.drewN 1).below hb1)
      | (go_at_call 75; refine (up_is _ n Y _ _ hv1 (by omega) (by omega) (by omega) HY.out).mono ?_; rintro e w1 ⟨v1, rfl, hy, hb1⟩; replace hx := hx.below hb1))
  clear hv1
  go_wp2_with fail
  refine (against_is _ _ X Y (0) _ hx hy (by omega) HCMP.out).mono ?_
  rintro e _ ⟨rfl, n1, rfl⟩
  go_wp2_with fail
  refine (nought_any false _).mono ?_
  rintro e w1 ⟨rfl, hb1⟩
  have hB : Below ((((w.alloc (.cells #[.int .i64 24, .int .i64 (-149), .int .i64 104] 68)).alloc (.cells #[.int .u8 3, .bool s, .int .u64 m, .int .i64 i] 65)).alloc (.cells #[.int .u8 3, .bool (!s), .int .u64 n, .int .i64 j] 65)).alloc (.cells #[.int .u8 0, .bool false, .int .u64 0, .int .i64 0] 65)).heap.size ((((w.alloc (.cells #[.int .i64 24, .int .i64 (-149), .int .i64 104] 68)).alloc (.cells #[.int .u8 3, .bool s, .int .u64 m, .int .i64 i] 65)).alloc (.cells #[.int .u8 3, .bool (!s), .int .u64 n, .int .i64 j] 65)).alloc (.cells #[.int .u8 0, .bool false, .int .u64 0, .int .i64 0] 65)) w1 := (by repeat (first | exact Below.refl _ _ | refine bs_alloc ?_ _ | refine bs_drew ?_ | refine bs_drewN ?_ _ | (refine bs_step ?_ (by assumption))))
  obtain ⟨hc, hf⟩ := bel_cells hB
  unfold val
  go_wp2
  exact bodyPost_ret (v := val 3 false 0 (-149)) (by simp [results, Try.results87, go_sem, hc, val]) rfl ⟨rfl, bel_set4 (bel_four _ _ _ _ _ hB) (by omega) _ _ _ _⟩

set_option maxHeartbeats 4000000 in
theorem sum_lt_below (s : Bool) (m n X Y : Nat) (i j : Int) (hm : m < 16777216) (hn : n < 16777216) (hi : -149 ≤ i) (hi2 : i ≤ 104) (hj : -149 ≤ j) (hj2 : j ≤ 104)
    (hij : j < i) (hX : m * 2 ^ (i - j).toNat = X) (hY : n * 2 ^ (0 : Int).toNat = Y) (h : X < Y) (w : World) :
    Calls Try.prog 87 #[frm, val 3 s m i, val 3 (!s) n j] w (Ret w (encD (single.read (single.nearest (!s) (Y - X) j)))) := by
  have bX : bsize X ≤ 300 := by rw [← hX]; have h1 := bsize_shift m ((i - j)).toNat; have h2 := bsize_of_lt (a := m) (k := 24) (by omega); omega
  have bY : bsize Y ≤ 300 := by rw [← hY]; have h1 := bsize_shift n ((0 : Int)).toNat; have h2 := bsize_of_lt (a := n) (k := 24) (by omega); omega
  have bm : bsize m ≤ 24 := bsize_of_lt (k := 24) (by omega)
  have bn : bsize n ≤ 24 := bsize_of_lt (k := 24) (by omega)
  obtain ⟨t0, t1, t2, t3, he⟩ := encD_form (single.read (single.nearest (!s) (Y - X) j))
  have bN : bsize (Y - X) ≤ 301 := by have := bsize_mono (Nat.sub_le Y X); omega
  have hround := fun v W (hh : IsN W v (Y - X)) => rounded_any (!s) v (Y - X) j W hh (by omega) (by omega) (by omega)
  rw [he] at hround ⊢
  unfold val at hround
  have HR := Lib.hid hround
  clear hround he
  have HCMP := Lib.hid (show cmpI X Y = -1 from by unfold cmpI; rw [if_pos h])
  have HLE := Lib.hid (show X ≤ Y from by omega)
  have HX := Lib.hid hX
  have HY := Lib.hid hY
  have hz : IntKind.i64.wrap 0 = 0 := rfl
  have hsub : IntKind.i64.wrap (i - j) = i - j := IntWalk.i64_in _ (by omega)
  have hdif : i - j ≤ 1000 := by omega
  have hst : (s == (!s)) = false := by cases s <;> rfl
  clear hX hY h
  have c1 : ((((w.alloc (.cells #[.int .i64 24, .int .i64 (-149), .int .i64 104] 68)).alloc (.cells #[.int .u8 3, .bool s, .int .u64 m, .int .i64 i] 65)).alloc (.cells #[.int .u8 3, .bool (!s), .int .u64 n, .int .i64 j] 65)).alloc (.cells #[.int .u8 0, .bool false, .int .u64 0, .int .i64 0] 65)).cell? ⟨w.heap.size + 1 + 1, 1, none⟩ = some (.bool (!s)) := by
    rw [World.cell?_alloc_past _ _ _ (by simp), World.cell?_alloc_at _ _ _ _ (by simp)]; rfl
  have c2 : ((((w.alloc (.cells #[.int .i64 24, .int .i64 (-149), .int .i64 104] 68)).alloc (.cells #[.int .u8 3, .bool s, .int .u64 m, .int .i64 i] 65)).alloc (.cells #[.int .u8 3, .bool (!s), .int .u64 n, .int .i64 j] 65)).alloc (.cells #[.int .u8 0, .bool false, .int .u64 0, .int .i64 0] 65)).cell? ⟨w.heap.size + 1 + 1, 2, none⟩ = some (.int .u64 n) := by
    rw [World.cell?_alloc_past _ _ _ (by simp), World.cell?_alloc_at _ _ _ _ (by simp)]; rfl
  have c3 : ((((w.alloc (.cells #[.int .i64 24, .int .i64 (-149), .int .i64 104] 68)).alloc (.cells #[.int .u8 3, .bool s, .int .u64 m, .int .i64 i] 65)).alloc (.cells #[.int .u8 3, .bool (!s), .int .u64 n, .int .i64 j] 65)).alloc (.cells #[.int .u8 0, .bool false, .int .u64 0, .int .i64 0] 65)).cell? ⟨w.heap.size + 1 + 1, 3, none⟩ = some (.int .i64 j) := by
    rw [World.cell?_alloc_past _ _ _ (by simp), World.cell?_alloc_at _ _ _ _ (by simp)]; rfl
  unfold frm val
  go_enter Try.func87, Try.ntmps87
  go_wp2_with fail
  go_region_held3 (fun w' => w'.cell? ⟨w.heap.size, 0, none⟩ = some (.int .i64 24) ∧ w'.cell? ⟨w.heap.size, 1, none⟩ = some (.int .i64 (-149)) ∧ w'.cell? ⟨w.heap.size, 2, none⟩ = some (.int .i64 104) ∧ w'.cell? ⟨w.heap.size + 1, 1, none⟩ = some (.bool s) ∧ w'.cell? ⟨w.heap.size + 1, 2, none⟩ = some (.int .u64 m) ∧ w'.cell? ⟨w.heap.size + 1, 3, none⟩ = some (.int .i64 i) ∧ w'.cell? ⟨w.heap.size + 1 + 1, 1, none⟩ = some (.bool (!s)) ∧ w'.cell? ⟨w.heap.size + 1 + 1, 2, none⟩ = some (.int .u64 n) ∧ w'.cell? ⟨w.heap.size + 1 + 1, 3, none⟩ = some (.int .i64 j)) (first | (go_split_ands; (with_reducible (refine ⟨keepc hb1 ?_, keepc hb1 ?_, keepc hb1 ?_, keepc hb1 ?_, keepc hb1 ?_, keepc hb1 ?_, keepc hb1 ?_, keepc hb1 ?_, keepc hb1 ?_⟩)); all_goals assumption) | (go_split_ands; (with_reducible (refine ⟨keep_set4 ?_ ?_, keep_set4 ?_ ?_, keep_set4 ?_ ?_, keep_set4 ?_ ?_, keep_set4 ?_ ?_, keep_set4 ?_ ?_, keep_set4 ?_ ?_, keep_set4 ?_ ?_, keep_set4 ?_ ?_⟩)); all_goals (first | assumption | omega)) | go_keep)
    (first
      | (go_at_call 57; refine (nat_any m _ (by omega)).mono ?_; rintro e w1 ⟨v1, rfl, hv1, hb1⟩)
      | (go_at_call 75; refine (up_is _ m X _ _ hv1 (by omega) (by omega) (by omega) HX.out).mono ?_; rintro e w1 ⟨v1, rfl, hx, hb1⟩))
  clear hv1 c1 c2 c3
  go_wp2_with fail
  go_region_held3 (fun w' => w'.cell? ⟨w.heap.size, 0, none⟩ = some (.int .i64 24) ∧ w'.cell? ⟨w.heap.size, 1, none⟩ = some (.int .i64 (-149)) ∧ w'.cell? ⟨w.heap.size, 2, none⟩ = some (.int .i64 104) ∧ w'.cell? ⟨w.heap.size + 1, 1, none⟩ = some (.bool s) ∧ w'.cell? ⟨w.heap.size + 1, 2, none⟩ = some (.int .u64 m) ∧ w'.cell? ⟨w.heap.size + 1, 3, none⟩ = some (.int .i64 i) ∧ w'.cell? ⟨w.heap.size + 1 + 1, 1, none⟩ = some (.bool (!s)) ∧ w'.cell? ⟨w.heap.size + 1 + 1, 2, none⟩ = some (.int .u64 n) ∧ w'.cell? ⟨w.heap.size + 1 + 1, 3, none⟩ = some (.int .i64 j)) (first | (go_split_ands; (with_reducible (refine ⟨keepc hb1 ?_, keepc hb1 ?_, keepc hb1 ?_, keepc hb1 ?_, keepc hb1 ?_, keepc hb1 ?_, keepc hb1 ?_, keepc hb1 ?_, keepc hb1 ?_⟩)); all_goals assumption) | (go_split_ands; (with_reducible (refine ⟨keep_set4 ?_ ?_, keep_set4 ?_ ?_, keep_set4 ?_ ?_, keep_set4 ?_ ?_, keep_set4 ?_ ?_, keep_set4 ?_ ?_, keep_set4 ?_ ?_, keep_set4 ?_ ?_, keep_set4 ?_ ?_⟩)); all_goals (first | assumption | omega)) | go_keep)
    (first
      | (go_at_call 57; refine (nat_any n _ (by omega)).mono ?_; rintro e w1 ⟨v1, rfl, hv1, hb1⟩; replace hx := (hx.drewN 1).below hb1)
      | (go_at_call 75; refine (up_is _ n Y _ _ hv1 (by omega) (by omega) (by omega) HY.out).mono ?_; rintro e w1 ⟨v1, rfl, hy, hb1⟩; replace hx := hx.below hb1))
  clear hv1
  go_wp2_with fail
  refine (against_is _ _ X Y (-1) _ hx hy (by omega) HCMP.out).mono ?_
  rintro e _ ⟨rfl, n1, rfl⟩
  go_wp2_with fail
  go_region_held3 (fun w' => w'.cell? ⟨w.heap.size, 0, none⟩ = some (.int .i64 24) ∧ w'.cell? ⟨w.heap.size, 1, none⟩ = some (.int .i64 (-149)) ∧ w'.cell? ⟨w.heap.size, 2, none⟩ = some (.int .i64 104) ∧ w'.cell? ⟨w.heap.size + 1, 1, none⟩ = some (.bool s) ∧ w'.cell? ⟨w.heap.size + 1, 2, none⟩ = some (.int .u64 m) ∧ w'.cell? ⟨w.heap.size + 1, 3, none⟩ = some (.int .i64 i) ∧ w'.cell? ⟨w.heap.size + 1 + 1, 1, none⟩ = some (.bool (!s)) ∧ w'.cell? ⟨w.heap.size + 1 + 1, 2, none⟩ = some (.int .u64 n) ∧ w'.cell? ⟨w.heap.size + 1 + 1, 3, none⟩ = some (.int .i64 j)) (first | (go_split_ands; (with_reducible (refine ⟨keepc hb1 ?_, keepc hb1 ?_, keepc hb1 ?_, keepc hb1 ?_, keepc hb1 ?_, keepc hb1 ?_, keepc hb1 ?_, keepc hb1 ?_, keepc hb1 ?_⟩)); all_goals assumption) | (go_split_ands; (with_reducible (refine ⟨keep_set4 ?_ ?_, keep_set4 ?_ ?_, keep_set4 ?_ ?_, keep_set4 ?_ ?_, keep_set4 ?_ ?_, keep_set4 ?_ ?_, keep_set4 ?_ ?_, keep_set4 ?_ ?_, keep_set4 ?_ ?_⟩)); all_goals (first | assumption | omega)) | go_keep)
    (first
      | (go_at_call 79; refine (less_any _ _ Y X _ (hy.drewN _) (hx.drewN _) (by omega) HLE.out).mono ?_; rintro e w1 ⟨v1, rfl, hv1, hb1⟩)
      | (go_at_call 55; refine (HR.out _ _ hv1).mono ?_; rintro e w1 ⟨rfl, hb1⟩; have hB : Below ((((w.alloc (.cells #[.int .i64 24, .int .i64 (-149), .int .i64 104] 68)).alloc (.cells #[.int .u8 3, .bool s, .int .u64 m, .int .i64 i] 65)).alloc (.cells #[.int .u8 3, .bool (!s), .int .u64 n, .int .i64 j] 65)).alloc (.cells #[.int .u8 0, .bool false, .int .u64 0, .int .i64 0] 65)).heap.size ((((w.alloc (.cells #[.int .i64 24, .int .i64 (-149), .int .i64 104] 68)).alloc (.cells #[.int .u8 3, .bool s, .int .u64 m, .int .i64 i] 65)).alloc (.cells #[.int .u8 3, .bool (!s), .int .u64 n, .int .i64 j] 65)).alloc (.cells #[.int .u8 0, .bool false, .int .u64 0, .int .i64 0] 65)) w1 := (by repeat (first | exact Below.refl _ _ | refine bs_alloc ?_ _ | refine bs_drew ?_ | refine bs_drewN ?_ _ | (refine bs_step ?_ (by assumption)))); obtain ⟨hc, hf⟩ := bel_cells hB))
  go_wp2
  exact bodyPost_ret (v := val t0 t1 t2 t3) (by simp [results, Try.results87, go_sem, hc, val]) rfl ⟨rfl, bel_set4 (bel_four _ _ _ _ _ hB) (by omega) _ _ _ _⟩

set_option maxHeartbeats 4000000 in
theorem sum_lt_above (s : Bool) (m n X Y : Nat) (i j : Int) (hm : m < 16777216) (hn : n < 16777216) (hi : -149 ≤ i) (hi2 : i ≤ 104) (hj : -149 ≤ j) (hj2 : j ≤ 104)
    (hij : j < i) (hX : m * 2 ^ (i - j).toNat = X) (hY : n * 2 ^ (0 : Int).toNat = Y) (h : Y < X) (w : World) :
    Calls Try.prog 87 #[frm, val 3 s m i, val 3 (!s) n j] w (Ret w (encD (single.read (single.nearest s (X - Y) j)))) := by
  have bX : bsize X ≤ 300 := by rw [← hX]; have h1 := bsize_shift m ((i - j)).toNat; have h2 := bsize_of_lt (a := m) (k := 24) (by omega); omega
  have bY : bsize Y ≤ 300 := by rw [← hY]; have h1 := bsize_shift n ((0 : Int)).toNat; have h2 := bsize_of_lt (a := n) (k := 24) (by omega); omega
  have bm : bsize m ≤ 24 := bsize_of_lt (k := 24) (by omega)
  have bn : bsize n ≤ 24 := bsize_of_lt (k := 24) (by omega)
  obtain ⟨t0, t1, t2, t3, he⟩ := encD_form (single.read (single.nearest s (X - Y) j))
  have bN : bsize (X - Y) ≤ 301 := by have := bsize_mono (Nat.sub_le X Y); omega
  have hround := fun v W (hh : IsN W v (X - Y)) => rounded_any s v (X - Y) j W hh (by omega) (by omega) (by omega)
  rw [he] at hround ⊢
  unfold val at hround
  have HR := Lib.hid hround
  clear hround he
  have HCMP := Lib.hid (show cmpI X Y = 1 from by unfold cmpI; rw [if_neg (by omega), if_neg (by omega)])
  have HLE := Lib.hid (show Y ≤ X from by omega)
  have HX := Lib.hid hX
  have HY := Lib.hid hY
  have hz : IntKind.i64.wrap 0 = 0 := rfl
  have hsub : IntKind.i64.wrap (i - j) = i - j := IntWalk.i64_in _ (by omega)
  have hdif : i - j ≤ 1000 := by omega
  have hst : (s == (!s)) = false := by cases s <;> rfl
  clear hX hY h
  have c1 : ((((w.alloc (.cells #[.int .i64 24, .int .i64 (-149), .int .i64 104] 68)).alloc (.cells #[.int .u8 3, .bool s, .int .u64 m, .int .i64 i] 65)).alloc (.cells #[.int .u8 3, .bool (!s), .int .u64 n, .int .i64 j] 65)).alloc (.cells #[.int .u8 0, .bool false, .int .u64 0, .int .i64 0] 65)).cell? ⟨w.heap.size + 1 + 1, 1, none⟩ = some (.bool (!s)) := by
    rw [World.cell?_alloc_past _ _ _ (by simp), World.cell?_alloc_at _ _ _ _ (by simp)]; rfl
  have c2 : ((((w.alloc (.cells #[.int .i64 24, .int .i64 (-149), .int .i64 104] 68)).alloc (.cells #[.int .u8 3, .bool s, .int .u64 m, .int .i64 i] 65)).alloc (.cells #[.int .u8 3, .bool (!s), .int .u64 n, .int .i64 j] 65)).alloc (.cells #[.int .u8 0, .bool false, .int .u64 0, .int .i64 0] 65)).cell? ⟨w.heap.size + 1 + 1, 2, none⟩ = some (.int .u64 n) := by
    rw [World.cell?_alloc_past _ _ _ (by simp), World.cell?_alloc_at _ _ _ _ (by simp)]; rfl
  have c3 : ((((w.alloc (.cells #[.int .i64 24, .int .i64 (-149), .int .i64 104] 68)).alloc (.cells #[.int .u8 3, .bool s, .int .u64 m, .int .i64 i] 65)).alloc (.cells #[.int .u8 3, .bool (!s), .int .u64 n, .int .i64 j] 65)).alloc (.cells #[.int .u8 0, .bool false, .int .u64 0, .int .i64 0] 65)).cell? ⟨w.heap.size + 1 + 1, 3, none⟩ = some (.int .i64 j) := by
    rw [World.cell?_alloc_past _ _ _ (by simp), World.cell?_alloc_at _ _ _ _ (by simp)]; rfl
  unfold frm val
  go_enter Try.func87, Try.ntmps87
  go_wp2_with fail
  go_region_held3 (fun w' => w'.cell? ⟨w.heap.size, 0, none⟩ = some (.int .i64 24) ∧ w'.cell? ⟨w.heap.size, 1, none⟩ = some (.int .i64 (-149)) ∧ w'.cell? ⟨w.heap.size, 2, none⟩ = some (.int .i64 104) ∧ w'.cell? ⟨w.heap.size + 1, 1, none⟩ = some (.bool s) ∧ w'.cell? ⟨w.heap.size + 1, 2, none⟩ = some (.int .u64 m) ∧ w'.cell? ⟨w.heap.size + 1, 3, none⟩ = some (.int .i64 i) ∧ w'.cell? ⟨w.heap.size + 1 + 1, 1, none⟩ = some (.bool (!s)) ∧ w'.cell? ⟨w.heap.size + 1 + 1, 2, none⟩ = some (.int .u64 n) ∧ w'.cell? ⟨w.heap.size + 1 + 1, 3, none⟩ = some (.int .i64 j)) (first | (go_split_ands; (with_reducible (refine ⟨keepc hb1 ?_, keepc hb1 ?_, keepc hb1 ?_, keepc hb1 ?_, keepc hb1 ?_, keepc hb1 ?_, keepc hb1 ?_, keepc hb1 ?_, keepc hb1 ?_⟩)); all_goals assumption) | (go_split_ands; (with_reducible (refine ⟨keep_set4 ?_ ?_, keep_set4 ?_ ?_, keep_set4 ?_ ?_, keep_set4 ?_ ?_, keep_set4 ?_ ?_, keep_set4 ?_ ?_, keep_set4 ?_ ?_, keep_set4 ?_ ?_, keep_set4 ?_ ?_⟩)); all_goals (first | assumption | omega)) | go_keep)
    (first
      | (go_at_call 57; refine (nat_any m _ (by omega)).mono ?_; rintro e w1 ⟨v1, rfl, hv1, hb1⟩)
      | (go_at_call 75; refine (up_is _ m X _ _ hv1 (by omega) (by omega) (by omega) HX.out).mono ?_; rintro e w1 ⟨v1, rfl, hx, hb1⟩))
  clear hv1 c1 c2 c3
  go_wp2_with fail
  go_region_held3 (fun w' => w'.cell? ⟨w.heap.size, 0, none⟩ = some (.int .i64 24) ∧ w'.cell? ⟨w.heap.size, 1, none⟩ = some (.int .i64 (-149)) ∧ w'.cell? ⟨w.heap.size, 2, none⟩ = some (.int .i64 104) ∧ w'.cell? ⟨w.heap.size + 1, 1, none⟩ = some (.bool s) ∧ w'.cell? ⟨w.heap.size + 1, 2, none⟩ = some (.int .u64 m) ∧ w'.cell? ⟨w.heap.size + 1, 3, none⟩ = some (.int .i64 i) ∧ w'.cell? ⟨w.heap.size + 1 + 1, 1, none⟩ = some (.bool (!s)) ∧ w'.cell? ⟨w.heap.size + 1 + 1, 2, none⟩ = some (.int .u64 n) ∧ w'.cell? ⟨w.heap.size + 1 + 1, 3, none⟩ = some (.int .i64 j)) (first | (go_split_ands; (with_reducible (refine ⟨keepc hb1 ?_, keepc hb1 ?_, keepc hb1 ?_, keepc hb1 ?_, keepc hb1 ?_, keepc hb1 ?_, keepc hb1 ?_, keepc hb1 ?_, keepc hb1 ?_⟩)); all_goals assumption) | (go_split_ands; (with_reducible (refine ⟨keep_set4 ?_ ?_, keep_set4 ?_ ?_, keep_set4 ?_ ?_, keep_set4 ?_ ?_, keep_set4 ?_ ?_, keep_set4 ?_ ?_, keep_set4 ?_ ?_, keep_set4 ?_ ?_, keep_set4 ?_ ?_⟩)); all_goals (first | assumption | omega)) | go_keep)
    (first
      | (go_at_call 57; refine (nat_any n _ (by omega)).mono ?_; rintro e w1 ⟨v1, rfl, hv1, hb1⟩; replace hx := (hx.drewN 1).below hb1)
      | (go_at_call 75; refine (up_is _ n Y _ _ hv1 (by omega) (by omega) (by omega) HY.out).mono ?_; rintro e w1 ⟨v1, rfl, hy, hb1⟩; replace hx := hx.below hb1))
  clear hv1
  go_wp2_with fail
  refine (against_is _ _ X Y (1) _ hx hy (by omega) HCMP.out).mono ?_
  rintro e _ ⟨rfl, n1, rfl⟩
  go_wp2_with fail
  go_region_held3 (fun w' => w'.cell? ⟨w.heap.size, 0, none⟩ = some (.int .i64 24) ∧ w'.cell? ⟨w.heap.size, 1, none⟩ = some (.int .i64 (-149)) ∧ w'.cell? ⟨w.heap.size, 2, none⟩ = some (.int .i64 104) ∧ w'.cell? ⟨w.heap.size + 1, 1, none⟩ = some (.bool s) ∧ w'.cell? ⟨w.heap.size + 1, 2, none⟩ = some (.int .u64 m) ∧ w'.cell? ⟨w.heap.size + 1, 3, none⟩ = some (.int .i64 i) ∧ w'.cell? ⟨w.heap.size + 1 + 1, 1, none⟩ = some (.bool (!s)) ∧ w'.cell? ⟨w.heap.size + 1 + 1, 2, none⟩ = some (.int .u64 n) ∧ w'.cell? ⟨w.heap.size + 1 + 1, 3, none⟩ = some (.int .i64 j)) (first | (go_split_ands; (with_reducible (refine ⟨keepc hb1 ?_, keepc hb1 ?_, keepc hb1 ?_, keepc hb1 ?_, keepc hb1 ?_, keepc hb1 ?_, keepc hb1 ?_, keepc hb1 ?_, keepc hb1 ?_⟩)); all_goals assumption) | (go_split_ands; (with_reducible (refine ⟨keep_set4 ?_ ?_, keep_set4 ?_ ?_, keep_set4 ?_ ?_, keep_set4 ?_ ?_, keep_set4 ?_ ?_, keep_set4 ?_ ?_, keep_set4 ?_ ?_, keep_set4 ?_ ?_, keep_set4 ?_ ?_⟩)); all_goals (first | assumption | omega)) | go_keep)
    (first
      | (go_at_call 79; refine (less_any _ _ X Y _ (hx.drewN _) (hy.drewN _) (by omega) HLE.out).mono ?_; rintro e w1 ⟨v1, rfl, hv1, hb1⟩)
      | (go_at_call 55; refine (HR.out _ _ hv1).mono ?_; rintro e w1 ⟨rfl, hb1⟩; have hB : Below ((((w.alloc (.cells #[.int .i64 24, .int .i64 (-149), .int .i64 104] 68)).alloc (.cells #[.int .u8 3, .bool s, .int .u64 m, .int .i64 i] 65)).alloc (.cells #[.int .u8 3, .bool (!s), .int .u64 n, .int .i64 j] 65)).alloc (.cells #[.int .u8 0, .bool false, .int .u64 0, .int .i64 0] 65)).heap.size ((((w.alloc (.cells #[.int .i64 24, .int .i64 (-149), .int .i64 104] 68)).alloc (.cells #[.int .u8 3, .bool s, .int .u64 m, .int .i64 i] 65)).alloc (.cells #[.int .u8 3, .bool (!s), .int .u64 n, .int .i64 j] 65)).alloc (.cells #[.int .u8 0, .bool false, .int .u64 0, .int .i64 0] 65)) w1 := (by repeat (first | exact Below.refl _ _ | refine bs_alloc ?_ _ | refine bs_drew ?_ | refine bs_drewN ?_ _ | (refine bs_step ?_ (by assumption)))); obtain ⟨hc, hf⟩ := bel_cells hB))
  go_wp2
  exact bodyPost_ret (v := val t0 t1 t2 t3) (by simp [results, Try.results87, go_sem, hc, val]) rfl ⟨rfl, bel_set4 (bel_four _ _ _ _ _ hB) (by omega) _ _ _ _⟩

set_option maxHeartbeats 4000000 in
theorem sum_ge_same (s : Bool) (m n X Y : Nat) (i j : Int) (hm : m < 16777216) (hn : n < 16777216) (hi : -149 ≤ i) (hi2 : i ≤ 104) (hj : -149 ≤ j) (hj2 : j ≤ 104)
    (hij : ¬ j < i) (hX : m * 2 ^ (0 : Int).toNat = X) (hY : n * 2 ^ (j - i).toNat = Y) (w : World) :
    Calls Try.prog 87 #[frm, val 3 s m i, val 3 s n j] w (Ret w (encD (single.read (single.nearest s (X + Y) i)))) := by
  have bX : bsize X ≤ 300 := by rw [← hX]; have h1 := bsize_shift m ((0 : Int)).toNat; have h2 := bsize_of_lt (a := m) (k := 24) (by omega); omega
  have bY : bsize Y ≤ 300 := by rw [← hY]; have h1 := bsize_shift n ((j - i)).toNat; have h2 := bsize_of_lt (a := n) (k := 24) (by omega); omega
  have bm : bsize m ≤ 24 := bsize_of_lt (k := 24) (by omega)
  have bn : bsize n ≤ 24 := bsize_of_lt (k := 24) (by omega)
  obtain ⟨t0, t1, t2, t3, he⟩ := encD_form (single.read (single.nearest s (X + Y) i))
  have bN : bsize (X + Y) ≤ 301 := by have := bsize_add X Y 300 bX bY; omega
  have hround := fun v W (hh : IsN W v (X + Y)) => rounded_any s v (X + Y) i W hh (by omega) (by omega) (by omega)
  rw [he] at hround ⊢
  unfold val at hround
  have HR := Lib.hid hround
  clear hround he
  have HX := Lib.hid hX
  have HY := Lib.hid hY
  have hz : IntKind.i64.wrap 0 = 0 := rfl
  have hsub : IntKind.i64.wrap (j - i) = j - i := IntWalk.i64_in _ (by omega)
  have hdif : j - i ≤ 1000 := by omega
  clear hX hY
  have c1 : ((((w.alloc (.cells #[.int .i64 24, .int .i64 (-149), .int .i64 104] 68)).alloc (.cells #[.int .u8 3, .bool s, .int .u64 m, .int .i64 i] 65)).alloc (.cells #[.int .u8 3, .bool s, .int .u64 n, .int .i64 j] 65)).alloc (.cells #[.int .u8 0, .bool false, .int .u64 0, .int .i64 0] 65)).cell? ⟨w.heap.size + 1 + 1, 1, none⟩ = some (.bool s) := by
    rw [World.cell?_alloc_past _ _ _ (by simp), World.cell?_alloc_at _ _ _ _ (by simp)]; rfl
  have c2 : ((((w.alloc (.cells #[.int .i64 24, .int .i64 (-149), .int .i64 104] 68)).alloc (.cells #[.int .u8 3, .bool s, .int .u64 m, .int .i64 i] 65)).alloc (.cells #[.int .u8 3, .bool s, .int .u64 n, .int .i64 j] 65)).alloc (.cells #[.int .u8 0, .bool false, .int .u64 0, .int .i64 0] 65)).cell? ⟨w.heap.size + 1 + 1, 2, none⟩ = some (.int .u64 n) := by
    rw [World.cell?_alloc_past _ _ _ (by simp), World.cell?_alloc_at _ _ _ _ (by simp)]; rfl
  have c3 : ((((w.alloc (.cells #[.int .i64 24, .int .i64 (-149), .int .i64 104] 68)).alloc (.cells #[.int .u8 3, .bool s, .int .u64 m, .int .i64 i] 65)).alloc (.cells #[.int .u8 3, .bool s, .int .u64 n, .int .i64 j] 65)).alloc (.cells #[.int .u8 0, .bool false, .int .u64 0, .int .i64 0] 65)).cell? ⟨w.heap.size + 1 + 1, 3, none⟩ = some (.int .i64 j) := by
    rw [World.cell?_alloc_past _ _ _ (by simp), World.cell?_alloc_at _ _ _ _ (by simp)]; rfl
  unfold frm val
  go_enter Try.func87, Try.ntmps87
  go_wp2_with fail
  go_region_held3 (fun w' => w'.cell? ⟨w.heap.size, 0, none⟩ = some (.int .i64 24) ∧ w'.cell? ⟨w.heap.size, 1, none⟩ = some (.int .i64 (-149)) ∧ w'.cell? ⟨w.heap.size, 2, none⟩ = some (.int .i64 104) ∧ w'.cell? ⟨w.heap.size + 1, 1, none⟩ = some (.bool s) ∧ w'.cell? ⟨w.heap.size + 1, 2, none⟩ = some (.int .u64 m) ∧ w'.cell? ⟨w.heap.size + 1, 3, none⟩ = some (.int .i64 i) ∧ w'.cell? ⟨w.heap.size + 1 + 1, 1, none⟩ = some (.bool s) ∧ w'.cell? ⟨w.heap.size + 1 + 1, 2, none⟩ = some (.int .u64 n) ∧ w'.cell? ⟨w.heap.size + 1 + 1, 3, none⟩ = some (.int .i64 j)) (first | (go_split_ands; (with_reducible (refine ⟨keepc hb1 ?_, keepc hb1 ?_, keepc hb1 ?_, keepc hb1 ?_, keepc hb1 ?_, keepc hb1 ?_, keepc hb1 ?_, keepc hb1 ?_, keepc hb1 ?_⟩)); all_goals assumption) | (go_split_ands; (with_reducible (refine ⟨keep_set4 ?_ ?_, keep_set4 ?_ ?_, keep_set4 ?_ ?_, keep_set4 ?_ ?_, keep_set4 ?_ ?_, keep_set4 ?_ ?_, keep_set4 ?_ ?_, keep_set4 ?_ ?_, keep_set4 ?_ ?_⟩)); all_goals (first | assumption | omega)) | go_keep)
    (first
      | (go_at_call 57; refine (nat_any m _ (by omega)).mono ?_; rintro e w1 ⟨v1, rfl, hv1, hb1⟩)
      | (go_at_call 75; refine (up_is _ m X _ _ hv1 (by omega) (by omega) (by omega) HX.out).mono ?_; rintro e w1 ⟨v1, rfl, hx, hb1⟩))
  clear hv1 c1 c2 c3
  go_wp2_with fail
  go_region_held3 (fun w' => w'.cell? ⟨w.heap.size, 0, none⟩ = some (.int .i64 24) ∧ w'.cell? ⟨w.heap.size, 1, none⟩ = some (.int .i64 (-149)) ∧ w'.cell? ⟨w.heap.size, 2, none⟩ = some (.int .i64 104) ∧ w'.cell? ⟨w.heap.size + 1, 1, none⟩ = some (.bool s) ∧ w'.cell? ⟨w.heap.size + 1, 2, none⟩ = some (.int .u64 m) ∧ w'.cell? ⟨w.heap.size + 1, 3, none⟩ = some (.int .i64 i) ∧ w'.cell? ⟨w.heap.size + 1 + 1, 1, none⟩ = some (.bool s) ∧ w'.cell? ⟨w.heap.size + 1 + 1, 2, none⟩ = some (.int .u64 n) ∧ w'.cell? ⟨w.heap.size + 1 + 1, 3, none⟩ = some (.int .i64 j)) (first | (go_split_ands; (with_reducible (refine ⟨keepc hb1 ?_, keepc hb1 ?_, keepc hb1 ?_, keepc hb1 ?_, keepc hb1 ?_, keepc hb1 ?_, keepc hb1 ?_, keepc hb1 ?_, keepc hb1 ?_⟩)); all_goals assumption) | (go_split_ands; (with_reducible (refine ⟨keep_set4 ?_ ?_, keep_set4 ?_ ?_, keep_set4 ?_ ?_, keep_set4 ?_ ?_, keep_set4 ?_ ?_, keep_set4 ?_ ?_, keep_set4 ?_ ?_, keep_set4 ?_ ?_, keep_set4 ?_ ?_⟩)); all_goals (first | assumption | omega)) | go_keep)
    (first
      | (go_at_call 57; refine (nat_any n _ (by omega)).mono ?_; rintro e w1 ⟨v1, rfl, hv1, hb1⟩; replace hx := (hx.drewN 1).below hb1)
      | (go_at_call 75; refine (up_is _ n Y _ _ hv1 (by omega) (by omega) (by omega) HY.out).mono ?_; rintro e w1 ⟨v1, rfl, hy, hb1⟩; replace hx := hx.below hb1))
  clear hv1
  go_wp2_with fail
  go_region_held3 (fun w' => w'.cell? ⟨w.heap.size, 0, none⟩ = some (.int .i64 24) ∧ w'.cell? ⟨w.heap.size, 1, none⟩ = some (.int .i64 (-149)) ∧ w'.cell? ⟨w.heap.size, 2, none⟩ = some (.int .i64 104) ∧ w'.cell? ⟨w.heap.size + 1, 1, none⟩ = some (.bool s) ∧ w'.cell? ⟨w.heap.size + 1, 2, none⟩ = some (.int .u64 m) ∧ w'.cell? ⟨w.heap.size + 1, 3, none⟩ = some (.int .i64 i) ∧ w'.cell? ⟨w.heap.size + 1 + 1, 1, none⟩ = some (.bool s) ∧ w'.cell? ⟨w.heap.size + 1 + 1, 2, none⟩ = some (.int .u64 n) ∧ w'.cell? ⟨w.heap.size + 1 + 1, 3, none⟩ = some (.int .i64 j)) (first | (go_split_ands; (with_reducible (refine ⟨keepc hb1 ?_, keepc hb1 ?_, keepc hb1 ?_, keepc hb1 ?_, keepc hb1 ?_, keepc hb1 ?_, keepc hb1 ?_, keepc hb1 ?_, keepc hb1 ?_⟩)); all_goals assumption) | (go_split_ands; (with_reducible (refine ⟨keep_set4 ?_ ?_, keep_set4 ?_ ?_, keep_set4 ?_ ?_, keep_set4 ?_ ?_, keep_set4 ?_ ?_, keep_set4 ?_ ?_, keep_set4 ?_ ?_, keep_set4 ?_ ?_, keep_set4 ?_ ?_⟩)); all_goals (first | assumption | omega)) | go_keep)
    (first
      | (go_at_call 74; refine (plus_any _ _ X Y _ (hx.drewN 1) (hy.drewN 1) (by omega) (by omega)).mono ?_; rintro e w1 ⟨v1, rfl, hv1, hb1⟩)
      | (go_at_call 55; refine (HR.out _ _ hv1).mono ?_; rintro e w1 ⟨rfl, hb1⟩; have hB : Below ((((w.alloc (.cells #[.int .i64 24, .int .i64 (-149), .int .i64 104] 68)).alloc (.cells #[.int .u8 3, .bool s, .int .u64 m, .int .i64 i] 65)).alloc (.cells #[.int .u8 3, .bool s, .int .u64 n, .int .i64 j] 65)).alloc (.cells #[.int .u8 0, .bool false, .int .u64 0, .int .i64 0] 65)).heap.size ((((w.alloc (.cells #[.int .i64 24, .int .i64 (-149), .int .i64 104] 68)).alloc (.cells #[.int .u8 3, .bool s, .int .u64 m, .int .i64 i] 65)).alloc (.cells #[.int .u8 3, .bool s, .int .u64 n, .int .i64 j] 65)).alloc (.cells #[.int .u8 0, .bool false, .int .u64 0, .int .i64 0] 65)) w1 := (by repeat (first | exact Below.refl _ _ | refine bs_alloc ?_ _ | refine bs_drew ?_ | refine bs_drewN ?_ _ | (refine bs_step ?_ (by assumption)))); obtain ⟨hc, hf⟩ := bel_cells hB))
  go_wp2
  exact bodyPost_ret (v := val t0 t1 t2 t3) (by simp [results, Try.results87, go_sem, hc, val]) rfl ⟨rfl, bel_set4 (bel_four _ _ _ _ _ hB) (by omega) _ _ _ _⟩

set_option maxHeartbeats 4000000 in
theorem sum_ge_even (s : Bool) (m n X Y : Nat) (i j : Int) (hm : m < 16777216) (hn : n < 16777216) (hi : -149 ≤ i) (hi2 : i ≤ 104) (hj : -149 ≤ j) (hj2 : j ≤ 104)
    (hij : ¬ j < i) (hX : m * 2 ^ (0 : Int).toNat = X) (hY : n * 2 ^ (j - i).toNat = Y) (h : X = Y) (w : World) :
    Calls Try.prog 87 #[frm, val 3 s m i, val 3 (!s) n j] w (Ret w (encD (Datum.number false 0 (-149)))) := by
  have bX : bsize X ≤ 300 := by rw [← hX]; have h1 := bsize_shift m ((0 : Int)).toNat; have h2 := bsize_of_lt (a := m) (k := 24) (by omega); omega
  have bY : bsize Y ≤ 300 := by rw [← hY]; have h1 := bsize_shift n ((j - i)).toNat; have h2 := bsize_of_lt (a := n) (k := 24) (by omega); omega
  have bm : bsize m ≤ 24 := bsize_of_lt (k := 24) (by omega)
  have bn : bsize n ≤ 24 := bsize_of_lt (k := 24) (by omega)
  have he : encD (Datum.number false 0 (-149)) = val 3 false 0 (-149) := rfl
  rw [he]
  clear he
  have HCMP := Lib.hid (show cmpI X Y = 0 from by unfold cmpI; rw [if_neg (by omega), if_pos h])
  have HX := Lib.hid hX
  have HY := Lib.hid hY
  have hz : IntKind.i64.wrap 0 = 0 := rfl
  have hsub : IntKind.i64.wrap (j - i) = j - i := IntWalk.i64_in _ (by omega)
  have hdif : j - i ≤ 1000 := by omega
  have hst : (s == (!s)) = false := by cases s <;> rfl
  clear hX hY h
  have c1 : ((((w.alloc (.cells #[.int .i64 24, .int .i64 (-149), .int .i64 104] 68)).alloc (.cells #[.int .u8 3, .bool s, .int .u64 m, .int .i64 i] 65)).alloc (.cells #[.int .u8 3, .bool (!s), .int .u64 n, .int .i64 j] 65)).alloc (.cells #[.int .u8 0, .bool false, .int .u64 0, .int .i64 0] 65)).cell? ⟨w.heap.size + 1 + 1, 1, none⟩ = some (.bool (!s)) := by
    rw [World.cell?_alloc_past _ _ _ (by simp), World.cell?_alloc_at _ _ _ _ (by simp)]; rfl
  have c2 : ((((w.alloc (.cells #[.int .i64 24, .int .i64 (-149), .int .i64 104] 68)).alloc (.cells #[.int .u8 3, .bool s, .int .u64 m, .int .i64 i] 65)).alloc (.cells #[.int .u8 3, .bool (!s), .int .u64 n, .int .i64 j] 65)).alloc (.cells #[.int .u8 0, .bool false, .int .u64 0, .int .i64 0] 65)).cell? ⟨w.heap.size + 1 + 1, 2, none⟩ = some (.int .u64 n) := by
    rw [World.cell?_alloc_past _ _ _ (by simp), World.cell?_alloc_at _ _ _ _ (by simp)]; rfl
  have c3 : ((((w.alloc (.cells #[.int .i64 24, .int .i64 (-149), .int .i64 104] 68)).alloc (.cells #[.int .u8 3, .bool s, .int .u64 m, .int .i64 i] 65)).alloc (.cells #[.int .u8 3, .bool (!s), .int .u64 n, .int .i64 j] 65)).alloc (.cells #[.int .u8 0, .bool false, .int .u64 0, .int .i64 0] 65)).cell? ⟨w.heap.size + 1 + 1, 3, none⟩ = some (.int .i64 j) := by
    rw [World.cell?_alloc_past _ _ _ (by simp), World.cell?_alloc_at _ _ _ _ (by simp)]; rfl
  unfold frm val
  go_enter Try.func87, Try.ntmps87
  go_wp2_with fail
  go_region_held3 (fun w' => w'.cell? ⟨w.heap.size, 0, none⟩ = some (.int .i64 24) ∧ w'.cell? ⟨w.heap.size, 1, none⟩ = some (.int .i64 (-149)) ∧ w'.cell? ⟨w.heap.size, 2, none⟩ = some (.int .i64 104) ∧ w'.cell? ⟨w.heap.size + 1, 1, none⟩ = some (.bool s) ∧ w'.cell? ⟨w.heap.size + 1, 2, none⟩ = some (.int .u64 m) ∧ w'.cell? ⟨w.heap.size + 1, 3, none⟩ = some (.int .i64 i) ∧ w'.cell? ⟨w.heap.size + 1 + 1, 1, none⟩ = some (.bool (!s)) ∧ w'.cell? ⟨w.heap.size + 1 + 1, 2, none⟩ = some (.int .u64 n) ∧ w'.cell? ⟨w.heap.size + 1 + 1, 3, none⟩ = some (.int .i64 j)) (first | (go_split_ands; (with_reducible (refine ⟨keepc hb1 ?_, keepc hb1 ?_, keepc hb1 ?_, keepc hb1 ?_, keepc hb1 ?_, keepc hb1 ?_, keepc hb1 ?_, keepc hb1 ?_, keepc hb1 ?_⟩)); all_goals assumption) | (go_split_ands; (with_reducible (refine ⟨keep_set4 ?_ ?_, keep_set4 ?_ ?_, keep_set4 ?_ ?_, keep_set4 ?_ ?_, keep_set4 ?_ ?_, keep_set4 ?_ ?_, keep_set4 ?_ ?_, keep_set4 ?_ ?_, keep_set4 ?_ ?_⟩)); all_goals (first | assumption | omega)) | go_keep)
    (first
      | (go_at_call 57; refine (nat_any m _ (by omega)).mono ?_; rintro e w1 ⟨v1, rfl, hv1, hb1⟩)
      | (go_at_call 75; refine (up_is _ m X _ _ hv1 (by omega) (by omega) (by omega) HX.out).mono ?_; rintro e w1 ⟨v1, rfl, hx, hb1⟩))
  clear hv1 c1 c2 c3
  go_wp2_with fail
  go_region_held3 (fun w' => w'.cell? ⟨w.heap.size, 0, none⟩ = some (.int .i64 24) ∧ w'.cell? ⟨w.heap.size, 1, none⟩ = some (.int .i64 (-149)) ∧ w'.cell? ⟨w.heap.size, 2, none⟩ = some (.int .i64 104) ∧ w'.cell? ⟨w.heap.size + 1, 1, none⟩ = some (.bool s) ∧ w'.cell? ⟨w.heap.size + 1, 2, none⟩ = some (.int .u64 m) ∧ w'.cell? ⟨w.heap.size + 1, 3, none⟩ = some (.int .i64 i) ∧ w'.cell? ⟨w.heap.size + 1 + 1, 1, none⟩ = some (.bool (!s)) ∧ w'.cell? ⟨w.heap.size + 1 + 1, 2, none⟩ = some (.int .u64 n) ∧ w'.cell? ⟨w.heap.size + 1 + 1, 3, none⟩ = some (.int .i64 j)) (first | (go_split_ands; (with_reducible (refine ⟨keepc hb1 ?_, keepc hb1 ?_, keepc hb1 ?_, keepc hb1 ?_, keepc hb1 ?_, keepc hb1 ?_, keepc hb1 ?_, keepc hb1 ?_, keepc hb1 ?_⟩)); all_goals assumption) | (go_split_ands; (with_reducible (refine ⟨keep_set4 ?_ ?_, keep_set4 ?_ ?_, keep_set4 ?_ ?_, keep_set4 ?_ ?_, keep_set4 ?_ ?_, keep_set4 ?_ ?_, keep_set4 ?_ ?_, keep_set4 ?_ ?_, keep_set4 ?_ ?_⟩)); all_goals (first | assumption | omega)) | go_keep)
    (first
      | (go_at_call 57; refine (nat_any n _ (by omega)).mono ?_; rintro e w1 ⟨v1, rfl, hv1, hb1⟩; replace hx := (hx.drewN 1).below hb1)
      | (go_at_call 75; refine (up_is _ n Y _ _ hv1 (by omega) (by omega) (by omega) HY.out).mono ?_; rintro e w1 ⟨v1, rfl, hy, hb1⟩; replace hx := hx.below hb1))
  clear hv1
  go_wp2_with fail
  refine (against_is _ _ X Y (0) _ hx hy (by omega) HCMP.out).mono ?_
  rintro e _ ⟨rfl, n1, rfl⟩
  go_wp2_with fail
  refine (nought_any false _).mono ?_
  rintro e w1 ⟨rfl, hb1⟩
  have hB : Below ((((w.alloc (.cells #[.int .i64 24, .int .i64 (-149), .int .i64 104] 68)).alloc (.cells #[.int .u8 3, .bool s, .int .u64 m, .int .i64 i] 65)).alloc (.cells #[.int .u8 3, .bool (!s), .int .u64 n, .int .i64 j] 65)).alloc (.cells #[.int .u8 0, .bool false, .int .u64 0, .int .i64 0] 65)).heap.size ((((w.alloc (.cells #[.int .i64 24, .int .i64 (-149), .int .i64 104] 68)).alloc (.cells #[.int .u8 3, .bool s, .int .u64 m, .int .i64 i] 65)).alloc (.cells #[.int .u8 3, .bool (!s), .int .u64 n, .int .i64 j] 65)).alloc (.cells #[.int .u8 0, .bool false, .int .u64 0, .int .i64 0] 65)) w1 := (by repeat (first | exact Below.refl _ _ | refine bs_alloc ?_ _ | refine bs_drew ?_ | refine bs_drewN ?_ _ | (refine bs_step ?_ (by assumption))))
  obtain ⟨hc, hf⟩ := bel_cells hB
  unfold val
  go_wp2
  exact bodyPost_ret (v := val 3 false 0 (-149)) (by simp [results, Try.results87, go_sem, hc, val]) rfl ⟨rfl, bel_set4 (bel_four _ _ _ _ _ hB) (by omega) _ _ _ _⟩

set_option maxHeartbeats 4000000 in
theorem sum_ge_below (s : Bool) (m n X Y : Nat) (i j : Int) (hm : m < 16777216) (hn : n < 16777216) (hi : -149 ≤ i) (hi2 : i ≤ 104) (hj : -149 ≤ j) (hj2 : j ≤ 104)
    (hij : ¬ j < i) (hX : m * 2 ^ (0 : Int).toNat = X) (hY : n * 2 ^ (j - i).toNat = Y) (h : X < Y) (w : World) :
    Calls Try.prog 87 #[frm, val 3 s m i, val 3 (!s) n j] w (Ret w (encD (single.read (single.nearest (!s) (Y - X) i)))) := by
  have bX : bsize X ≤ 300 := by rw [← hX]; have h1 := bsize_shift m ((0 : Int)).toNat; have h2 := bsize_of_lt (a := m) (k := 24) (by omega); omega
  have bY : bsize Y ≤ 300 := by rw [← hY]; have h1 := bsize_shift n ((j - i)).toNat; have h2 := bsize_of_lt (a := n) (k := 24) (by omega); omega
  have bm : bsize m ≤ 24 := bsize_of_lt (k := 24) (by omega)
  have bn : bsize n ≤ 24 := bsize_of_lt (k := 24) (by omega)
  obtain ⟨t0, t1, t2, t3, he⟩ := encD_form (single.read (single.nearest (!s) (Y - X) i))
  have bN : bsize (Y - X) ≤ 301 := by have := bsize_mono (Nat.sub_le Y X); omega
  have hround := fun v W (hh : IsN W v (Y - X)) => rounded_any (!s) v (Y - X) i W hh (by omega) (by omega) (by omega)
  rw [he] at hround ⊢
  unfold val at hround
  have HR := Lib.hid hround
  clear hround he
  have HCMP := Lib.hid (show cmpI X Y = -1 from by unfold cmpI; rw [if_pos h])
  have HLE := Lib.hid (show X ≤ Y from by omega)
  have HX := Lib.hid hX
  have HY := Lib.hid hY
  have hz : IntKind.i64.wrap 0 = 0 := rfl
  have hsub : IntKind.i64.wrap (j - i) = j - i := IntWalk.i64_in _ (by omega)
  have hdif : j - i ≤ 1000 := by omega
  have hst : (s == (!s)) = false := by cases s <;> rfl
  clear hX hY h
  have c1 : ((((w.alloc (.cells #[.int .i64 24, .int .i64 (-149), .int .i64 104] 68)).alloc (.cells #[.int .u8 3, .bool s, .int .u64 m, .int .i64 i] 65)).alloc (.cells #[.int .u8 3, .bool (!s), .int .u64 n, .int .i64 j] 65)).alloc (.cells #[.int .u8 0, .bool false, .int .u64 0, .int .i64 0] 65)).cell? ⟨w.heap.size + 1 + 1, 1, none⟩ = some (.bool (!s)) := by
    rw [World.cell?_alloc_past _ _ _ (by simp), World.cell?_alloc_at _ _ _ _ (by simp)]; rfl
  have c2 : ((((w.alloc (.cells #[.int .i64 24, .int .i64 (-149), .int .i64 104] 68)).alloc (.cells #[.int .u8 3, .bool s, .int .u64 m, .int .i64 i] 65)).alloc (.cells #[.int .u8 3, .bool (!s), .int .u64 n, .int .i64 j] 65)).alloc (.cells #[.int .u8 0, .bool false, .int .u64 0, .int .i64 0] 65)).cell? ⟨w.heap.size + 1 + 1, 2, none⟩ = some (.int .u64 n) := by
    rw [World.cell?_alloc_past _ _ _ (by simp), World.cell?_alloc_at _ _ _ _ (by simp)]; rfl
  have c3 : ((((w.alloc (.cells #[.int .i64 24, .int .i64 (-149), .int .i64 104] 68)).alloc (.cells #[.int .u8 3, .bool s, .int .u64 m, .int .i64 i] 65)).alloc (.cells #[.int .u8 3, .bool (!s), .int .u64 n, .int .i64 j] 65)).alloc (.cells #[.int .u8 0, .bool false, .int .u64 0, .int .i64 0] 65)).cell? ⟨w.heap.size + 1 + 1, 3, none⟩ = some (.int .i64 j) := by
    rw [World.cell?_alloc_past _ _ _ (by simp), World.cell?_alloc_at _ _ _ _ (by simp)]; rfl
  unfold frm val
  go_enter Try.func87, Try.ntmps87
  go_wp2_with fail
  go_region_held3 (fun w' => w'.cell? ⟨w.heap.size, 0, none⟩ = some (.int .i64 24) ∧ w'.cell? ⟨w.heap.size, 1, none⟩ = some (.int .i64 (-149)) ∧ w'.cell? ⟨w.heap.size, 2, none⟩ = some (.int .i64 104) ∧ w'.cell? ⟨w.heap.size + 1, 1, none⟩ = some (.bool s) ∧ w'.cell? ⟨w.heap.size + 1, 2, none⟩ = some (.int .u64 m) ∧ w'.cell? ⟨w.heap.size + 1, 3, none⟩ = some (.int .i64 i) ∧ w'.cell? ⟨w.heap.size + 1 + 1, 1, none⟩ = some (.bool (!s)) ∧ w'.cell? ⟨w.heap.size + 1 + 1, 2, none⟩ = some (.int .u64 n) ∧ w'.cell? ⟨w.heap.size + 1 + 1, 3, none⟩ = some (.int .i64 j)) (first | (go_split_ands; (with_reducible (refine ⟨keepc hb1 ?_, keepc hb1 ?_, keepc hb1 ?_, keepc hb1 ?_, keepc hb1 ?_, keepc hb1 ?_, keepc hb1 ?_, keepc hb1 ?_, keepc hb1 ?_⟩)); all_goals assumption) | (go_split_ands; (with_reducible (refine ⟨keep_set4 ?_ ?_, keep_set4 ?_ ?_, keep_set4 ?_ ?_, keep_set4 ?_ ?_, keep_set4 ?_ ?_, keep_set4 ?_ ?_, keep_set4 ?_ ?_, keep_set4 ?_ ?_, keep_set4 ?_ ?_⟩)); all_goals (first | assumption | omega)) | go_keep)
    (first
      | (go_at_call 57; refine (nat_any m _ (by omega)).mono ?_; rintro e w1 ⟨v1, rfl, hv1, hb1⟩)
      | (go_at_call 75; refine (up_is _ m X _ _ hv1 (by omega) (by omega) (by omega) HX.out).mono ?_; rintro e w1 ⟨v1, rfl, hx, hb1⟩))
  clear hv1 c1 c2 c3
  go_wp2_with fail
  go_region_held3 (fun w' => w'.cell? ⟨w.heap.size, 0, none⟩ = some (.int .i64 24) ∧ w'.cell? ⟨w.heap.size, 1, none⟩ = some (.int .i64 (-149)) ∧ w'.cell? ⟨w.heap.size, 2, none⟩ = some (.int .i64 104) ∧ w'.cell? ⟨w.heap.size + 1, 1, none⟩ = some (.bool s) ∧ w'.cell? ⟨w.heap.size + 1, 2, none⟩ = some (.int .u64 m) ∧ w'.cell? ⟨w.heap.size + 1, 3, none⟩ = some (.int .i64 i) ∧ w'.cell? ⟨w.heap.size + 1 + 1, 1, none⟩ = some (.bool (!s)) ∧ w'.cell? ⟨w.heap.size + 1 + 1, 2, none⟩ = some (.int .u64 n) ∧ w'.cell? ⟨w.heap.size + 1 + 1, 3, none⟩ = some (.int .i64 j)) (first | (go_split_ands; (with_reducible (refine ⟨keepc hb1 ?_, keepc hb1 ?_, keepc hb1 ?_, keepc hb1 ?_, keepc hb1 ?_, keepc hb1 ?_, keepc hb1 ?_, keepc hb1 ?_, keepc hb1 ?_⟩)); all_goals assumption) | (go_split_ands; (with_reducible (refine ⟨keep_set4 ?_ ?_, keep_set4 ?_ ?_, keep_set4 ?_ ?_, keep_set4 ?_ ?_, keep_set4 ?_ ?_, keep_set4 ?_ ?_, keep_set4 ?_ ?_, keep_set4 ?_ ?_, keep_set4 ?_ ?_⟩)); all_goals (first | assumption | omega)) | go_keep)
    (first
      | (go_at_call 57; refine (nat_any n _ (by omega)).mono ?_; rintro e w1 ⟨v1, rfl, hv1, hb1⟩; replace hx := (hx.drewN 1).below hb1)
      | (go_at_call 75; refine (up_is _ n Y _ _ hv1 (by omega) (by omega) (by omega) HY.out).mono ?_; rintro e w1 ⟨v1, rfl, hy, hb1⟩; replace hx := hx.below hb1))
  clear hv1
  go_wp2_with fail
  refine (against_is _ _ X Y (-1) _ hx hy (by omega) HCMP.out).mono ?_
  rintro e _ ⟨rfl, n1, rfl⟩
  go_wp2_with fail
  go_region_held3 (fun w' => w'.cell? ⟨w.heap.size, 0, none⟩ = some (.int .i64 24) ∧ w'.cell? ⟨w.heap.size, 1, none⟩ = some (.int .i64 (-149)) ∧ w'.cell? ⟨w.heap.size, 2, none⟩ = some (.int .i64 104) ∧ w'.cell? ⟨w.heap.size + 1, 1, none⟩ = some (.bool s) ∧ w'.cell? ⟨w.heap.size + 1, 2, none⟩ = some (.int .u64 m) ∧ w'.cell? ⟨w.heap.size + 1, 3, none⟩ = some (.int .i64 i) ∧ w'.cell? ⟨w.heap.size + 1 + 1, 1, none⟩ = some (.bool (!s)) ∧ w'.cell? ⟨w.heap.size + 1 + 1, 2, none⟩ = some (.int .u64 n) ∧ w'.cell? ⟨w.heap.size + 1 + 1, 3, none⟩ = some (.int .i64 j)) (first | (go_split_ands; (with_reducible (refine ⟨keepc hb1 ?_, keepc hb1 ?_, keepc hb1 ?_, keepc hb1 ?_, keepc hb1 ?_, keepc hb1 ?_, keepc hb1 ?_, keepc hb1 ?_, keepc hb1 ?_⟩)); all_goals assumption) | (go_split_ands; (with_reducible (refine ⟨keep_set4 ?_ ?_, keep_set4 ?_ ?_, keep_set4 ?_ ?_, keep_set4 ?_ ?_, keep_set4 ?_ ?_, keep_set4 ?_ ?_, keep_set4 ?_ ?_, keep_set4 ?_ ?_, keep_set4 ?_ ?_⟩)); all_goals (first | assumption | omega)) | go_keep)
    (first
      | (go_at_call 79; refine (less_any _ _ Y X _ (hy.drewN _) (hx.drewN _) (by omega) HLE.out).mono ?_; rintro e w1 ⟨v1, rfl, hv1, hb1⟩)
      | (go_at_call 55; refine (HR.out _ _ hv1).mono ?_; rintro e w1 ⟨rfl, hb1⟩; have hB : Below ((((w.alloc (.cells #[.int .i64 24, .int .i64 (-149), .int .i64 104] 68)).alloc (.cells #[.int .u8 3, .bool s, .int .u64 m, .int .i64 i] 65)).alloc (.cells #[.int .u8 3, .bool (!s), .int .u64 n, .int .i64 j] 65)).alloc (.cells #[.int .u8 0, .bool false, .int .u64 0, .int .i64 0] 65)).heap.size ((((w.alloc (.cells #[.int .i64 24, .int .i64 (-149), .int .i64 104] 68)).alloc (.cells #[.int .u8 3, .bool s, .int .u64 m, .int .i64 i] 65)).alloc (.cells #[.int .u8 3, .bool (!s), .int .u64 n, .int .i64 j] 65)).alloc (.cells #[.int .u8 0, .bool false, .int .u64 0, .int .i64 0] 65)) w1 := (by repeat (first | exact Below.refl _ _ | refine bs_alloc ?_ _ | refine bs_drew ?_ | refine bs_drewN ?_ _ | (refine bs_step ?_ (by assumption)))); obtain ⟨hc, hf⟩ := bel_cells hB))
  go_wp2
  exact bodyPost_ret (v := val t0 t1 t2 t3) (by simp [results, Try.results87, go_sem, hc, val]) rfl ⟨rfl, bel_set4 (bel_four _ _ _ _ _ hB) (by omega) _ _ _ _⟩

set_option maxHeartbeats 4000000 in
theorem sum_ge_above (s : Bool) (m n X Y : Nat) (i j : Int) (hm : m < 16777216) (hn : n < 16777216) (hi : -149 ≤ i) (hi2 : i ≤ 104) (hj : -149 ≤ j) (hj2 : j ≤ 104)
    (hij : ¬ j < i) (hX : m * 2 ^ (0 : Int).toNat = X) (hY : n * 2 ^ (j - i).toNat = Y) (h : Y < X) (w : World) :
    Calls Try.prog 87 #[frm, val 3 s m i, val 3 (!s) n j] w (Ret w (encD (single.read (single.nearest s (X - Y) i)))) := by
  have bX : bsize X ≤ 300 := by rw [← hX]; have h1 := bsize_shift m ((0 : Int)).toNat; have h2 := bsize_of_lt (a := m) (k := 24) (by omega); omega
  have bY : bsize Y ≤ 300 := by rw [← hY]; have h1 := bsize_shift n ((j - i)).toNat; have h2 := bsize_of_lt (a := n) (k := 24) (by omega); omega
  have bm : bsize m ≤ 24 := bsize_of_lt (k := 24) (by omega)
  have bn : bsize n ≤ 24 := bsize_of_lt (k := 24) (by omega)
  obtain ⟨t0, t1, t2, t3, he⟩ := encD_form (single.read (single.nearest s (X - Y) i))
  have bN : bsize (X - Y) ≤ 301 := by have := bsize_mono (Nat.sub_le X Y); omega
  have hround := fun v W (hh : IsN W v (X - Y)) => rounded_any s v (X - Y) i W hh (by omega) (by omega) (by omega)
  rw [he] at hround ⊢
  unfold val at hround
  have HR := Lib.hid hround
  clear hround he
  have HCMP := Lib.hid (show cmpI X Y = 1 from by unfold cmpI; rw [if_neg (by omega), if_neg (by omega)])
  have HLE := Lib.hid (show Y ≤ X from by omega)
  have HX := Lib.hid hX
  have HY := Lib.hid hY
  have hz : IntKind.i64.wrap 0 = 0 := rfl
  have hsub : IntKind.i64.wrap (j - i) = j - i := IntWalk.i64_in _ (by omega)
  have hdif : j - i ≤ 1000 := by omega
  have hst : (s == (!s)) = false := by cases s <;> rfl
  clear hX hY h
  have c1 : ((((w.alloc (.cells #[.int .i64 24, .int .i64 (-149), .int .i64 104] 68)).alloc (.cells #[.int .u8 3, .bool s, .int .u64 m, .int .i64 i] 65)).alloc (.cells #[.int .u8 3, .bool (!s), .int .u64 n, .int .i64 j] 65)).alloc (.cells #[.int .u8 0, .bool false, .int .u64 0, .int .i64 0] 65)).cell? ⟨w.heap.size + 1 + 1, 1, none⟩ = some (.bool (!s)) := by
    rw [World.cell?_alloc_past _ _ _ (by simp), World.cell?_alloc_at _ _ _ _ (by simp)]; rfl
  have c2 : ((((w.alloc (.cells #[.int .i64 24, .int .i64 (-149), .int .i64 104] 68)).alloc (.cells #[.int .u8 3, .bool s, .int .u64 m, .int .i64 i] 65)).alloc (.cells #[.int .u8 3, .bool (!s), .int .u64 n, .int .i64 j] 65)).alloc (.cells #[.int .u8 0, .bool false, .int .u64 0, .int .i64 0] 65)).cell? ⟨w.heap.size + 1 + 1, 2, none⟩ = some (.int .u64 n) := by
    rw [World.cell?_alloc_past _ _ _ (by simp), World.cell?_alloc_at _ _ _ _ (by simp)]; rfl
  have c3 : ((((w.alloc (.cells #[.int .i64 24, .int .i64 (-149), .int .i64 104] 68)).alloc (.cells #[.int .u8 3, .bool s, .int .u64 m, .int .i64 i] 65)).alloc (.cells #[.int .u8 3, .bool (!s), .int .u64 n, .int .i64 j] 65)).alloc (.cells #[.int .u8 0, .bool false, .int .u64 0, .int .i64 0] 65)).cell? ⟨w.heap.size + 1 + 1, 3, none⟩ = some (.int .i64 j) := by
    rw [World.cell?_alloc_past _ _ _ (by simp), World.cell?_alloc_at _ _ _ _ (by simp)]; rfl
  unfold frm val
  go_enter Try.func87, Try.ntmps87
  go_wp2_with fail
  go_region_held3 (fun w' => w'.cell? ⟨w.heap.size, 0, none⟩ = some (.int .i64 24) ∧ w'.cell? ⟨w.heap.size, 1, none⟩ = some (.int .i64 (-149)) ∧ w'.cell? ⟨w.heap.size, 2, none⟩ = some (.int .i64 104) ∧ w'.cell? ⟨w.heap.size + 1, 1, none⟩ = some (.bool s) ∧ w'.cell? ⟨w.heap.size + 1, 2, none⟩ = some (.int .u64 m) ∧ w'.cell? ⟨w.heap.size + 1, 3, none⟩ = some (.int .i64 i) ∧ w'.cell? ⟨w.heap.size + 1 + 1, 1, none⟩ = some (.bool (!s)) ∧ w'.cell? ⟨w.heap.size + 1 + 1, 2, none⟩ = some (.int .u64 n) ∧ w'.cell? ⟨w.heap.size + 1 + 1, 3, none⟩ = some (.int .i64 j)) (first | (go_split_ands; (with_reducible (refine ⟨keepc hb1 ?_, keepc hb1 ?_, keepc hb1 ?_, keepc hb1 ?_, keepc hb1 ?_, keepc hb1 ?_, keepc hb1 ?_, keepc hb1 ?_, keepc hb1 ?_⟩)); all_goals assumption) | (go_split_ands; (with_reducible (refine ⟨keep_set4 ?_ ?_, keep_set4 ?_ ?_, keep_set4 ?_ ?_, keep_set4 ?_ ?_, keep_set4 ?_ ?_, keep_set4 ?_ ?_, keep_set4 ?_ ?_, keep_set4 ?_ ?_, keep_set4 ?_ ?_⟩)); all_goals (first | assumption | omega)) | go_keep)
    (first
      | (go_at_call 57; refine (nat_any m _ (by omega)).mono ?_; rintro e w1 ⟨v1, rfl, hv1, hb1⟩)
      | (go_at_call 75; refine (up_is _ m X _ _ hv1 (by omega) (by omega) (by omega) HX.out).mono ?_; rintro e w1 ⟨v1, rfl, hx, hb1⟩))
  clear hv1 c1 c2 c3
  go_wp2_with fail
  go_region_held3 (fun w' => w'.cell? ⟨w.heap.size, 0, none⟩ = some (.int .i64 24) ∧ w'.cell? ⟨w.heap.size, 1, none⟩ = some (.int .i64 (-149)) ∧ w'.cell? ⟨w.heap.size, 2, none⟩ = some (.int .i64 104) ∧ w'.cell? ⟨w.heap.size + 1, 1, none⟩ = some (.bool s) ∧ w'.cell? ⟨w.heap.size + 1, 2, none⟩ = some (.int .u64 m) ∧ w'.cell? ⟨w.heap.size + 1, 3, none⟩ = some (.int .i64 i) ∧ w'.cell? ⟨w.heap.size + 1 + 1, 1, none⟩ = some (.bool (!s)) ∧ w'.cell? ⟨w.heap.size + 1 + 1, 2, none⟩ = some (.int .u64 n) ∧ w'.cell? ⟨w.heap.size + 1 + 1, 3, none⟩ = some (.int .i64 j)) (first | (go_split_ands; (with_reducible (refine ⟨keepc hb1 ?_, keepc hb1 ?_, keepc hb1 ?_, keepc hb1 ?_, keepc hb1 ?_, keepc hb1 ?_, keepc hb1 ?_, keepc hb1 ?_, keepc hb1 ?_⟩)); all_goals assumption) | (go_split_ands; (with_reducible (refine ⟨keep_set4 ?_ ?_, keep_set4 ?_ ?_, keep_set4 ?_ ?_, keep_set4 ?_ ?_, keep_set4 ?_ ?_, keep_set4 ?_ ?_, keep_set4 ?_ ?_, keep_set4 ?_ ?_, keep_set4 ?_ ?_⟩)); all_goals (first | assumption | omega)) | go_keep)
    (first
      | (go_at_call 57; refine (nat_any n _ (by omega)).mono ?_; rintro e w1 ⟨v1, rfl, hv1, hb1⟩; replace hx := (hx.drewN 1).below hb1)
      | (go_at_call 75; refine (up_is _ n Y _ _ hv1 (by omega) (by omega) (by omega) HY.out).mono ?_; rintro e w1 ⟨v1, rfl, hy, hb1⟩; replace hx := hx.below hb1))
  clear hv1
  go_wp2_with fail
  refine (against_is _ _ X Y (1) _ hx hy (by omega) HCMP.out).mono ?_
  rintro e _ ⟨rfl, n1, rfl⟩
  go_wp2_with fail
  go_region_held3 (fun w' => w'.cell? ⟨w.heap.size, 0, none⟩ = some (.int .i64 24) ∧ w'.cell? ⟨w.heap.size, 1, none⟩ = some (.int .i64 (-149)) ∧ w'.cell? ⟨w.heap.size, 2, none⟩ = some (.int .i64 104) ∧ w'.cell? ⟨w.heap.size + 1, 1, none⟩ = some (.bool s) ∧ w'.cell? ⟨w.heap.size + 1, 2, none⟩ = some (.int .u64 m) ∧ w'.cell? ⟨w.heap.size + 1, 3, none⟩ = some (.int .i64 i) ∧ w'.cell? ⟨w.heap.size + 1 + 1, 1, none⟩ = some (.bool (!s)) ∧ w'.cell? ⟨w.heap.size + 1 + 1, 2, none⟩ = some (.int .u64 n) ∧ w'.cell? ⟨w.heap.size + 1 + 1, 3, none⟩ = some (.int .i64 j)) (first | (go_split_ands; (with_reducible (refine ⟨keepc hb1 ?_, keepc hb1 ?_, keepc hb1 ?_, keepc hb1 ?_, keepc hb1 ?_, keepc hb1 ?_, keepc hb1 ?_, keepc hb1 ?_, keepc hb1 ?_⟩)); all_goals assumption) | (go_split_ands; (with_reducible (refine ⟨keep_set4 ?_ ?_, keep_set4 ?_ ?_, keep_set4 ?_ ?_, keep_set4 ?_ ?_, keep_set4 ?_ ?_, keep_set4 ?_ ?_, keep_set4 ?_ ?_, keep_set4 ?_ ?_, keep_set4 ?_ ?_⟩)); all_goals (first | assumption | omega)) | go_keep)
    (first
      | (go_at_call 79; refine (less_any _ _ X Y _ (hx.drewN _) (hy.drewN _) (by omega) HLE.out).mono ?_; rintro e w1 ⟨v1, rfl, hv1, hb1⟩)
      | (go_at_call 55; refine (HR.out _ _ hv1).mono ?_; rintro e w1 ⟨rfl, hb1⟩; have hB : Below ((((w.alloc (.cells #[.int .i64 24, .int .i64 (-149), .int .i64 104] 68)).alloc (.cells #[.int .u8 3, .bool s, .int .u64 m, .int .i64 i] 65)).alloc (.cells #[.int .u8 3, .bool (!s), .int .u64 n, .int .i64 j] 65)).alloc (.cells #[.int .u8 0, .bool false, .int .u64 0, .int .i64 0] 65)).heap.size ((((w.alloc (.cells #[.int .i64 24, .int .i64 (-149), .int .i64 104] 68)).alloc (.cells #[.int .u8 3, .bool s, .int .u64 m, .int .i64 i] 65)).alloc (.cells #[.int .u8 3, .bool (!s), .int .u64 n, .int .i64 j] 65)).alloc (.cells #[.int .u8 0, .bool false, .int .u64 0, .int .i64 0] 65)) w1 := (by repeat (first | exact Below.refl _ _ | refine bs_alloc ?_ _ | refine bs_drew ?_ | refine bs_drewN ?_ _ | (refine bs_step ?_ (by assumption)))); obtain ⟨hc, hf⟩ := bel_cells hB))
  go_wp2
  exact bodyPost_ret (v := val t0 t1 t2 t3) (by simp [results, Try.results87, go_sem, hc, val]) rfl ⟨rfl, bel_set4 (bel_four _ _ _ _ _ hB) (by omega) _ _ _ _⟩
end Go.Proofs.Ytfgbjaejkfkmmaa
