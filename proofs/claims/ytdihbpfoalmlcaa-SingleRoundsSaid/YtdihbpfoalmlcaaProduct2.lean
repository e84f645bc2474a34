/- Contract of the reference's Product, joined. -/
import Derived.Test.YtdihbpfoalmlcaaProduct
namespace Go.Proofs.Ytdihbpfoalmlcaa
open Go.RowKit Ieee

set_option maxHeartbeats 4000000 in
theorem product_num (s t : Bool) (m n : Nat) (i j : Int) (hm : m < 16777216) (hn : n < 16777216) (hi : -149 ≤ i) (hi2 : i ≤ 104) (hj : -149 ≤ j) (hj2 : j ≤ 104) (w : World) :
    Calls Try.prog 44 #[frm, val 3 s m i, val 3 t n j] w (Ret w (encD (single.read (single.nearest (!(s == t)) (m * n) (i + j))))) := by
  obtain ⟨t0, t1, t2, t3, he⟩ := encD_form (single.read (single.nearest (!(s == t)) (m * n) (i + j)))
  have bm : bsize m ≤ 24 := bsize_of_lt (k := 24) (by omega)
  have bn : bsize n ≤ 24 := bsize_of_lt (k := 24) (by omega)
  have bmn : bsize (m * n) ≤ 48 := by have := bsize_mul m n; omega
  have hround := fun v W (h : IsN W v (m * n)) => rounded_any (!(s == t)) v (m * n) (i + j) W h (by omega) (by omega) (by omega)
  rw [he] at hround ⊢
  unfold val at hround
  have HR := Lib.hid hround
  have hsum : IntKind.i64.wrap (i + j) = i + j := IntWalk.i64_in _ (by omega)
  clear hround he
  have c2 : ((((w.alloc (.cells #[.int .i64 24, .int .i64 (-149), .int .i64 104] 54)).alloc (.cells #[.int .u8 3, .bool s, .int .u64 m, .int .i64 i] 51)).alloc (.cells #[.int .u8 3, .bool t, .int .u64 n, .int .i64 j] 51)).alloc (.cells #[.int .u8 0, .bool false, .int .u64 0, .int .i64 0] 51)).cell? ⟨w.heap.size + 1 + 1, 2, none⟩ = some (.int .u64 n) := by
    rw [World.cell?_alloc_past _ _ _ (by simp), World.cell?_alloc_at _ _ _ _ (by simp)]; rfl
  have c3 : ((((w.alloc (.cells #[.int .i64 24, .int .i64 (-149), .int .i64 104] 54)).alloc (.cells #[.int .u8 3, .bool s, .int .u64 m, .int .i64 i] 51)).alloc (.cells #[.int .u8 3, .bool t, .int .u64 n, .int .i64 j] 51)).alloc (.cells #[.int .u8 0, .bool false, .int .u64 0, .int .i64 0] 51)).cell? ⟨w.heap.size + 1 + 1, 3, none⟩ = some (.int .i64 j) := by
    rw [World.cell?_alloc_past _ _ _ (by simp), World.cell?_alloc_at _ _ _ _ (by simp)]; rfl
  unfold frm val
  go_enter Try.func44, Try.ntmps44
  go_wp2_with fail
  go_region_held3 (fun w' => w'.cell? ⟨w.heap.size, 0, none⟩ = some (.int .i64 24) ∧ w'.cell? ⟨w.heap.size, 1, none⟩ = some (.int .i64 (-149)) ∧ w'.cell? ⟨w.heap.size, 2, none⟩ = some (.int .i64 104) ∧ w'.cell? ⟨w.heap.size + 1, 2, none⟩ = some (.int .u64 m) ∧ w'.cell? ⟨w.heap.size + 1, 3, none⟩ = some (.int .i64 i) ∧ w'.cell? ⟨w.heap.size + 1 + 1, 2, none⟩ = some (.int .u64 n) ∧ w'.cell? ⟨w.heap.size + 1 + 1, 3, none⟩ = some (.int .i64 j)) (first | (go_split_ands; (with_reducible (refine ⟨keepc hb1 ?_, keepc hb1 ?_, keepc hb1 ?_, keepc hb1 ?_, keepc hb1 ?_, keepc hb1 ?_, keepc hb1 ?_⟩)); all_goals assumption) | (go_split_ands; (with_reducible (refine ⟨keep_set4 ?_ ?_, keep_set4 ?_ ?_, keep_set4 ?_ ?_, keep_set4 ?_ ?_, keep_set4 ?_ ?_, keep_set4 ?_ ?_, keep_set4 ?_ ?_⟩)); all_goals (first | assumption | omega)) | go_keep)
    (first
      | (go_at_call 56; refine (nat_any _ _ (by omega)).mono ?_; rintro e w1 ⟨v1, rfl, hv1, hb1⟩)
      | (go_at_call 69; refine (times_any _ _ m n _ (by first | assumption | exact IsN.below (by assumption) (by assumption)) (by assumption) (by omega) (by omega)).mono ?_; rintro e w1 ⟨v1, rfl, hv1, hb1⟩)
      | (go_at_call 55; refine (HR.out _ _ (by assumption)).mono ?_; rintro e w1 ⟨rfl, hb1⟩; have hB : Below ((((w.alloc (.cells #[.int .i64 24, .int .i64 (-149), .int .i64 104] 54)).alloc (.cells #[.int .u8 3, .bool s, .int .u64 m, .int .i64 i] 51)).alloc (.cells #[.int .u8 3, .bool t, .int .u64 n, .int .i64 j] 51)).alloc (.cells #[.int .u8 0, .bool false, .int .u64 0, .int .i64 0] 51)).heap.size ((((w.alloc (.cells #[.int .i64 24, .int .i64 (-149), .int .i64 104] 54)).alloc (.cells #[.int .u8 3, .bool s, .int .u64 m, .int .i64 i] 51)).alloc (.cells #[.int .u8 3, .bool t, .int .u64 n, .int .i64 j] 51)).alloc (.cells #[.int .u8 0, .bool false, .int .u64 0, .int .i64 0] 51)) w1 := (by repeat (first | exact Below.refl _ _ | refine bs_alloc ?_ _ | refine bs_drew ?_ | refine bs_drewN ?_ _ | (refine bs_step ?_ (by assumption)))); obtain ⟨hc, hf⟩ := bel_cells hB))
  go_wp2
  exact bodyPost_ret (v := val t0 t1 t2 t3) (by simp [results, Try.results44, go_sem, hc, val]) rfl ⟨rfl, bel_set4 (bel_four _ _ _ _ _ hB) (by omega) _ _ _ _⟩

theorem product_any (d1 d2 : Datum) (h1 : Can d1) (h2 : Can d2) (w : World) : Calls Try.prog 44 #[frm, encD d1, encD d2] w (Ret w (encD (resD (d1.product d2)))) := by
  have hinf : ∀ s : Bool, resD (some (.infinity s)) = .infinity s := fun s => read_inf single (by decide) s
  cases d1 with
  | nan s x =>
    obtain ⟨t0, t1, t2, t3, he⟩ := encD_form d2
    rw [he]
    have hr : Datum.product (.nan s x) d2 = none := by cases d2 <;> rfl
    rw [hr]
    exact product_nan_left t0 t1 t2 t3 w
  | infinity s =>
    cases d2 with
    | nan t x => exact product_inf_nan s w
    | infinity t =>
      have hr : Datum.product (.infinity s) (.infinity t) = some (.infinity (s ^^ t)) := rfl
      rw [hr, hinf, ← xor_ne]
      exact product_inf_inf s t w
    | number t n p =>
      cases n with
      | zero => exact product_inf_zero s t p w
      | succ n =>
        have hr : Datum.product (.infinity s) (.number t (n + 1) p) = some (.infinity (s ^^ t)) := by simp [Datum.product]
        rw [hr, hinf, ← xor_ne]
        exact product_inf_num s t n p w
  | number s m p =>
    cases d2 with
    | nan t x => exact product_num_nan s m p w
    | infinity t =>
      cases m with
      | zero => exact product_zero_inf s t p w
      | succ m =>
        have hr : Datum.product (.number s (m + 1) p) (.infinity t) = some (.infinity (t ^^ s)) := by simp [Datum.product]
        rw [hr, hinf, Bool.xor_comm, ← xor_ne]
        exact product_num_inf s t m p w
    | number t n q =>
      obtain ⟨a1, a2, a3⟩ := h1
      obtain ⟨b1, b2, b3⟩ := h2
      have hr : Datum.product (.number s m p) (.number t n q) = some (.number (s ^^ t) (m * n) (p + q)) := rfl
      rw [hr, ← xor_ne]
      exact product_num s t m n p q a1 b1 a2 a3 b2 b3 w
end Go.Proofs.Ytdihbpfoalmlcaa
