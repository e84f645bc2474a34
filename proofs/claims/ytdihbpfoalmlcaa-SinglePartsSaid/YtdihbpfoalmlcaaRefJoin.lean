/- Contracts of the reference's Split and Join; of the laws' alike (printed by a program of ours). -/
import Derived.Test.YtdihbpfoalmlcaaJoin
import Derived.Test.YtdihbpfoalmlcaaWords
namespace Go.Proofs.Ytdihbpfoalmlcaa
open Go.RowKit Ieee
set_option linter.unusedVariables false

theorem sgB_W (s : Bool) : sgB s = sgnW s := by cases s <;> rfl

set_option maxHeartbeats 1000000 in
theorem alike_same (S : Int) (s : Bool) (m p : Int) (w : World) : Calls Try.prog 32 #[pval S s m p, pval S s m p] w (Ret w (.bool true)) := by
  unfold pval
  go_enter Try.func32, Try.ntmps32
  go_wp2
  go_ret
  exact ⟨rfl, (by repeat (first | exact Below.refl _ _ | refine bs_alloc ?_ _ | refine bs_drew ?_ | refine bs_drewN ?_ _ | (refine bs_set ?_ _ _ _ (by simp; done)) | (refine bs_set ?_ _ _ _ (by omega)) | (refine bs_step ?_ (by assumption))))⟩

theorem shut_none2 (w : World) :
    Calls Try.prog 66 #[frm, val 1 true 0 0] w (Ret w (.int .u64 2143289344)) := by
  have o1 : bits .or .u64 2139095040 4194304 = 2143289344 := by decide
  unfold frm val
  go_enter Try.func66, Try.ntmps66
  go_wp2_with (first
    | (go_at_call 85; refine (bitsOf_255 _).mono ?_; rintro e w' ⟨rfl, rfl⟩)
    | (go_at_call 86; refine (most_any _).mono ?_; rintro e w1 ⟨rfl, hb1⟩; (first | replace hB := hB.trans (hb1.mono hB.size) | have hB := hb1); clear hb1; (try clear hc1 hf1); obtain ⟨hc1, hf1⟩ := bel_cells hB))
  go_ret
  exact ⟨rfl, bel_two _ _ _ hB⟩
theorem lay_none2 (w : World) : Calls Try.prog 43 #[val 1 true 0 0] w (Ret w (.int .u32 2143289344)) := by
  have HS := Lib.hid (fun W => shut_none2 W)
  unfold val at HS ⊢
  go_enter Try.func43, Try.ntmps43
  go_wp2
  go_region_held3 (fun w' => w'.cell? ⟨w.heap.size, 0, none⟩ = some (.int .u8 1) ∧ w'.cell? ⟨w.heap.size, 1, none⟩ = some (.bool true) ∧ w'.cell? ⟨w.heap.size, 2, none⟩ = some (.int .u64 0) ∧ w'.cell? ⟨w.heap.size, 3, none⟩ = some (.int .i64 0))
    (first | go_keep | (go_split_ands; exact ⟨keepc hb1 (by assumption), keepc hb1 (by assumption), keepc hb1 (by assumption), keepc hb1 (by assumption)⟩))
    (first
      | (go_at_call 45; refine (single_form _).mono ?_; rintro e w1 ⟨rfl, hb1⟩)
      | (go_at_call 66; refine (HS.out _).mono ?_; rintro e w1 ⟨rfl, hb1⟩))
  go_wp2
  go_ret
  refine ⟨rfl, ?_⟩
  repeat (first | exact Below.refl _ _ | refine bs_alloc ?_ _ | refine bs_drew ?_ | (refine bs_step ?_ (by assumption)))

set_option maxHeartbeats 1000000 in
theorem rsplit_none (a : Int)  (hT : ∀ W, Calls Try.prog 46 #[.int .u32 a] W (Ret W (val 1 false 0 0)))  (w : World) :
    Calls Try.prog 34 #[.int .u32 a] w (Ret w (pval 1 false 0 0)) := by
  have HT := Lib.hid hT
  unfold val at HT
  clear hT
  go_enter Try.func34, Try.ntmps34
  go_wp2_with fail
  refine (HT.out _).mono ?_
  rintro e w1 ⟨rfl, hb1⟩
  have HB := Lib.hid hb1
  obtain ⟨hc, hf⟩ := bel_cells hb1
  have hlt : w.heap.size < w1.heap.size := by have := hb1.size; simp at this; omega
  have hsz : w.heap.size ≠ w1.heap.size := by omega
  have ka : ∀ o i, (w1.alloc o).cell? ⟨w.heap.size, i, none⟩ = w1.cell? ⟨w.heap.size, i, none⟩ := fun o i => World.cell?_alloc_lt _ _ _ hlt
  have fa : ∀ o i, (w1.alloc o).frozen? ⟨w.heap.size, i, none⟩ = w1.frozen? ⟨w.heap.size, i, none⟩ := fun o i => World.frozen?_alloc_past o _ i hlt
  clear hb1
  go_wp2
  exact bodyPost_ret (v := pval 1 false 0 0) (by simp [results, Try.results34, go_sem, hc, World.cell?_alloc_past, hlt, pval]) rfl ⟨rfl, by have hb1 := HB.out; exact (by repeat (first | exact Below.refl _ _ | refine bs_alloc ?_ _ | refine bs_drew ?_ | refine bs_drewN ?_ _ | (refine bs_set ?_ _ _ _ (by simp; done)) | (refine bs_set ?_ _ _ _ (by omega)) | (refine bs_step ?_ (by assumption))))⟩

set_option maxHeartbeats 1000000 in
theorem rsplit_inf (a : Int) (s : Bool) (hT : ∀ W, Calls Try.prog 46 #[.int .u32 a] W (Ret W (val 2 s 0 0)))  (w : World) :
    Calls Try.prog 34 #[.int .u32 a] w (Ret w (pval 2 s 0 0)) := by
  have HT := Lib.hid hT
  unfold val at HT
  clear hT
  go_enter Try.func34, Try.ntmps34
  go_wp2_with fail
  refine (HT.out _).mono ?_
  rintro e w1 ⟨rfl, hb1⟩
  have HB := Lib.hid hb1
  obtain ⟨hc, hf⟩ := bel_cells hb1
  have hlt : w.heap.size < w1.heap.size := by have := hb1.size; simp at this; omega
  have hsz : w.heap.size ≠ w1.heap.size := by omega
  have ka : ∀ o i, (w1.alloc o).cell? ⟨w.heap.size, i, none⟩ = w1.cell? ⟨w.heap.size, i, none⟩ := fun o i => World.cell?_alloc_lt _ _ _ hlt
  have fa : ∀ o i, (w1.alloc o).frozen? ⟨w.heap.size, i, none⟩ = w1.frozen? ⟨w.heap.size, i, none⟩ := fun o i => World.frozen?_alloc_past o _ i hlt
  clear hb1
  go_wp2
  exact bodyPost_ret (v := pval 2 s 0 0) (by simp [results, Try.results34, go_sem, hc, World.cell?_alloc_past, hlt, pval]) rfl ⟨rfl, by have hb1 := HB.out; exact (by repeat (first | exact Below.refl _ _ | refine bs_alloc ?_ _ | refine bs_drew ?_ | refine bs_drewN ?_ _ | (refine bs_set ?_ _ _ _ (by simp; done)) | (refine bs_set ?_ _ _ _ (by omega)) | (refine bs_step ?_ (by assumption))))⟩

set_option maxHeartbeats 1000000 in
theorem rsplit_num (a : Int) (s : Bool) (m : Nat) (p : Int) (hT : ∀ W, Calls Try.prog 46 #[.int .u32 a] W (Ret W (val 3 s m p))) (hm : m < 16777216) (w : World) :
    Calls Try.prog 34 #[.int .u32 a] w (Ret w (pval 3 s m p)) := by
  have HT := Lib.hid hT
  unfold val at HT
  clear hT
  have hw : IntKind.u32.wrap (m : Int) = (m : Int) := by rw [IntKind.wrap_u32]; omega
  go_enter Try.func34, Try.ntmps34
  go_wp2_with fail
  refine (HT.out _).mono ?_
  rintro e w1 ⟨rfl, hb1⟩
  have HB := Lib.hid hb1
  obtain ⟨hc, hf⟩ := bel_cells hb1
  have hlt : w.heap.size < w1.heap.size := by have := hb1.size; simp at this; omega
  have hsz : w.heap.size ≠ w1.heap.size := by omega
  have ka : ∀ o i, (w1.alloc o).cell? ⟨w.heap.size, i, none⟩ = w1.cell? ⟨w.heap.size, i, none⟩ := fun o i => World.cell?_alloc_lt _ _ _ hlt
  have fa : ∀ o i, (w1.alloc o).frozen? ⟨w.heap.size, i, none⟩ = w1.frozen? ⟨w.heap.size, i, none⟩ := fun o i => World.frozen?_alloc_past o _ i hlt
  clear hb1
  go_wp2
  exact bodyPost_ret (v := pval 3 s m p) (by simp [results, Try.results34, go_sem, hc, World.cell?_alloc_past, hlt, pval]) rfl ⟨rfl, by have hb1 := HB.out; exact (by repeat (first | exact Below.refl _ _ | refine bs_alloc ?_ _ | refine bs_drew ?_ | refine bs_drewN ?_ _ | (refine bs_set ?_ _ _ _ (by simp; done)) | (refine bs_set ?_ _ _ _ (by omega)) | (refine bs_step ?_ (by assumption))))⟩

theorem RefSplit_any (a : Nat) (ha : a ≤ 4294967295) (w : World) : Calls Try.prog 34 #[.int .u32 (a : Int)] w (Ret w (parD (single.read a))) := by
  have hT := fun W => take_any (a : Int) (by omega) (by omega) W
  rw [Int.toNat_natCast] at hT
  have hcan := can_read a
  generalize single.read a = d at *
  cases d with
  | nan _ _ => exact rsplit_none _ hT w
  | infinity s => exact rsplit_inf _ s hT w
  | number s m p => exact rsplit_num _ s m p hT hcan.1 w

theorem nan_parts : parD (single.read 2143289344) = pval 1 false 0 0 := (parts_of 2143289344).1 (by decide) (by decide)
theorem lay_nan (w : World) : Calls Try.prog 43 #[val 1 false 0 0] w (Ret w (.int .u32 2143289344)) := lay_any (.nan false 0) trivial w
theorem lay_inf (s : Bool) (w : World) : Calls Try.prog 43 #[val 2 s 0 0] w (Ret w (.int .u32 (sgB s + 2139095040 : Nat))) := by
  have h := lay_any (.infinity s) trivial w
  rw [show wordD (.infinity s) = sgB s + 2139095040 from by rw [sgB_W]; rfl] at h
  exact h
theorem lay_low (s : Bool) (m : Nat) (p : Int) (hm : m < 8388608) (h0 : -149 ≤ p) (h1 : p ≤ 104) (w : World) : Calls Try.prog 43 #[val 3 s m p] w (Ret w (.int .u32 (sgB s + m : Nat))) := by
  have h := lay_any (.number s m p) ⟨by omega, h0, h1⟩ w
  rw [show wordD (.number s m p) = sgB s + m from by rw [sgB_W]; simp only [wordD]; rw [if_pos hm]] at h
  exact h
theorem lay_high (s : Bool) (m e : Nat) (p : Int) (hm : 8388608 ≤ m) (hm2 : m < 16777216) (h0 : -149 ≤ p) (h1 : p ≤ 104) (he : p + 150 = e) (w : World) : Calls Try.prog 43 #[val 3 s m p] w (Ret w (.int .u32 (sgB s + (e * 8388608 + m % 8388608) : Nat))) := by
  have h := lay_any (.number s m p) ⟨by omega, h0, h1⟩ w
  rw [show wordD (.number s m p) = sgB s + (e * 8388608 + m % 8388608) from by
    rw [sgB_W]; simp only [wordD]; rw [if_neg (by omega), show (p + 150).toNat = e from by omega, show m - 8388608 = m % 8388608 from by omega]] at h
  exact h
theorem rjoin_other (S : Int) (s : Bool) (m : Nat) (p : Int) (h1 : (S == 1) = false) (h2 : (S == 2) = false) (h3 : (S == 3) = false) (w : World) : Calls Try.prog 36 #[pval S s m p] w (Ret w (.tuple #[.int .u32 0, .int .i64 30])) := by
  unfold pval
  go_enter Try.func36, Try.ntmps36
  go_wp2
  go_ret2
  exact ⟨rfl, (by repeat (first | exact Below.refl _ _ | refine bs_alloc ?_ _ | refine bs_drew ?_ | refine bs_drewN ?_ _ | (refine bs_set ?_ _ _ _ (by simp; done)) | (refine bs_set ?_ _ _ _ (by omega)) | (refine bs_step ?_ (by assumption))))⟩

set_option maxHeartbeats 1000000 in
theorem rjoin_1_ok   (w : World) : Calls Try.prog 36 #[pval 1 false 0 0] w (Ret w (.tuple #[.int .u32 2143289344, .int .i64 0])) := by
  have c1 := Lib.hid (fun W => lay_nan W)
  have c2 := Lib.hid (fun W => RefSplit_any 2143289344 (by omega) W)
  rw [nan_parts] at c2
  unfold val at c1
  unfold pval at c2 ⊢
  go_enter Try.func36, Try.ntmps36
  go_wp2_with fail
  refine (c1.out _).mono ?_
  rintro e w1 ⟨rfl, hb1⟩
  obtain ⟨hc, hf⟩ := bel_cells hb1
  go_wp2_with fail
  refine (c2.out _).mono ?_
  rintro e w2 ⟨rfl, hb2⟩
  have hb3 := hb1.trans (hb2.mono hb1.size)
  have hlt : w.heap.size < w2.heap.size := by have := hb3.size; simp at this; omega
  clear hc hf
  obtain ⟨hc, hf⟩ := bel_cells hb3
  have ka : ∀ o i, (w2.alloc o).cell? ⟨w.heap.size, i, none⟩ = w2.cell? ⟨w.heap.size, i, none⟩ := fun o i => World.cell?_alloc_lt _ _ _ hlt
  go_wp2
  go_ret2
  exact ⟨rfl, (by repeat (first | exact Below.refl _ _ | refine bs_alloc ?_ _ | refine bs_drew ?_ | refine bs_drewN ?_ _ | (refine bs_set ?_ _ _ _ (by simp; done)) | (refine bs_set ?_ _ _ _ (by omega)) | (refine bs_step ?_ (by assumption))))⟩

set_option maxHeartbeats 1000000 in
theorem rjoin_1_s (m : Nat) (p : Int)  (w : World) : Calls Try.prog 36 #[pval 1 true m p] w (Ret w (.tuple #[.int .u32 0, .int .i64 30])) := by
  have c1 := Lib.hid (fun W => lay_none2 W)
  have c2 := Lib.hid (fun W => RefSplit_any 2143289344 (by omega) W)
  rw [nan_parts] at c2
  unfold val at c1
  unfold pval at c2 ⊢
  go_enter Try.func36, Try.ntmps36
  go_wp2_with fail
  refine (c1.out _).mono ?_
  rintro e w1 ⟨rfl, hb1⟩
  obtain ⟨hc, hf⟩ := bel_cells hb1
  go_wp2_with fail
  refine (c2.out _).mono ?_
  rintro e w2 ⟨rfl, hb2⟩
  have hb3 := hb1.trans (hb2.mono hb1.size)
  have hlt : w.heap.size < w2.heap.size := by have := hb3.size; simp at this; omega
  clear hc hf
  obtain ⟨hc, hf⟩ := bel_cells hb3
  have ka : ∀ o i, (w2.alloc o).cell? ⟨w.heap.size, i, none⟩ = w2.cell? ⟨w.heap.size, i, none⟩ := fun o i => World.cell?_alloc_lt _ _ _ hlt
  go_wp2
  go_ret2
  exact ⟨rfl, (by repeat (first | exact Below.refl _ _ | refine bs_alloc ?_ _ | refine bs_drew ?_ | refine bs_drewN ?_ _ | (refine bs_set ?_ _ _ _ (by simp; done)) | (refine bs_set ?_ _ _ _ (by omega)) | (refine bs_step ?_ (by assumption))))⟩

set_option maxHeartbeats 1000000 in
theorem rjoin_1_m (m : Nat) (p : Int) (hm : ¬ (0 : Int) = (m : Int)) (hm2 : ((0 : Int) == (m : Int)) = false) (hm3 : ((0 : Int) != (m : Int)) = true) (w : World) : Calls Try.prog 36 #[pval 1 false m p] w (Ret w (.tuple #[.int .u32 0, .int .i64 30])) := by
  have c1 := Lib.hid (fun W => lay_nan W)
  have c2 := Lib.hid (fun W => RefSplit_any 2143289344 (by omega) W)
  rw [nan_parts] at c2
  unfold val at c1
  unfold pval at c2 ⊢
  go_enter Try.func36, Try.ntmps36
  go_wp2_with fail
  refine (c1.out _).mono ?_
  rintro e w1 ⟨rfl, hb1⟩
  obtain ⟨hc, hf⟩ := bel_cells hb1
  go_wp2_with fail
  refine (c2.out _).mono ?_
  rintro e w2 ⟨rfl, hb2⟩
  have hb3 := hb1.trans (hb2.mono hb1.size)
  have hlt : w.heap.size < w2.heap.size := by have := hb3.size; simp at this; omega
  clear hc hf
  obtain ⟨hc, hf⟩ := bel_cells hb3
  have ka : ∀ o i, (w2.alloc o).cell? ⟨w.heap.size, i, none⟩ = w2.cell? ⟨w.heap.size, i, none⟩ := fun o i => World.cell?_alloc_lt _ _ _ hlt
  go_wp2
  go_ret2
  exact ⟨rfl, (by repeat (first | exact Below.refl _ _ | refine bs_alloc ?_ _ | refine bs_drew ?_ | refine bs_drewN ?_ _ | (refine bs_set ?_ _ _ _ (by simp; done)) | (refine bs_set ?_ _ _ _ (by omega)) | (refine bs_step ?_ (by assumption))))⟩

set_option maxHeartbeats 1000000 in
theorem rjoin_1_p (p : Int) (hp : ¬ (0 : Int) = p) (hp2 : ((0 : Int) == p) = false) (hp3 : ((0 : Int) != p) = true) (w : World) : Calls Try.prog 36 #[pval 1 false 0 p] w (Ret w (.tuple #[.int .u32 0, .int .i64 30])) := by
  have c1 := Lib.hid (fun W => lay_nan W)
  have c2 := Lib.hid (fun W => RefSplit_any 2143289344 (by omega) W)
  rw [nan_parts] at c2
  unfold val at c1
  unfold pval at c2 ⊢
  go_enter Try.func36, Try.ntmps36
  go_wp2_with fail
  refine (c1.out _).mono ?_
  rintro e w1 ⟨rfl, hb1⟩
  obtain ⟨hc, hf⟩ := bel_cells hb1
  go_wp2_with fail
  refine (c2.out _).mono ?_
  rintro e w2 ⟨rfl, hb2⟩
  have hb3 := hb1.trans (hb2.mono hb1.size)
  have hlt : w.heap.size < w2.heap.size := by have := hb3.size; simp at this; omega
  clear hc hf
  obtain ⟨hc, hf⟩ := bel_cells hb3
  have ka : ∀ o i, (w2.alloc o).cell? ⟨w.heap.size, i, none⟩ = w2.cell? ⟨w.heap.size, i, none⟩ := fun o i => World.cell?_alloc_lt _ _ _ hlt
  go_wp2
  go_ret2
  exact ⟨rfl, (by repeat (first | exact Below.refl _ _ | refine bs_alloc ?_ _ | refine bs_drew ?_ | refine bs_drewN ?_ _ | (refine bs_set ?_ _ _ _ (by simp; done)) | (refine bs_set ?_ _ _ _ (by omega)) | (refine bs_step ?_ (by assumption))))⟩

set_option maxHeartbeats 1000000 in
theorem rjoin_2_ok (s : Bool)  (w : World) : Calls Try.prog 36 #[pval 2 s 0 0] w (Ret w (.tuple #[.int .u32 (sgB s + 2139095040 : Nat), .int .i64 0])) := by
  have c1 := Lib.hid (fun W => lay_inf s W)
  have c2 := Lib.hid (fun W => RefSplit_any (sgB s + 2139095040) (sg_parts s 2139095040 (by omega)).2.2.2 W)
  rw [parts_inf] at c2
  unfold val at c1
  unfold pval at c2 ⊢
  go_enter Try.func36, Try.ntmps36
  go_wp2_with fail
  refine (c1.out _).mono ?_
  rintro e w1 ⟨rfl, hb1⟩
  obtain ⟨hc, hf⟩ := bel_cells hb1
  go_wp2_with fail
  refine (c2.out _).mono ?_
  rintro e w2 ⟨rfl, hb2⟩
  have hb3 := hb1.trans (hb2.mono hb1.size)
  have hlt : w.heap.size < w2.heap.size := by have := hb3.size; simp at this; omega
  clear hc hf
  obtain ⟨hc, hf⟩ := bel_cells hb3
  have ka : ∀ o i, (w2.alloc o).cell? ⟨w.heap.size, i, none⟩ = w2.cell? ⟨w.heap.size, i, none⟩ := fun o i => World.cell?_alloc_lt _ _ _ hlt
  go_wp2
  go_ret2
  exact ⟨rfl, (by repeat (first | exact Below.refl _ _ | refine bs_alloc ?_ _ | refine bs_drew ?_ | refine bs_drewN ?_ _ | (refine bs_set ?_ _ _ _ (by simp; done)) | (refine bs_set ?_ _ _ _ (by omega)) | (refine bs_step ?_ (by assumption))))⟩

set_option maxHeartbeats 1000000 in
theorem rjoin_2_m (s : Bool) (m : Nat) (p : Int) (hm : ¬ (0 : Int) = (m : Int)) (hm2 : ((0 : Int) == (m : Int)) = false) (hm3 : ((0 : Int) != (m : Int)) = true) (w : World) : Calls Try.prog 36 #[pval 2 s m p] w (Ret w (.tuple #[.int .u32 0, .int .i64 30])) := by
  have c1 := Lib.hid (fun W => lay_inf s W)
  have c2 := Lib.hid (fun W => RefSplit_any (sgB s + 2139095040) (sg_parts s 2139095040 (by omega)).2.2.2 W)
  rw [parts_inf] at c2
  unfold val at c1
  unfold pval at c2 ⊢
  go_enter Try.func36, Try.ntmps36
  go_wp2_with fail
  refine (c1.out _).mono ?_
  rintro e w1 ⟨rfl, hb1⟩
  obtain ⟨hc, hf⟩ := bel_cells hb1
  go_wp2_with fail
  refine (c2.out _).mono ?_
  rintro e w2 ⟨rfl, hb2⟩
  have hb3 := hb1.trans (hb2.mono hb1.size)
  have hlt : w.heap.size < w2.heap.size := by have := hb3.size; simp at this; omega
  clear hc hf
  obtain ⟨hc, hf⟩ := bel_cells hb3
  have ka : ∀ o i, (w2.alloc o).cell? ⟨w.heap.size, i, none⟩ = w2.cell? ⟨w.heap.size, i, none⟩ := fun o i => World.cell?_alloc_lt _ _ _ hlt
  go_wp2
  go_ret2
  exact ⟨rfl, (by repeat (first | exact Below.refl _ _ | refine bs_alloc ?_ _ | refine bs_drew ?_ | refine bs_drewN ?_ _ | (refine bs_set ?_ _ _ _ (by simp; done)) | (refine bs_set ?_ _ _ _ (by omega)) | (refine bs_step ?_ (by assumption))))⟩

set_option maxHeartbeats 1000000 in
theorem rjoin_2_p (s : Bool) (p : Int) (hp : ¬ (0 : Int) = p) (hp2 : ((0 : Int) == p) = false) (hp3 : ((0 : Int) != p) = true) (w : World) : Calls Try.prog 36 #[pval 2 s 0 p] w (Ret w (.tuple #[.int .u32 0, .int .i64 30])) := by
  have c1 := Lib.hid (fun W => lay_inf s W)
  have c2 := Lib.hid (fun W => RefSplit_any (sgB s + 2139095040) (sg_parts s 2139095040 (by omega)).2.2.2 W)
  rw [parts_inf] at c2
  unfold val at c1
  unfold pval at c2 ⊢
  go_enter Try.func36, Try.ntmps36
  go_wp2_with fail
  refine (c1.out _).mono ?_
  rintro e w1 ⟨rfl, hb1⟩
  obtain ⟨hc, hf⟩ := bel_cells hb1
  go_wp2_with fail
  refine (c2.out _).mono ?_
  rintro e w2 ⟨rfl, hb2⟩
  have hb3 := hb1.trans (hb2.mono hb1.size)
  have hlt : w.heap.size < w2.heap.size := by have := hb3.size; simp at this; omega
  clear hc hf
  obtain ⟨hc, hf⟩ := bel_cells hb3
  have ka : ∀ o i, (w2.alloc o).cell? ⟨w.heap.size, i, none⟩ = w2.cell? ⟨w.heap.size, i, none⟩ := fun o i => World.cell?_alloc_lt _ _ _ hlt
  go_wp2
  go_ret2
  exact ⟨rfl, (by repeat (first | exact Below.refl _ _ | refine bs_alloc ?_ _ | refine bs_drew ?_ | refine bs_drewN ?_ _ | (refine bs_set ?_ _ _ _ (by simp; done)) | (refine bs_set ?_ _ _ _ (by omega)) | (refine bs_step ?_ (by assumption))))⟩

theorem rjoin_3_wide (s : Bool) (m : Nat) (p : Int) (hm : 16777216 ≤ m) (w : World) : Calls Try.prog 36 #[pval 3 s m p] w (Ret w (.tuple #[.int .u32 0, .int .i64 30])) := by
  have t1 : decide (16777216 ≤ (m : Int)) = true := decide_eq_true (by omega)
  unfold pval
  go_enter Try.func36, Try.ntmps36
  go_wp2
  go_ret2
  exact ⟨rfl, (by repeat (first | exact Below.refl _ _ | refine bs_alloc ?_ _ | refine bs_drew ?_ | refine bs_drewN ?_ _ | (refine bs_set ?_ _ _ _ (by simp; done)) | (refine bs_set ?_ _ _ _ (by omega)) | (refine bs_step ?_ (by assumption))))⟩

theorem rjoin_3_under (s : Bool) (m : Nat) (p : Int) (hm : m < 16777216) (hp : p < -149) (w : World) : Calls Try.prog 36 #[pval 3 s m p] w (Ret w (.tuple #[.int .u32 0, .int .i64 30])) := by
  have t1 : decide (16777216 ≤ (m : Int)) = false := decide_eq_false (by omega)
  have t2 : decide (p < -149) = true := decide_eq_true hp
  unfold pval
  go_enter Try.func36, Try.ntmps36
  go_wp2
  go_ret2
  exact ⟨rfl, (by repeat (first | exact Below.refl _ _ | refine bs_alloc ?_ _ | refine bs_drew ?_ | refine bs_drewN ?_ _ | (refine bs_set ?_ _ _ _ (by simp; done)) | (refine bs_set ?_ _ _ _ (by omega)) | (refine bs_step ?_ (by assumption))))⟩

theorem rjoin_3_over (s : Bool) (m : Nat) (p : Int) (hm : m < 16777216) (hp : ¬ p < -149) (hp2 : 104 < p) (w : World) : Calls Try.prog 36 #[pval 3 s m p] w (Ret w (.tuple #[.int .u32 0, .int .i64 30])) := by
  have t1 : decide (16777216 ≤ (m : Int)) = false := decide_eq_false (by omega)
  have t2 : decide (p < -149) = false := decide_eq_false hp
  have t3 : decide (104 < p) = true := decide_eq_true hp2
  unfold pval
  go_enter Try.func36, Try.ntmps36
  go_wp2
  go_ret2
  exact ⟨rfl, (by repeat (first | exact Below.refl _ _ | refine bs_alloc ?_ _ | refine bs_drew ?_ | refine bs_drewN ?_ _ | (refine bs_set ?_ _ _ _ (by simp; done)) | (refine bs_set ?_ _ _ _ (by omega)) | (refine bs_step ?_ (by assumption))))⟩

set_option maxHeartbeats 1000000 in
theorem rjoin_3_low (s : Bool) (m : Nat) (hm : m < 8388608) (w : World) : Calls Try.prog 36 #[pval 3 s m (-149)] w (Ret w (.tuple #[.int .u32 (sgB s + m : Nat), .int .i64 0])) := by
  have t1 : decide (16777216 ≤ (m : Int)) = false := decide_eq_false (by omega)
  have c1 := Lib.hid (fun W => lay_low s m (-149) hm (by decide) (by decide) W)
  have c2 := Lib.hid (fun W => RefSplit_any (sgB s + m) (sg_parts s m (by omega)).2.2.2 W)
  rw [parts_low s m hm] at c2
  unfold val at c1
  unfold pval at c2 ⊢
  go_enter Try.func36, Try.ntmps36
  go_wp2_with fail
  refine (c1.out _).mono ?_
  rintro e w1 ⟨rfl, hb1⟩
  obtain ⟨hc, hf⟩ := bel_cells hb1
  go_wp2_with fail
  refine (c2.out _).mono ?_
  rintro e w2 ⟨rfl, hb2⟩
  have hb3 := hb1.trans (hb2.mono hb1.size)
  have hlt : w.heap.size < w2.heap.size := by have := hb3.size; simp at this; omega
  clear hc hf
  obtain ⟨hc, hf⟩ := bel_cells hb3
  have ka : ∀ o i, (w2.alloc o).cell? ⟨w.heap.size, i, none⟩ = w2.cell? ⟨w.heap.size, i, none⟩ := fun o i => World.cell?_alloc_lt _ _ _ hlt
  go_wp2
  go_ret2
  exact ⟨rfl, (by repeat (first | exact Below.refl _ _ | refine bs_alloc ?_ _ | refine bs_drew ?_ | refine bs_drewN ?_ _ | (refine bs_set ?_ _ _ _ (by simp; done)) | (refine bs_set ?_ _ _ _ (by omega)) | (refine bs_step ?_ (by assumption))))⟩

set_option maxHeartbeats 1000000 in
theorem rjoin_3_off (s : Bool) (m : Nat) (p : Int) (hm : m < 8388608) (hp0 : -149 ≤ p) (hp1 : p ≤ 104) (hne : ¬ (-149 : Int) = p) (hne2 : ((-149 : Int) == p) = false) (hne3 : ((-149 : Int) != p) = true) (w : World) : Calls Try.prog 36 #[pval 3 s m p] w (Ret w (.tuple #[.int .u32 0, .int .i64 30])) := by
  have t1 : decide (16777216 ≤ (m : Int)) = false := decide_eq_false (by omega)
  have t2 : decide (p < -149) = false := decide_eq_false (by omega)
  have t3 : decide (104 < p) = false := decide_eq_false (by omega)
  have c1 := Lib.hid (fun W => lay_low s m p hm hp0 hp1 W)
  have c2 := Lib.hid (fun W => RefSplit_any (sgB s + m) (sg_parts s m (by omega)).2.2.2 W)
  rw [parts_low s m hm] at c2
  unfold val at c1
  unfold pval at c2 ⊢
  go_enter Try.func36, Try.ntmps36
  go_wp2_with fail
  refine (c1.out _).mono ?_
  rintro e w1 ⟨rfl, hb1⟩
  obtain ⟨hc, hf⟩ := bel_cells hb1
  go_wp2_with fail
  refine (c2.out _).mono ?_
  rintro e w2 ⟨rfl, hb2⟩
  have hb3 := hb1.trans (hb2.mono hb1.size)
  have hlt : w.heap.size < w2.heap.size := by have := hb3.size; simp at this; omega
  clear hc hf
  obtain ⟨hc, hf⟩ := bel_cells hb3
  have ka : ∀ o i, (w2.alloc o).cell? ⟨w.heap.size, i, none⟩ = w2.cell? ⟨w.heap.size, i, none⟩ := fun o i => World.cell?_alloc_lt _ _ _ hlt
  go_wp2
  go_ret2
  exact ⟨rfl, (by repeat (first | exact Below.refl _ _ | refine bs_alloc ?_ _ | refine bs_drew ?_ | refine bs_drewN ?_ _ | (refine bs_set ?_ _ _ _ (by simp; done)) | (refine bs_set ?_ _ _ _ (by omega)) | (refine bs_step ?_ (by assumption))))⟩

set_option maxHeartbeats 1000000 in
theorem rjoin_3_high (s : Bool) (m e : Nat) (p : Int) (hm : 8388608 ≤ m) (hm2 : m < 16777216) (hp0 : -149 ≤ p) (hp1 : p ≤ 104) (he : p + 150 = e) (w : World) : Calls Try.prog 36 #[pval 3 s m p] w (Ret w (.tuple #[.int .u32 (sgB s + (e * 8388608 + m % 8388608) : Nat), .int .i64 0])) := by
  have t1 : decide (16777216 ≤ (m : Int)) = false := decide_eq_false (by omega)
  have t2 : decide (p < -149) = false := decide_eq_false (by omega)
  have t3 : decide (104 < p) = false := decide_eq_false (by omega)
  have c1 := Lib.hid (fun W => lay_high s m e p hm hm2 hp0 hp1 he W)
  have c2 := Lib.hid (fun W => RefSplit_any (sgB s + (e * 8388608 + m % 8388608)) (sg_parts s (e * 8388608 + m % 8388608) (by omega)).2.2.2 W)
  rw [parts_high s e (m % 8388608) (by omega) (by omega) (Nat.mod_lt _ (by omega)), show m % 8388608 + 8388608 = m from by omega, show (e : Int) - 150 = p from by omega] at c2
  obtain ⟨wd, hwd⟩ : ∃ x, sgB s + (e * 8388608 + m % 8388608) = x := ⟨_, rfl⟩
  rw [hwd] at c1 c2 ⊢
  clear hwd
  unfold val at c1
  unfold pval at c2 ⊢
  go_enter Try.func36, Try.ntmps36
  go_wp2_with fail
  refine (c1.out _).mono ?_
  rintro e w1 ⟨rfl, hb1⟩
  obtain ⟨hc, hf⟩ := bel_cells hb1
  go_wp2_with fail
  refine (c2.out _).mono ?_
  rintro e w2 ⟨rfl, hb2⟩
  have hb3 := hb1.trans (hb2.mono hb1.size)
  have hlt : w.heap.size < w2.heap.size := by have := hb3.size; simp at this; omega
  clear hc hf
  obtain ⟨hc, hf⟩ := bel_cells hb3
  have ka : ∀ o i, (w2.alloc o).cell? ⟨w.heap.size, i, none⟩ = w2.cell? ⟨w.heap.size, i, none⟩ := fun o i => World.cell?_alloc_lt _ _ _ hlt
  go_wp2
  go_ret2
  exact ⟨rfl, (by repeat (first | exact Below.refl _ _ | refine bs_alloc ?_ _ | refine bs_drew ?_ | refine bs_drewN ?_ _ | (refine bs_set ?_ _ _ _ (by simp; done)) | (refine bs_set ?_ _ _ _ (by omega)) | (refine bs_step ?_ (by assumption))))⟩
end Go.Proofs.Ytdihbpfoalmlcaa
