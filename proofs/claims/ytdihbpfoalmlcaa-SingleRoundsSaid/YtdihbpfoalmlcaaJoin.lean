/- Contracts of package single: signed, laid, Join. -/
import Derived.Test.YtdihbpfoalmlcaaSplit
namespace Go.Proofs.Ytdihbpfoalmlcaa
open Go.RowKit Ieee

def sgB (s : Bool) : Nat := if s then 2147483648 else 0

theorem or32 (i x y : Nat) (hx : x % 2 ^ i = 0) (hy : y < 2 ^ i) (h : x + y < 4294967296) : bits .or .u32 (x : Int) (y : Int) = ((x + y : Nat) : Int) := by
  rw [u32_or_nat _ _ (by omega) (by omega), nat_join i _ _ hx hy]

theorem signed_any (s : Bool) (a : Nat) (ha : a < 2147483648) (w : World) : Calls Try.prog 59 #[.bool s, .int .u32 (a : Int)] w fun e w' => e = .returned (.int .u32 (sgB s + a : Nat)) ∧ w = w' := by
  have h1 : bits .or .u32 (a : Int) 2147483648 = ((2147483648 + a : Nat) : Int) := by
    have h := u32_or_nat a 2147483648 (by omega) (by omega)
    rw [Nat.or_comm, nat_join 31 2147483648 a (by decide) (by omega)] at h
    exact h
  cases s
  · have HR := Lib.hid (show ((sgB false + a : Nat) : Int) = (a : Int) from by unfold sgB; simp)
    rw [HR.out]
    go_enter Try.func59, Try.ntmps59
    go_wp2
    go_ret
    exact ⟨rfl, rfl⟩
  · have HR := Lib.hid (show ((sgB true + a : Nat) : Int) = ((2147483648 + a : Nat) : Int) from by unfold sgB; simp)
    rw [HR.out]
    go_enter Try.func59, Try.ntmps59
    go_wp2
    go_ret
    exact ⟨rfl, rfl⟩

theorem laid_low (m : Nat) (p : Int) (hm : m < 8388608) (w : World) : Calls Try.prog 60 #[.int .u32 (m : Int), .int .i64 p] w fun e w' => e = .returned (.int .u32 (m : Nat)) ∧ w = w' := by
  have hd : decide ((m : Int) < 8388608) = true := decide_eq_true (by omega)
  go_enter Try.func60, Try.ntmps60
  go_wp2
  go_ret
  exact ⟨rfl, rfl⟩

theorem laid_high (m e : Nat) (p : Int) (hm : 8388608 ≤ m) (hm2 : m ≤ 4294967295) (hp : p + 150 = e) (he : e ≤ 254) (w : World) :
    Calls Try.prog 60 #[.int .u32 (m : Int), .int .i64 p] w fun e' w' => e' = .returned (.int .u32 (e * 8388608 + m % 8388608 : Nat)) ∧ w = w' := by
  have hd : decide ((m : Int) < 8388608) = false := decide_eq_false (by omega)
  have b2 : bits .and .u32 (m : Int) 8388607 = ((m % 8388608 : Nat) : Int) := and32 _ 23 (by omega) 8388607 rfl (by omega)
  have b3 : bits .or .u32 ((e * 8388608 : Nat) : Int) ((m % 8388608 : Nat) : Int) = ((e * 8388608 + m % 8388608 : Nat) : Int) := or32 23 _ _ (by omega) (by omega) (by omega)
  have hw : IntKind.i64.wrap (p + 150) = (e : Int) := by rw [IntWalk.i64_in _ (by omega), hp]
  obtain ⟨F, hF⟩ : ∃ F, m % 8388608 = F := ⟨_, rfl⟩
  rw [hF] at b2 b3 ⊢
  clear hF
  have he3 : decide ((255 : Int) ≤ (e : Int)) = false := decide_eq_false (by omega)
  have b4 : bits .or .u32 ((e : Int) * 8388608) (F : Int) = ((e * 8388608 + F : Nat) : Int) := by rw [← b3]; congr 1
  have hmm : 8388608 ≤ (m : Int) := by omega
  clear b3 hp hm hm2
  go_enter Try.func60, Try.ntmps60
  go_wp2
  go_ret
  exact ⟨rfl, rfl⟩

theorem sg_parts (s : Bool) (x : Nat) (hx : x < 2147483648) : ((sgB s + x) / 2147483648 % 2 == 1) = s ∧ (sgB s + x) % 8388608 = x % 8388608 ∧ (sgB s + x) / 8388608 % 256 = x / 8388608 ∧ sgB s + x ≤ 4294967295 := by
  cases s
  · have : sgB false = 0 := rfl
    rw [this]
    refine ⟨?_, by omega, by omega, by omega⟩
    rw [beq_eq_false_iff_ne]; omega
  · have : sgB true = 2147483648 := rfl
    rw [this]
    refine ⟨?_, by omega, by omega, by omega⟩
    rw [beq_iff_eq]; omega
theorem parts_inf (s : Bool) : parD (single.read (sgB s + 2139095040)) = pval 2 s 0 0 := by
  obtain ⟨h1, h2, h3, h4⟩ := sg_parts s 2139095040 (by omega)
  have h := (parts_of (sgB s + 2139095040)).2.1 (by rw [h3]) (by rw [h2])
  simp only [h1] at h
  exact h
theorem parts_low (s : Bool) (m : Nat) (hm : m < 8388608) : parD (single.read (sgB s + m)) = pval 3 s m (-149) := by
  obtain ⟨h1, h2, h3, h4⟩ := sg_parts s m (by omega)
  have h := (parts_of (sgB s + m)).2.2.1 (by rw [h3]; omega)
  simp only [h1, h2] at h
  rw [Nat.mod_eq_of_lt hm] at h
  exact h
theorem parts_high (s : Bool) (e f : Nat) (he : 0 < e) (he2 : e ≤ 254) (hf : f < 8388608) : parD (single.read (sgB s + (e * 8388608 + f))) = pval 3 s (f + 8388608 : Nat) ((e : Int) - 150) := by
  obtain ⟨h1, h2, h3, h4⟩ := sg_parts s (e * 8388608 + f) (by omega)
  have e1 : (e * 8388608 + f) % 8388608 = f := by omega
  have e2 : (e * 8388608 + f) / 8388608 = e := by omega
  rw [e2] at h3
  have h := (parts_of (sgB s + (e * 8388608 + f))).2.2.2 (by rw [h3]; omega) (by rw [h3]; omega)
  simp only [h1, h2, h3, e1] at h
  rw [h]
  unfold pval
  rw [show (-149 : Int) + e - 1 = e - 150 from by omega]

set_option maxHeartbeats 1000000 in
theorem join_other (S : Int) (s : Bool) (m : Nat) (p : Int) (w : World) (h1 : ¬ (1 : Int) = S) (h2 : (S == 2) = false) (h3 : (S == 3) = false) :
    Calls Try.prog 35 #[pval S s m p] w (Ret w (.tuple #[.int .u32 0, .int .i64 30])) := by
  have c1 := Lib.hid (fun W => Split_any 2143289344 (by omega) W)
  have e1 : parD (single.read 2143289344) = pval 1 false 0 0 := (parts_of 2143289344).1 (by decide) (by decide)
  rw [e1] at c1
  clear e1
  unfold pval at c1
  unfold pval
  go_enter Try.func35, Try.ntmps35
  go_wp2_with fail
  go_region_held3 (fun w' => w'.cell? ⟨w.heap.size, 0, none⟩ = some (.int .u8 S) ∧ w'.cell? ⟨w.heap.size, 1, none⟩ = some (.bool s) ∧ w'.cell? ⟨w.heap.size, 2, none⟩ = some (.int .u32 m) ∧ w'.cell? ⟨w.heap.size, 3, none⟩ = some (.int .i64 p)) (first | go_keep | (go_split_ands; exact ⟨keepc hb1 (by assumption), keepc hb1 (by assumption), keepc hb1 (by assumption), keepc hb1 (by assumption)⟩))
    (first | (go_at_call 33; refine (c1.out _).mono ?_; rintro e w1 ⟨rfl, hb1⟩))
  go_wp2
  go_ret2
  exact ⟨rfl, (by repeat (first | exact Below.refl _ _ | refine bs_alloc ?_ _ | refine bs_drew ?_ | refine bs_drewN ?_ _ | (refine bs_step ?_ (by assumption))))⟩

set_option maxHeartbeats 1000000 in
theorem join_1_ok  (w : World)  :
    Calls Try.prog 35 #[pval 1 false 0 0] w (Ret w (.tuple #[.int .u32 2143289344, .int .i64 0])) := by
  have c1 := Lib.hid (fun W => Split_any 2143289344 (by omega) W)
  have e1 : parD (single.read 2143289344) = pval 1 false 0 0 := (parts_of 2143289344).1 (by decide) (by decide)
  rw [e1] at c1
  clear e1
  unfold pval at c1
  unfold pval
  go_enter Try.func35, Try.ntmps35
  go_wp2_with fail
  go_region_held3 (fun w' => w'.cell? ⟨w.heap.size, 0, none⟩ = some (.int .u8 1) ∧ w'.cell? ⟨w.heap.size, 1, none⟩ = some (.bool false) ∧ w'.cell? ⟨w.heap.size, 2, none⟩ = some (.int .u32 0) ∧ w'.cell? ⟨w.heap.size, 3, none⟩ = some (.int .i64 0)) (first | go_keep | (go_split_ands; exact ⟨keepc hb1 (by assumption), keepc hb1 (by assumption), keepc hb1 (by assumption), keepc hb1 (by assumption)⟩))
    (first | (go_at_call 33; refine (c1.out _).mono ?_; rintro e w1 ⟨rfl, hb1⟩))
  go_wp2
  go_ret2
  exact ⟨rfl, (by repeat (first | exact Below.refl _ _ | refine bs_alloc ?_ _ | refine bs_drew ?_ | refine bs_drewN ?_ _ | (refine bs_step ?_ (by assumption))))⟩

set_option maxHeartbeats 1000000 in
theorem join_1_s (m : Nat) (p : Int) (w : World)  :
    Calls Try.prog 35 #[pval 1 true m p] w (Ret w (.tuple #[.int .u32 0, .int .i64 30])) := by
  have c1 := Lib.hid (fun W => Split_any 2143289344 (by omega) W)
  have e1 : parD (single.read 2143289344) = pval 1 false 0 0 := (parts_of 2143289344).1 (by decide) (by decide)
  rw [e1] at c1
  clear e1
  unfold pval at c1
  unfold pval
  go_enter Try.func35, Try.ntmps35
  go_wp2_with fail
  go_region_held3 (fun w' => w'.cell? ⟨w.heap.size, 0, none⟩ = some (.int .u8 1) ∧ w'.cell? ⟨w.heap.size, 1, none⟩ = some (.bool true) ∧ w'.cell? ⟨w.heap.size, 2, none⟩ = some (.int .u32 m) ∧ w'.cell? ⟨w.heap.size, 3, none⟩ = some (.int .i64 p)) (first | go_keep | (go_split_ands; exact ⟨keepc hb1 (by assumption), keepc hb1 (by assumption), keepc hb1 (by assumption), keepc hb1 (by assumption)⟩))
    (first | (go_at_call 33; refine (c1.out _).mono ?_; rintro e w1 ⟨rfl, hb1⟩))
  go_wp2
  go_ret2
  exact ⟨rfl, (by repeat (first | exact Below.refl _ _ | refine bs_alloc ?_ _ | refine bs_drew ?_ | refine bs_drewN ?_ _ | (refine bs_step ?_ (by assumption))))⟩

set_option maxHeartbeats 1000000 in
theorem join_1_m (m : Nat) (p : Int) (w : World) (hm : ¬ (0 : Int) = (m : Int)) :
    Calls Try.prog 35 #[pval 1 false m p] w (Ret w (.tuple #[.int .u32 0, .int .i64 30])) := by
  have c1 := Lib.hid (fun W => Split_any 2143289344 (by omega) W)
  have e1 : parD (single.read 2143289344) = pval 1 false 0 0 := (parts_of 2143289344).1 (by decide) (by decide)
  rw [e1] at c1
  clear e1
  unfold pval at c1
  unfold pval
  go_enter Try.func35, Try.ntmps35
  go_wp2_with fail
  go_region_held3 (fun w' => w'.cell? ⟨w.heap.size, 0, none⟩ = some (.int .u8 1) ∧ w'.cell? ⟨w.heap.size, 1, none⟩ = some (.bool false) ∧ w'.cell? ⟨w.heap.size, 2, none⟩ = some (.int .u32 m) ∧ w'.cell? ⟨w.heap.size, 3, none⟩ = some (.int .i64 p)) (first | go_keep | (go_split_ands; exact ⟨keepc hb1 (by assumption), keepc hb1 (by assumption), keepc hb1 (by assumption), keepc hb1 (by assumption)⟩))
    (first | (go_at_call 33; refine (c1.out _).mono ?_; rintro e w1 ⟨rfl, hb1⟩))
  go_wp2
  go_ret2
  exact ⟨rfl, (by repeat (first | exact Below.refl _ _ | refine bs_alloc ?_ _ | refine bs_drew ?_ | refine bs_drewN ?_ _ | (refine bs_step ?_ (by assumption))))⟩

set_option maxHeartbeats 1000000 in
theorem join_1_p (p : Int) (w : World) (hp : ¬ (0 : Int) = p) :
    Calls Try.prog 35 #[pval 1 false 0 p] w (Ret w (.tuple #[.int .u32 0, .int .i64 30])) := by
  have c1 := Lib.hid (fun W => Split_any 2143289344 (by omega) W)
  have e1 : parD (single.read 2143289344) = pval 1 false 0 0 := (parts_of 2143289344).1 (by decide) (by decide)
  rw [e1] at c1
  clear e1
  unfold pval at c1
  unfold pval
  go_enter Try.func35, Try.ntmps35
  go_wp2_with fail
  go_region_held3 (fun w' => w'.cell? ⟨w.heap.size, 0, none⟩ = some (.int .u8 1) ∧ w'.cell? ⟨w.heap.size, 1, none⟩ = some (.bool false) ∧ w'.cell? ⟨w.heap.size, 2, none⟩ = some (.int .u32 0) ∧ w'.cell? ⟨w.heap.size, 3, none⟩ = some (.int .i64 p)) (first | go_keep | (go_split_ands; exact ⟨keepc hb1 (by assumption), keepc hb1 (by assumption), keepc hb1 (by assumption), keepc hb1 (by assumption)⟩))
    (first | (go_at_call 33; refine (c1.out _).mono ?_; rintro e w1 ⟨rfl, hb1⟩))
  go_wp2
  go_ret2
  exact ⟨rfl, (by repeat (first | exact Below.refl _ _ | refine bs_alloc ?_ _ | refine bs_drew ?_ | refine bs_drewN ?_ _ | (refine bs_step ?_ (by assumption))))⟩

set_option maxHeartbeats 1000000 in
theorem join_2_ok (s : Bool) (w : World)  :
    Calls Try.prog 35 #[pval 2 s 0 0] w (Ret w (.tuple #[.int .u32 (sgB s + 2139095040 : Nat), .int .i64 0])) := by
  have c1 := Lib.hid (fun W => Split_any (sgB s + 2139095040) (sg_parts s 2139095040 (by omega)).2.2.2 W)
  rw [parts_inf] at c1
  unfold pval at c1
  have c2 := Lib.hid (fun W => signed_any s 2139095040 (by omega) W)
  obtain ⟨wd, hwd⟩ : ∃ x, sgB s + 2139095040 = x := ⟨_, rfl⟩
  rw [hwd] at c1 c2 ⊢
  clear hwd
  unfold pval
  go_enter Try.func35, Try.ntmps35
  go_wp2_with fail
  refine (c2.out _).mono ?_
  rintro e w' ⟨rfl, rfl⟩
  go_wp2_with fail
  go_region_held3 (fun w' => w'.cell? ⟨w.heap.size, 0, none⟩ = some (.int .u8 2) ∧ w'.cell? ⟨w.heap.size, 1, none⟩ = some (.bool s) ∧ w'.cell? ⟨w.heap.size, 2, none⟩ = some (.int .u32 0) ∧ w'.cell? ⟨w.heap.size, 3, none⟩ = some (.int .i64 0)) (first | go_keep | (go_split_ands; exact ⟨keepc hb1 (by assumption), keepc hb1 (by assumption), keepc hb1 (by assumption), keepc hb1 (by assumption)⟩))
    (first | (go_at_call 33; refine (c1.out _).mono ?_; rintro e w1 ⟨rfl, hb1⟩))
  go_wp2
  go_ret2
  exact ⟨rfl, (by repeat (first | exact Below.refl _ _ | refine bs_alloc ?_ _ | refine bs_drew ?_ | refine bs_drewN ?_ _ | (refine bs_step ?_ (by assumption))))⟩

set_option maxHeartbeats 1000000 in
theorem join_2_m (s : Bool) (m : Nat) (p : Int) (w : World) (hm : ¬ (0 : Int) = (m : Int)) :
    Calls Try.prog 35 #[pval 2 s m p] w (Ret w (.tuple #[.int .u32 0, .int .i64 30])) := by
  have c1 := Lib.hid (fun W => Split_any (sgB s + 2139095040) (sg_parts s 2139095040 (by omega)).2.2.2 W)
  rw [parts_inf] at c1
  unfold pval at c1
  have c2 := Lib.hid (fun W => signed_any s 2139095040 (by omega) W)
  obtain ⟨wd, hwd⟩ : ∃ x, sgB s + 2139095040 = x := ⟨_, rfl⟩
  rw [hwd] at c1 c2
  clear hwd
  unfold pval
  go_enter Try.func35, Try.ntmps35
  go_wp2_with fail
  refine (c2.out _).mono ?_
  rintro e w' ⟨rfl, rfl⟩
  go_wp2_with fail
  go_region_held3 (fun w' => w'.cell? ⟨w.heap.size, 0, none⟩ = some (.int .u8 2) ∧ w'.cell? ⟨w.heap.size, 1, none⟩ = some (.bool s) ∧ w'.cell? ⟨w.heap.size, 2, none⟩ = some (.int .u32 m) ∧ w'.cell? ⟨w.heap.size, 3, none⟩ = some (.int .i64 p)) (first | go_keep | (go_split_ands; exact ⟨keepc hb1 (by assumption), keepc hb1 (by assumption), keepc hb1 (by assumption), keepc hb1 (by assumption)⟩))
    (first | (go_at_call 33; refine (c1.out _).mono ?_; rintro e w1 ⟨rfl, hb1⟩))
  go_wp2
  go_ret2
  exact ⟨rfl, (by repeat (first | exact Below.refl _ _ | refine bs_alloc ?_ _ | refine bs_drew ?_ | refine bs_drewN ?_ _ | (refine bs_step ?_ (by assumption))))⟩

set_option maxHeartbeats 1000000 in
theorem join_2_p (s : Bool) (p : Int) (w : World) (hp : ¬ (0 : Int) = p) :
    Calls Try.prog 35 #[pval 2 s 0 p] w (Ret w (.tuple #[.int .u32 0, .int .i64 30])) := by
  have c1 := Lib.hid (fun W => Split_any (sgB s + 2139095040) (sg_parts s 2139095040 (by omega)).2.2.2 W)
  rw [parts_inf] at c1
  unfold pval at c1
  have c2 := Lib.hid (fun W => signed_any s 2139095040 (by omega) W)
  obtain ⟨wd, hwd⟩ : ∃ x, sgB s + 2139095040 = x := ⟨_, rfl⟩
  rw [hwd] at c1 c2
  clear hwd
  unfold pval
  go_enter Try.func35, Try.ntmps35
  go_wp2_with fail
  refine (c2.out _).mono ?_
  rintro e w' ⟨rfl, rfl⟩
  go_wp2_with fail
  go_region_held3 (fun w' => w'.cell? ⟨w.heap.size, 0, none⟩ = some (.int .u8 2) ∧ w'.cell? ⟨w.heap.size, 1, none⟩ = some (.bool s) ∧ w'.cell? ⟨w.heap.size, 2, none⟩ = some (.int .u32 0) ∧ w'.cell? ⟨w.heap.size, 3, none⟩ = some (.int .i64 p)) (first | go_keep | (go_split_ands; exact ⟨keepc hb1 (by assumption), keepc hb1 (by assumption), keepc hb1 (by assumption), keepc hb1 (by assumption)⟩))
    (first | (go_at_call 33; refine (c1.out _).mono ?_; rintro e w1 ⟨rfl, hb1⟩))
  go_wp2
  go_ret2
  exact ⟨rfl, (by repeat (first | exact Below.refl _ _ | refine bs_alloc ?_ _ | refine bs_drew ?_ | refine bs_drewN ?_ _ | (refine bs_step ?_ (by assumption))))⟩

theorem join_3_under (s : Bool) (m : Nat) (p : Int) (w : World) (hp : p < -149) : Calls Try.prog 35 #[pval 3 s m p] w (Ret w (.tuple #[.int .u32 0, .int .i64 30])) := by
  have ht : decide (p < -149) = true := decide_eq_true hp
  unfold pval
  go_enter Try.func35, Try.ntmps35
  go_wp2
  go_ret2
  exact ⟨rfl, (by repeat (first | exact Below.refl _ _ | refine bs_alloc ?_ _ | refine bs_drew ?_ | refine bs_drewN ?_ _ | (refine bs_step ?_ (by assumption))))⟩

theorem join_3_over (s : Bool) (m : Nat) (p : Int) (w : World) (hp : ¬ p < -149) (hp2 : 104 < p) : Calls Try.prog 35 #[pval 3 s m p] w (Ret w (.tuple #[.int .u32 0, .int .i64 30])) := by
  have ht : decide (p < -149) = false := decide_eq_false hp; have ht2 : decide (104 < p) = true := decide_eq_true hp2
  unfold pval
  go_enter Try.func35, Try.ntmps35
  go_wp2
  go_ret2
  exact ⟨rfl, (by repeat (first | exact Below.refl _ _ | refine bs_alloc ?_ _ | refine bs_drew ?_ | refine bs_drewN ?_ _ | (refine bs_step ?_ (by assumption))))⟩

set_option maxHeartbeats 1000000 in
theorem join_3_low (s : Bool) (m : Nat) (w : World) (hm : m < 8388608) :
    Calls Try.prog 35 #[pval 3 s m (-149)] w (Ret w (.tuple #[.int .u32 (sgB s + m : Nat), .int .i64 0])) := by
  have ht : decide ((-149 : Int) < -149) = false := decide_eq_false (by omega)
  have ht2 : decide (104 < (-149 : Int)) = false := decide_eq_false (by omega)
  have c3 := Lib.hid (fun W => laid_low m (-149) hm W)
  have c2 := Lib.hid (fun W => signed_any s m (by omega) W)
  have c1 := Lib.hid (fun W => Split_any (sgB s + m) (sg_parts s m (by omega)).2.2.2 W)
  rw [parts_low s m hm] at c1
  unfold pval at c1
  obtain ⟨wd, hwd⟩ : ∃ x, sgB s + m = x := ⟨_, rfl⟩
  rw [hwd] at c1 c2 ⊢
  clear hwd
  unfold pval
  go_enter Try.func35, Try.ntmps35
  go_wp2_with fail
  go_region_held3 (fun w' => w'.cell? ⟨w.heap.size, 0, none⟩ = some (.int .u8 3) ∧ w'.cell? ⟨w.heap.size, 1, none⟩ = some (.bool s) ∧ w'.cell? ⟨w.heap.size, 2, none⟩ = some (.int .u32 m) ∧ w'.cell? ⟨w.heap.size, 3, none⟩ = some (.int .i64 (-149))) (first | go_keep | (go_split_ands; exact ⟨keepc hb1 (by assumption), keepc hb1 (by assumption), keepc hb1 (by assumption), keepc hb1 (by assumption)⟩))
    (first | (go_at_call 60; refine (c3.out _).mono ?_; rintro e w' ⟨rfl, rfl⟩) | (go_at_call 59; refine (c2.out _).mono ?_; rintro e w' ⟨rfl, rfl⟩))
  go_wp2_with fail
  go_region_held3 (fun w' => w'.cell? ⟨w.heap.size, 0, none⟩ = some (.int .u8 3) ∧ w'.cell? ⟨w.heap.size, 1, none⟩ = some (.bool s) ∧ w'.cell? ⟨w.heap.size, 2, none⟩ = some (.int .u32 m) ∧ w'.cell? ⟨w.heap.size, 3, none⟩ = some (.int .i64 (-149))) (first | go_keep | (go_split_ands; exact ⟨keepc hb1 (by assumption), keepc hb1 (by assumption), keepc hb1 (by assumption), keepc hb1 (by assumption)⟩))
    (first | (go_at_call 33; refine (c1.out _).mono ?_; rintro e w1 ⟨rfl, hb1⟩))
  go_wp2
  go_ret2
  exact ⟨rfl, (by repeat (first | exact Below.refl _ _ | refine bs_alloc ?_ _ | refine bs_drew ?_ | refine bs_drewN ?_ _ | (refine bs_step ?_ (by assumption))))⟩

set_option maxHeartbeats 1000000 in
theorem join_3_off (s : Bool) (m : Nat) (p : Int) (w : World) (hm : m < 8388608) (hp0 : -149 ≤ p) (hp1 : p ≤ 104) (hne : ¬ (-149 : Int) = p) :
    Calls Try.prog 35 #[pval 3 s m p] w (Ret w (.tuple #[.int .u32 0, .int .i64 30])) := by
  have ht : decide (p < -149) = false := decide_eq_false (by omega)
  have ht2 : decide (104 < p) = false := decide_eq_false (by omega)
  have c3 := Lib.hid (fun W => laid_low m p hm W)
  have c2 := Lib.hid (fun W => signed_any s m (by omega) W)
  have c1 := Lib.hid (fun W => Split_any (sgB s + m) (sg_parts s m (by omega)).2.2.2 W)
  rw [parts_low s m hm] at c1
  unfold pval at c1
  obtain ⟨wd, hwd⟩ : ∃ x, sgB s + m = x := ⟨_, rfl⟩
  rw [hwd] at c1 c2
  clear hwd
  unfold pval
  go_enter Try.func35, Try.ntmps35
  go_wp2_with fail
  go_region_held3 (fun w' => w'.cell? ⟨w.heap.size, 0, none⟩ = some (.int .u8 3) ∧ w'.cell? ⟨w.heap.size, 1, none⟩ = some (.bool s) ∧ w'.cell? ⟨w.heap.size, 2, none⟩ = some (.int .u32 m) ∧ w'.cell? ⟨w.heap.size, 3, none⟩ = some (.int .i64 p)) (first | go_keep | (go_split_ands; exact ⟨keepc hb1 (by assumption), keepc hb1 (by assumption), keepc hb1 (by assumption), keepc hb1 (by assumption)⟩))
    (first | (go_at_call 60; refine (c3.out _).mono ?_; rintro e w' ⟨rfl, rfl⟩) | (go_at_call 59; refine (c2.out _).mono ?_; rintro e w' ⟨rfl, rfl⟩))
  go_wp2_with fail
  go_region_held3 (fun w' => w'.cell? ⟨w.heap.size, 0, none⟩ = some (.int .u8 3) ∧ w'.cell? ⟨w.heap.size, 1, none⟩ = some (.bool s) ∧ w'.cell? ⟨w.heap.size, 2, none⟩ = some (.int .u32 m) ∧ w'.cell? ⟨w.heap.size, 3, none⟩ = some (.int .i64 p)) (first | go_keep | (go_split_ands; exact ⟨keepc hb1 (by assumption), keepc hb1 (by assumption), keepc hb1 (by assumption), keepc hb1 (by assumption)⟩))
    (first | (go_at_call 33; refine (c1.out _).mono ?_; rintro e w1 ⟨rfl, hb1⟩))
  go_wp2
  go_ret2
  exact ⟨rfl, (by repeat (first | exact Below.refl _ _ | refine bs_alloc ?_ _ | refine bs_drew ?_ | refine bs_drewN ?_ _ | (refine bs_step ?_ (by assumption))))⟩

set_option maxHeartbeats 1000000 in
theorem join_3_high (s : Bool) (m : Nat) (p : Int) (w : World) (hm : 8388608 ≤ m) (hm3 : m < 16777216) (hp0 : -149 ≤ p) (hp1 : p ≤ 104) :
    Calls Try.prog 35 #[pval 3 s m p] w (Ret w (.tuple #[.int .u32 (sgB s + ((p + 150).toNat * 8388608 + (m - 8388608)) : Nat), .int .i64 0])) := by
  have hm2 : m ≤ 4294967295 := by omega
  obtain ⟨e, he⟩ : ∃ e : Nat, p + 150 = e := Int.eq_ofNat_of_zero_le (by omega)
  have hep : (e : Int) - 150 = p := by omega
  have he0 : 0 < e := by omega
  have he1 : e ≤ 254 := by omega
  have hf : m % 8388608 < 8388608 := Nat.mod_lt _ (by omega)
  have ht : decide (p < -149) = false := decide_eq_false (by omega)
  have ht2 : decide (104 < p) = false := decide_eq_false (by omega)
  have c3 := Lib.hid (fun W => laid_high m e p hm hm2 he he1 W)
  have c2 := Lib.hid (fun W => signed_any s (e * 8388608 + m % 8388608) (by omega) W)
  have c1 := Lib.hid (fun W => Split_any (sgB s + (e * 8388608 + m % 8388608)) (sg_parts s (e * 8388608 + m % 8388608) (by omega)).2.2.2 W)
  rw [parts_high s e (m % 8388608) he0 he1 hf, hep] at c1
  unfold pval at c1
  obtain ⟨wd, hwd⟩ : ∃ x, sgB s + (e * 8388608 + m % 8388608) = x := ⟨_, rfl⟩
  rw [show (p + 150).toNat * 8388608 + (m - 8388608) = e * 8388608 + m % 8388608 from by omega]
  rw [hwd] at c1 c2 ⊢
  rw [show m % 8388608 + 8388608 = m from by omega] at c1
  clear hwd
  clear hep he0 he1 hf he
  unfold pval
  go_enter Try.func35, Try.ntmps35
  go_wp2_with fail
  go_region_held3 (fun w' => w'.cell? ⟨w.heap.size, 0, none⟩ = some (.int .u8 3) ∧ w'.cell? ⟨w.heap.size, 1, none⟩ = some (.bool s) ∧ w'.cell? ⟨w.heap.size, 2, none⟩ = some (.int .u32 m) ∧ w'.cell? ⟨w.heap.size, 3, none⟩ = some (.int .i64 p)) (first | go_keep | (go_split_ands; exact ⟨keepc hb1 (by assumption), keepc hb1 (by assumption), keepc hb1 (by assumption), keepc hb1 (by assumption)⟩))
    (first | (go_at_call 60; refine (c3.out _).mono ?_; rintro e w' ⟨rfl, rfl⟩) | (go_at_call 59; refine (c2.out _).mono ?_; rintro e w' ⟨rfl, rfl⟩))
  go_wp2_with fail
  go_region_held3 (fun w' => w'.cell? ⟨w.heap.size, 0, none⟩ = some (.int .u8 3) ∧ w'.cell? ⟨w.heap.size, 1, none⟩ = some (.bool s) ∧ w'.cell? ⟨w.heap.size, 2, none⟩ = some (.int .u32 m) ∧ w'.cell? ⟨w.heap.size, 3, none⟩ = some (.int .i64 p)) (first | go_keep | (go_split_ands; exact ⟨keepc hb1 (by assumption), keepc hb1 (by assumption), keepc hb1 (by assumption), keepc hb1 (by assumption)⟩))
    (first | (go_at_call 33; refine (c1.out _).mono ?_; rintro e w1 ⟨rfl, hb1⟩))
  go_wp2
  go_ret2
  exact ⟨rfl, (by repeat (first | exact Below.refl _ _ | refine bs_alloc ?_ _ | refine bs_drew ?_ | refine bs_drewN ?_ _ | (refine bs_step ?_ (by assumption))))⟩

set_option maxHeartbeats 1000000 in
theorem join_3_wide (s : Bool) (m : Nat) (p : Int) (w : World) (hm3 : 16777216 ≤ m) (hm2 : m ≤ 4294967295) (hp0 : -149 ≤ p) (hp1 : p ≤ 104) :
    Calls Try.prog 35 #[pval 3 s m p] w (Ret w (.tuple #[.int .u32 0, .int .i64 30])) := by
  have hm : 8388608 ≤ m := by omega
  obtain ⟨e, he⟩ : ∃ e : Nat, p + 150 = e := Int.eq_ofNat_of_zero_le (by omega)
  have hep : (e : Int) - 150 = p := by omega
  have he0 : 0 < e := by omega
  have he1 : e ≤ 254 := by omega
  have hf : m % 8388608 < 8388608 := Nat.mod_lt _ (by omega)
  have ht : decide (p < -149) = false := decide_eq_false (by omega)
  have ht2 : decide (104 < p) = false := decide_eq_false (by omega)
  have c3 := Lib.hid (fun W => laid_high m e p hm hm2 he he1 W)
  have c2 := Lib.hid (fun W => signed_any s (e * 8388608 + m % 8388608) (by omega) W)
  have c1 := Lib.hid (fun W => Split_any (sgB s + (e * 8388608 + m % 8388608)) (sg_parts s (e * 8388608 + m % 8388608) (by omega)).2.2.2 W)
  rw [parts_high s e (m % 8388608) he0 he1 hf, hep] at c1
  unfold pval at c1
  obtain ⟨wd, hwd⟩ : ∃ x, sgB s + (e * 8388608 + m % 8388608) = x := ⟨_, rfl⟩
  rw [hwd] at c1 c2
  clear hwd
  obtain ⟨M, hM⟩ : ∃ M, m % 8388608 + 8388608 = M := ⟨_, rfl⟩
  have hne : ¬ (M : Int) = (m : Int) := by omega
  rw [hM] at c1
  clear hM hep he0 he1 hf he
  unfold pval
  go_enter Try.func35, Try.ntmps35
  go_wp2_with fail
  go_region_held3 (fun w' => w'.cell? ⟨w.heap.size, 0, none⟩ = some (.int .u8 3) ∧ w'.cell? ⟨w.heap.size, 1, none⟩ = some (.bool s) ∧ w'.cell? ⟨w.heap.size, 2, none⟩ = some (.int .u32 m) ∧ w'.cell? ⟨w.heap.size, 3, none⟩ = some (.int .i64 p)) (first | go_keep | (go_split_ands; exact ⟨keepc hb1 (by assumption), keepc hb1 (by assumption), keepc hb1 (by assumption), keepc hb1 (by assumption)⟩))
    (first | (go_at_call 60; refine (c3.out _).mono ?_; rintro e w' ⟨rfl, rfl⟩) | (go_at_call 59; refine (c2.out _).mono ?_; rintro e w' ⟨rfl, rfl⟩))
  go_wp2_with fail
  go_region_held3 (fun w' => w'.cell? ⟨w.heap.size, 0, none⟩ = some (.int .u8 3) ∧ w'.cell? ⟨w.heap.size, 1, none⟩ = some (.bool s) ∧ w'.cell? ⟨w.heap.size, 2, none⟩ = some (.int .u32 m) ∧ w'.cell? ⟨w.heap.size, 3, none⟩ = some (.int .i64 p)) (first | go_keep | (go_split_ands; exact ⟨keepc hb1 (by assumption), keepc hb1 (by assumption), keepc hb1 (by assumption), keepc hb1 (by assumption)⟩))
    (first | (go_at_call 33; refine (c1.out _).mono ?_; rintro e w1 ⟨rfl, hb1⟩))
  go_wp2
  go_ret2
  exact ⟨rfl, (by repeat (first | exact Below.refl _ _ | refine bs_alloc ?_ _ | refine bs_drew ?_ | refine bs_drewN ?_ _ | (refine bs_step ?_ (by assumption))))⟩
end Go.Proofs.Ytdihbpfoalmlcaa
