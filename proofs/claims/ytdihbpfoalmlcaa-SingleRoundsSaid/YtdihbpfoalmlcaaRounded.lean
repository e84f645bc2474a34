/- Contract of the reference's Rounded. -/
import Derived.Test.YtdihbpfoalmlcaaRnd
import Derived.Test.YtdihbpfoalmlcaaRef3
namespace Go.Proofs.Ytdihbpfoalmlcaa
open Go.RowKit Ieee

set_option maxHeartbeats 2000000 in
theorem rounded_zero (s : Bool) (A : Option Addr) (cap : Nat) (p : Int) (w : World) :
    Calls Try.prog 55 #[frm, .bool s, .slice A 0 cap, .int .i64 p, .bool false] w (Ret w (encD (single.read (single.nearest s 0 p)))) := by
  rw [rnd_zero]
  unfold frm
  go_enter Try.func55, Try.ntmps55
  go_wp2_with fail
  refine (nought_any s _).mono ?_
  rintro e w1 ⟨rfl, hB⟩
  obtain ⟨hc, hf⟩ := bel_cells hB
  unfold val
  go_wp2
  exact bodyPost_ret (v := val 3 s 0 (-149)) (by simp [results, Try.results55, go_sem, hc, val]) rfl ⟨rfl, bel_set4 (bel_two _ _ _ hB) (by simp) _ _ _ _⟩

set_option maxHeartbeats 2000000 in
theorem rounded_up (s : Bool) (v : Value) (n q : Nat) (p k : Int) (w : World) (hv : IsN w v n) (hn : 0 < n) (bn : bsize n ≤ 10000) (hp : -10000 ≤ p) (hp2 : p ≤ 10000)
    (hk : lastP n p = k) (hq : p - k = q) :
    Calls Try.prog 55 #[frm, .bool s, v, .int .i64 p, .bool false] w (Ret w (encD (single.read (single.nearest s n p)))) := by
  have hr := rnd_up s n hn p (by omega)
  rw [hk, show (p - k).toNat = q from by omega] at hr
  obtain ⟨t0, t1, t2, t3, he⟩ := encD_form (heldD single s (n * 2 ^ q) k)
  rw [hr.2, he]
  have hheld := fun W => held_any s (n * 2 ^ q) k W
  rw [he] at hheld
  unfold val at hheld
  have HH := Lib.hid hheld
  have hmod : n * 2 ^ q % 18446744073709551616 = n * 2 ^ q := Nat.mod_eq_of_lt (by omega)
  have HM := Lib.hid hmod
  have HN := Lib.hid hv
  have hup : bsize (n * 2 ^ q) ≤ 20000 := by have := bsize_of_lt (show n * 2 ^ q < 2 ^ 24 from hr.1); omega
  obtain ⟨A, cap, xs, rfl, -, hcap, -, -, hnn, hval, hlen⟩ := hv.len
  have hl0 : 0 < xs.length := by
    refine List.length_pos_iff.2 fun e => ?_
    have := (norm_zero xs hnn).2 e
    omega
  have hlx : xs.length ≤ 9223372036854775807 := by omega
  have hl : ((xs.length : Int) == 0) = false := by rw [beq_eq_false_iff_ne]; omega
  have hkk : k = p + bsize n - 24 ∧ -149 ≤ k ∨ k = -149 ∧ p + bsize n - 24 < -149 := by unfold lastP at hk; omega
  clear hr he hheld hmod hv hval hk
  rcases hkk with ⟨hk1, hk2⟩ | ⟨rfl, hk2⟩
  · have HQ := Lib.hid (show (p - k).toNat = q from by omega)
    have hsum : IntKind.i64.wrap (p + (bsize n : Nat)) = p + (bsize n : Nat) := IntWalk.i64_in _ (by omega)
    have hsum2 : IntKind.i64.wrap (p + (bsize n : Nat) - 24) = k := by rw [IntWalk.i64_in _ (by omega), hk1]
    have hsub : IntKind.i64.wrap (p - k) = p - k := IntWalk.i64_in _ (by omega)
    have hkp : k ≤ p := by omega
    have hpk : p - k ≤ 100000 := by omega
    clear hk1 hq
    unfold frm
    go_enter Try.func55, Try.ntmps55
    go_wp2_with fail
    go_region_held3 (fun w' => w'.cell? ⟨w.heap.size, 0, none⟩ = some (.int .i64 24) ∧ w'.cell? ⟨w.heap.size, 1, none⟩ = some (.int .i64 (-149)) ∧ w'.cell? ⟨w.heap.size, 2, none⟩ = some (.int .i64 104)) (first | go_keep | (go_split_ands; exact ⟨keepc hb1 (by assumption), keepc hb1 (by assumption), keepc hb1 (by assumption)⟩))
      (first | (go_at_call 80; refine (size_any _ n _ (HN.out.below (by repeat (first | exact Below.refl _ _ | refine bs_alloc ?_ _ | refine bs_drew ?_ | refine bs_drewN ?_ _ | (refine bs_step ?_ (by assumption))))) (by omega)).mono ?_; rintro e w' ⟨rfl, rfl⟩))
    go_wp2
    go_region_held3 (fun w' => w'.cell? ⟨w.heap.size, 0, none⟩ = some (.int .i64 24) ∧ w'.cell? ⟨w.heap.size, 1, none⟩ = some (.int .i64 (-149)) ∧ w'.cell? ⟨w.heap.size, 2, none⟩ = some (.int .i64 104)) (first | go_keep | (go_split_ands; exact ⟨keepc hb1 (by assumption), keepc hb1 (by assumption), keepc hb1 (by assumption)⟩))
      (first
        | (go_at_call 73; refine (up_is _ n (n * 2 ^ q) _ _ (HN.out.below (by repeat (first | exact Below.refl _ _ | refine bs_alloc ?_ _ | refine bs_drew ?_ | refine bs_drewN ?_ _ | (refine bs_step ?_ (by assumption))))) (by omega) (by omega) (by omega) (by rw [HQ.out])).mono ?_; rintro e w1 ⟨v1, rfl, hv1, hb1⟩)
        | (go_at_call 57; refine (low_any _ _ _ hv1).mono ?_; rintro e w' ⟨rfl, rfl⟩; rw [HM.out])
        | (go_at_call 79; refine (HH.out _).mono ?_; rintro e w1 ⟨rfl, hb1⟩; have hB : Below ((w.alloc (.cells #[.int .i64 24, .int .i64 (-149), .int .i64 104] 54)).alloc (.cells #[.int .u8 0, .bool false, .int .u64 0, .int .i64 0] 51)).heap.size ((w.alloc (.cells #[.int .i64 24, .int .i64 (-149), .int .i64 104] 54)).alloc (.cells #[.int .u8 0, .bool false, .int .u64 0, .int .i64 0] 51)) w1 := (by repeat (first | exact Below.refl _ _ | refine bs_alloc ?_ _ | refine bs_drew ?_ | refine bs_drewN ?_ _ | (refine bs_step ?_ (by assumption)))); obtain ⟨hc, hf⟩ := bel_cells hB))
    go_wp2
    exact bodyPost_ret (v := val t0 t1 t2 t3) (by simp [results, Try.results55, go_sem, hc, val]) rfl ⟨rfl, bel_set4 (bel_two _ _ _ hB) (by simp) _ _ _ _⟩
  · have HQ := Lib.hid (show (p + 149).toNat = q from by omega)
    have hsum : IntKind.i64.wrap (p + (bsize n : Nat)) = p + (bsize n : Nat) := IntWalk.i64_in _ (by omega)
    have hsum2 : IntKind.i64.wrap (p + (bsize n : Nat) - 24) = p + (bsize n : Nat) - 24 := IntWalk.i64_in _ (by omega)
    have hsub : IntKind.i64.wrap (p + 149) = p + 149 := IntWalk.i64_in _ (by omega)
    have hkp : -149 ≤ p := by omega
    have hpk : p + 149 ≤ 100000 := by omega
    clear hq
    unfold frm
    go_enter Try.func55, Try.ntmps55
    go_wp2_with fail
    go_region_held3 (fun w' => w'.cell? ⟨w.heap.size, 0, none⟩ = some (.int .i64 24) ∧ w'.cell? ⟨w.heap.size, 1, none⟩ = some (.int .i64 (-149)) ∧ w'.cell? ⟨w.heap.size, 2, none⟩ = some (.int .i64 104)) (first | go_keep | (go_split_ands; exact ⟨keepc hb1 (by assumption), keepc hb1 (by assumption), keepc hb1 (by assumption)⟩))
      (first | (go_at_call 80; refine (size_any _ n _ (HN.out.below (by repeat (first | exact Below.refl _ _ | refine bs_alloc ?_ _ | refine bs_drew ?_ | refine bs_drewN ?_ _ | (refine bs_step ?_ (by assumption))))) (by omega)).mono ?_; rintro e w' ⟨rfl, rfl⟩))
    go_wp2
    go_region_held3 (fun w' => w'.cell? ⟨w.heap.size, 0, none⟩ = some (.int .i64 24) ∧ w'.cell? ⟨w.heap.size, 1, none⟩ = some (.int .i64 (-149)) ∧ w'.cell? ⟨w.heap.size, 2, none⟩ = some (.int .i64 104)) (first | go_keep | (go_split_ands; exact ⟨keepc hb1 (by assumption), keepc hb1 (by assumption), keepc hb1 (by assumption)⟩))
      (first
        | (go_at_call 73; refine (up_is _ n (n * 2 ^ q) _ _ (HN.out.below (by repeat (first | exact Below.refl _ _ | refine bs_alloc ?_ _ | refine bs_drew ?_ | refine bs_drewN ?_ _ | (refine bs_step ?_ (by assumption))))) (by omega) (by omega) (by omega) (by rw [HQ.out])).mono ?_; rintro e w1 ⟨v1, rfl, hv1, hb1⟩)
        | (go_at_call 57; refine (low_any _ _ _ hv1).mono ?_; rintro e w' ⟨rfl, rfl⟩; rw [HM.out])
        | (go_at_call 79; refine (HH.out _).mono ?_; rintro e w1 ⟨rfl, hb1⟩; have hB : Below ((w.alloc (.cells #[.int .i64 24, .int .i64 (-149), .int .i64 104] 54)).alloc (.cells #[.int .u8 0, .bool false, .int .u64 0, .int .i64 0] 51)).heap.size ((w.alloc (.cells #[.int .i64 24, .int .i64 (-149), .int .i64 104] 54)).alloc (.cells #[.int .u8 0, .bool false, .int .u64 0, .int .i64 0] 51)) w1 := (by repeat (first | exact Below.refl _ _ | refine bs_alloc ?_ _ | refine bs_drew ?_ | refine bs_drewN ?_ _ | (refine bs_step ?_ (by assumption)))); obtain ⟨hc, hf⟩ := bel_cells hB))
    go_wp2
    exact bodyPost_ret (v := val t0 t1 t2 t3) (by simp [results, Try.results55, go_sem, hc, val]) rfl ⟨rfl, bel_set4 (bel_two _ _ _ hB) (by simp) _ _ _ _⟩

theorem down_is (va : Value) (a r : Nat) (n : Int) (w : World) (ha : IsN w va a) (ba : bsize a ≤ 100000) (h0 : 0 ≤ n) (hn : n ≤ 100000) (hr : a / 2 ^ n.toNat = r) :
    Calls Try.prog 58 #[va, .int .i64 n] w (RetN w r) := by
  obtain ⟨k, rfl⟩ := Int.eq_ofNat_of_zero_le h0
  subst hr
  exact down_any va a k w ha ba (by omega)

theorem cmpI_is {a b : Nat} {c : Int} (h : cmpI a b = c) : (c = -1 → a < b) ∧ (c = 0 → a = b) ∧ (c = 1 → b < a) := by
  unfold cmpI at h
  split at h
  · omega
  · split at h <;> omega

set_option maxHeartbeats 4000000 in
theorem rounded_down_1_above (s : Bool) (v : Value) (n d K R : Nat) (p k : Int) (w : World) (hv : IsN w v n) (hn : 0 < n) (bn : bsize n ≤ 10000) (hp : -10000 ≤ p) (hp2 : p ≤ 10000)
    (hk : lastP n p = k) (hd : k - p = d) (hd0 : 0 < d) (hfar : d ≤ bsize n + 1) (hK : n / 2 ^ d = K) (hR : n % 2 ^ d = R) (hc : cmpI R (2 ^ (d - 1)) = 1) (hovf : K + 1 ≠ 16777216)
    (hsub : -149 ≤ p + bsize n - 24) :
    Calls Try.prog 55 #[frm, .bool s, v, .int .i64 p, .bool false] w (Ret w (encD (single.read (single.nearest s n p)))) := by
  have hpow : 2 ^ d = 2 * 2 ^ (d - 1) := by
    obtain ⟨e, rfl⟩ : ∃ e, d = e + 1 := ⟨d - 1, by omega⟩
    rw [Nat.pow_succ, Nat.add_sub_cancel]; omega
  have hcR := cmpI_is hc
  have hr := rnd_down s n hn p d (by omega) (K + 1) (by
    rw [hK, hR, hpow]
    rw [if_pos (by omega)])
  rw [hk] at hr
  have hK2 : K ≤ 16777216 := by omega
  rw [if_neg hovf] at hr
  obtain ⟨t0, t1, t2, t3, he⟩ := encD_form (heldD single s (K + 1) k)
  rw [hr.2, he]
  have hheld := fun W => held_any s (K + 1) k W
  rw [he] at hheld
  unfold val at hheld
  have HH := Lib.hid hheld
  have HM := Lib.hid (show K % 18446744073709551616 = K from Nat.mod_eq_of_lt (by omega))
  have HN := Lib.hid hv
  obtain ⟨A, cap, xs, rfl, -, hcap, -, -, hnn, hval, hlen⟩ := hv.len
  have hl0 : 0 < xs.length := by
    refine List.length_pos_iff.2 fun e => ?_
    have := (norm_zero xs hnn).2 e
    omega
  have hlx : xs.length ≤ 9223372036854775807 := by omega
  have hl : ((xs.length : Int) == 0) = false := by rw [beq_eq_false_iff_ne]; omega
  have HK := Lib.hid hK
  have HCM := Lib.hid hc
  have bK : bsize K ≤ 10000 := by rw [← hK]; have := bsize_div n d; omega
  have bKd : bsize (K * 2 ^ d) ≤ 30000 := by have := bsize_shift K d; omega
  have hKle : K * 2 ^ d ≤ n := by rw [← hK]; exact Nat.div_mul_le_self n (2 ^ d)
  have hsubR : n - K * 2 ^ d = R := by rw [← hK, ← hR]; have := Nat.div_add_mod n (2 ^ d); rw [Nat.mul_comm] at this; omega
  have HSR := Lib.hid hsubR
  have HLE := Lib.hid hKle
  have bR : bsize R ≤ 10000 := by have := bsize_mono (show R ≤ n by rw [← hR]; exact Nat.mod_le _ _); omega
  have hkv : k = p + bsize n - 24 := by unfold lastP at hk; omega
  have HD := Lib.hid (show (k - p).toNat = d from by omega)
  have HD1 := Lib.hid (show (k - p - 1).toNat = d - 1 from by omega)
  have hsum : IntKind.i64.wrap (p + (bsize n : Nat)) = p + (bsize n : Nat) := IntWalk.i64_in _ (by omega)
  have hsum2 : IntKind.i64.wrap (p + (bsize n : Nat) - 24) = k := by rw [IntWalk.i64_in _ (by omega), hkv]
  have hlow : -149 ≤ k := by omega
  have hk3 : k ≤ 20000 := by omega
  have hkp : p < k := by omega
  have hdd : k - p ≤ (bsize n : Nat) + 1 := by omega
  have hq : ((K : Int) + 1 == 16777216) = false := by rw [beq_eq_false_iff_ne]; omega
  clear hr he hheld hv hval hk hK hR hc hd hpow hsubR hKle hcR hovf hkv hfar
  unfold frm
  go_enter Try.func55, Try.ntmps55
  go_wp2_with fail
  go_region_held3 (fun w' => w'.cell? ⟨w.heap.size, 0, none⟩ = some (.int .i64 24) ∧ w'.cell? ⟨w.heap.size, 1, none⟩ = some (.int .i64 (-149)) ∧ w'.cell? ⟨w.heap.size, 2, none⟩ = some (.int .i64 104)) (first | go_keep | (go_split_ands; exact ⟨keepc hb1 (by assumption), keepc hb1 (by assumption), keepc hb1 (by assumption)⟩))
    (first | (go_at_call 80; refine (size_any _ n _ (HN.out.below (by repeat (first | exact Below.refl _ _ | refine bs_alloc ?_ _ | refine bs_drew ?_ | refine bs_drewN ?_ _ | (refine bs_step ?_ (by assumption))))) (by omega)).mono ?_; rintro e w' ⟨rfl, rfl⟩))
  go_wp2_with fail
  refine (size_any _ n _ (HN.out.below (by repeat (first | exact Below.refl _ _ | refine bs_alloc ?_ _ | refine bs_drew ?_ | refine bs_drewN ?_ _ | (refine bs_step ?_ (by assumption))))) (by omega)).mono ?_
  rintro e w' ⟨rfl, rfl⟩
  go_wp2_with fail
  refine (down_is _ n K _ _ (HN.out.below (by repeat (first | exact Below.refl _ _ | refine bs_alloc ?_ _ | refine bs_drew ?_ | refine bs_drewN ?_ _ | (refine bs_step ?_ (by assumption))))) (by omega) (by omega) (by omega) (by rw [HD.out]; exact HK.out)).mono ?_
  rintro e w1 ⟨v1, rfl, hv1, hb1⟩
  have hB : Below ((w.alloc (.cells #[.int .i64 24, .int .i64 (-149), .int .i64 104] 54)).alloc (.cells #[.int .u8 0, .bool false, .int .u64 0, .int .i64 0] 51)).heap.size ((w.alloc (.cells #[.int .i64 24, .int .i64 (-149), .int .i64 104] 54)).alloc (.cells #[.int .u8 0, .bool false, .int .u64 0, .int .i64 0] 51)) w1 := (by repeat (first | exact Below.refl _ _ | refine bs_alloc ?_ _ | refine bs_drew ?_ | refine bs_drewN ?_ _ | (refine bs_step ?_ (by assumption))))
  have HB := Lib.hid hB
  clear hB hb1
  go_wp2_with fail
  refine (low_any _ _ _ hv1).mono ?_
  rintro e w' ⟨rfl, rfl⟩
  rw [HM.out]
  clear hv1
  go_wp2_with fail
  have hNw := HN.out.below (bel_two _ _ _ HB.out)
  refine (down_is _ n K _ _ hNw (by omega) (by omega) (by omega) (by rw [HD.out]; exact HK.out)).mono ?_
  rintro e w2 ⟨v2, rfl, hv2, hb1⟩
  replace HB := Lib.hid (HB.out.trans (hb1.mono HB.out.size)); replace hNw := hNw.below hb1
  clear hb1
  go_wp2_with fail
  refine (up_is _ K (K * 2 ^ d) _ _ hv2 (by omega) (by omega) (by omega) (by rw [HD.out])).mono ?_
  rintro e w3 ⟨v3, rfl, hv3, hb1⟩
  replace HB := Lib.hid (HB.out.trans (hb1.mono HB.out.size)); replace hNw := hNw.below hb1
  clear hb1 hv2
  go_wp2_with fail
  refine (less_any _ _ n (K * 2 ^ d) _ hNw hv3 (by omega) HLE.out).mono ?_
  rintro e w4 ⟨v4, rfl, hv4, hb1⟩
  replace HB := Lib.hid (HB.out.trans (hb1.mono HB.out.size))
  clear hb1 hv3 hNw
  go_wp2_with fail
  refine (nat_one _).mono ?_
  rintro e w5 ⟨v5, rfl, hv5, hb1⟩
  replace HB := Lib.hid (HB.out.trans (hb1.mono HB.out.size)); replace hv4 := hv4.below hb1
  clear hb1
  go_wp2_with fail
  refine (up_is _ 1 (2 ^ (d - 1)) _ _ hv5 (by have : bsize 1 ≤ 1 := by decide
                                              omega) (by omega) (by omega) (by rw [HD1.out, Nat.one_mul])).mono ?_
  rintro e w6 ⟨v6, rfl, hv6, hb1⟩
  replace HB := Lib.hid (HB.out.trans (hb1.mono HB.out.size)); replace hv4 := hv4.below hb1
  clear hb1 hv5
  rw [HSR.out] at hv4
  go_wp2_with fail
  refine (against_is _ _ R (2 ^ (d - 1)) (1) _ hv4 hv6 (by omega) HCM.out).mono ?_
  rintro e _ ⟨rfl, n1, rfl⟩
  replace HB := Lib.hid (bel_drewN HB.out n1)
  clear hv4 hv6
  have hB := HB.out
  obtain ⟨hc, hf⟩ := bel_cells hB
  clear hB
  go_wp2_with fail
  refine (HH.out _).mono ?_
  rintro e w7 ⟨rfl, hb1⟩
  have hB := HB.out.trans (hb1.mono HB.out.size)
  clear hc hf
  obtain ⟨hc, hf⟩ := bel_cells hB
  go_wp2
  exact bodyPost_ret (v := val t0 t1 t2 t3) (by simp [results, Try.results55, go_sem, hc, val]) rfl ⟨rfl, bel_set4 (bel_two _ _ _ hB) (by simp) _ _ _ _⟩

set_option maxHeartbeats 4000000 in
theorem rounded_down_1_above_full (s : Bool) (v : Value) (n d K R : Nat) (p k : Int) (w : World) (hv : IsN w v n) (hn : 0 < n) (bn : bsize n ≤ 10000) (hp : -10000 ≤ p) (hp2 : p ≤ 10000)
    (hk : lastP n p = k) (hd : k - p = d) (hd0 : 0 < d) (hfar : d ≤ bsize n + 1) (hK : n / 2 ^ d = K) (hR : n % 2 ^ d = R) (hc : cmpI R (2 ^ (d - 1)) = 1) (hovf : K + 1 = 16777216)
    (hsub : -149 ≤ p + bsize n - 24) :
    Calls Try.prog 55 #[frm, .bool s, v, .int .i64 p, .bool false] w (Ret w (encD (single.read (single.nearest s n p)))) := by
  have hpow : 2 ^ d = 2 * 2 ^ (d - 1) := by
    obtain ⟨e, rfl⟩ : ∃ e, d = e + 1 := ⟨d - 1, by omega⟩
    rw [Nat.pow_succ, Nat.add_sub_cancel]; omega
  have hcR := cmpI_is hc
  have hr := rnd_down s n hn p d (by omega) (K + 1) (by
    rw [hK, hR, hpow]
    rw [if_pos (by omega)])
  rw [hk] at hr
  have hK2 : K ≤ 16777216 := by omega
  rw [if_pos hovf] at hr
  obtain ⟨t0, t1, t2, t3, he⟩ := encD_form (heldD single s 8388608 (k + 1))
  rw [hr.2, he]
  have hheld := fun W => held_any s 8388608 (k + 1) W
  rw [he] at hheld
  unfold val at hheld
  have HH := Lib.hid hheld
  have HM := Lib.hid (show K % 18446744073709551616 = K from Nat.mod_eq_of_lt (by omega))
  have HN := Lib.hid hv
  obtain ⟨A, cap, xs, rfl, -, hcap, -, -, hnn, hval, hlen⟩ := hv.len
  have hl0 : 0 < xs.length := by
    refine List.length_pos_iff.2 fun e => ?_
    have := (norm_zero xs hnn).2 e
    omega
  have hlx : xs.length ≤ 9223372036854775807 := by omega
  have hl : ((xs.length : Int) == 0) = false := by rw [beq_eq_false_iff_ne]; omega
  have HK := Lib.hid hK
  have HCM := Lib.hid hc
  have bK : bsize K ≤ 10000 := by rw [← hK]; have := bsize_div n d; omega
  have bKd : bsize (K * 2 ^ d) ≤ 30000 := by have := bsize_shift K d; omega
  have hKle : K * 2 ^ d ≤ n := by rw [← hK]; exact Nat.div_mul_le_self n (2 ^ d)
  have hsubR : n - K * 2 ^ d = R := by rw [← hK, ← hR]; have := Nat.div_add_mod n (2 ^ d); rw [Nat.mul_comm] at this; omega
  have HSR := Lib.hid hsubR
  have HLE := Lib.hid hKle
  have bR : bsize R ≤ 10000 := by have := bsize_mono (show R ≤ n by rw [← hR]; exact Nat.mod_le _ _); omega
  have hkv : k = p + bsize n - 24 := by unfold lastP at hk; omega
  have HD := Lib.hid (show (k - p).toNat = d from by omega)
  have HD1 := Lib.hid (show (k - p - 1).toNat = d - 1 from by omega)
  have hsum : IntKind.i64.wrap (p + (bsize n : Nat)) = p + (bsize n : Nat) := IntWalk.i64_in _ (by omega)
  have hsum2 : IntKind.i64.wrap (p + (bsize n : Nat) - 24) = k := by rw [IntWalk.i64_in _ (by omega), hkv]
  have hlow : -149 ≤ k := by omega
  have hk3 : k ≤ 20000 := by omega
  have hkp : p < k := by omega
  have hdd : k - p ≤ (bsize n : Nat) + 1 := by omega
  have hq : ((K : Int) + 1 == 16777216) = true := by rw [beq_iff_eq]; omega
  have hhalf : ((K : Int) + 1) / 2 = 8388608 := by omega
  clear hr he hheld hv hval hk hK hR hc hd hpow hsubR hKle hcR hovf hkv hfar
  unfold frm
  go_enter Try.func55, Try.ntmps55
  go_wp2_with fail
  go_region_held3 (fun w' => w'.cell? ⟨w.heap.size, 0, none⟩ = some (.int .i64 24) ∧ w'.cell? ⟨w.heap.size, 1, none⟩ = some (.int .i64 (-149)) ∧ w'.cell? ⟨w.heap.size, 2, none⟩ = some (.int .i64 104)) (first | go_keep | (go_split_ands; exact ⟨keepc hb1 (by assumption), keepc hb1 (by assumption), keepc hb1 (by assumption)⟩))
    (first | (go_at_call 80; refine (size_any _ n _ (HN.out.below (by repeat (first | exact Below.refl _ _ | refine bs_alloc ?_ _ | refine bs_drew ?_ | refine bs_drewN ?_ _ | (refine bs_step ?_ (by assumption))))) (by omega)).mono ?_; rintro e w' ⟨rfl, rfl⟩))
  go_wp2_with fail
  refine (size_any _ n _ (HN.out.below (by repeat (first | exact Below.refl _ _ | refine bs_alloc ?_ _ | refine bs_drew ?_ | refine bs_drewN ?_ _ | (refine bs_step ?_ (by assumption))))) (by omega)).mono ?_
  rintro e w' ⟨rfl, rfl⟩
  go_wp2_with fail
  refine (down_is _ n K _ _ (HN.out.below (by repeat (first | exact Below.refl _ _ | refine bs_alloc ?_ _ | refine bs_drew ?_ | refine bs_drewN ?_ _ | (refine bs_step ?_ (by assumption))))) (by omega) (by omega) (by omega) (by rw [HD.out]; exact HK.out)).mono ?_
  rintro e w1 ⟨v1, rfl, hv1, hb1⟩
  have hB : Below ((w.alloc (.cells #[.int .i64 24, .int .i64 (-149), .int .i64 104] 54)).alloc (.cells #[.int .u8 0, .bool false, .int .u64 0, .int .i64 0] 51)).heap.size ((w.alloc (.cells #[.int .i64 24, .int .i64 (-149), .int .i64 104] 54)).alloc (.cells #[.int .u8 0, .bool false, .int .u64 0, .int .i64 0] 51)) w1 := (by repeat (first | exact Below.refl _ _ | refine bs_alloc ?_ _ | refine bs_drew ?_ | refine bs_drewN ?_ _ | (refine bs_step ?_ (by assumption))))
  have HB := Lib.hid hB
  clear hB hb1
  go_wp2_with fail
  refine (low_any _ _ _ hv1).mono ?_
  rintro e w' ⟨rfl, rfl⟩
  rw [HM.out]
  clear hv1
  go_wp2_with fail
  have hNw := HN.out.below (bel_two _ _ _ HB.out)
  refine (down_is _ n K _ _ hNw (by omega) (by omega) (by omega) (by rw [HD.out]; exact HK.out)).mono ?_
  rintro e w2 ⟨v2, rfl, hv2, hb1⟩
  replace HB := Lib.hid (HB.out.trans (hb1.mono HB.out.size)); replace hNw := hNw.below hb1
  clear hb1
  go_wp2_with fail
  refine (up_is _ K (K * 2 ^ d) _ _ hv2 (by omega) (by omega) (by omega) (by rw [HD.out])).mono ?_
  rintro e w3 ⟨v3, rfl, hv3, hb1⟩
  replace HB := Lib.hid (HB.out.trans (hb1.mono HB.out.size)); replace hNw := hNw.below hb1
  clear hb1 hv2
  go_wp2_with fail
  refine (less_any _ _ n (K * 2 ^ d) _ hNw hv3 (by omega) HLE.out).mono ?_
  rintro e w4 ⟨v4, rfl, hv4, hb1⟩
  replace HB := Lib.hid (HB.out.trans (hb1.mono HB.out.size))
  clear hb1 hv3 hNw
  go_wp2_with fail
  refine (nat_one _).mono ?_
  rintro e w5 ⟨v5, rfl, hv5, hb1⟩
  replace HB := Lib.hid (HB.out.trans (hb1.mono HB.out.size)); replace hv4 := hv4.below hb1
  clear hb1
  go_wp2_with fail
  refine (up_is _ 1 (2 ^ (d - 1)) _ _ hv5 (by have : bsize 1 ≤ 1 := by decide
                                              omega) (by omega) (by omega) (by rw [HD1.out, Nat.one_mul])).mono ?_
  rintro e w6 ⟨v6, rfl, hv6, hb1⟩
  replace HB := Lib.hid (HB.out.trans (hb1.mono HB.out.size)); replace hv4 := hv4.below hb1
  clear hb1 hv5
  rw [HSR.out] at hv4
  go_wp2_with fail
  refine (against_is _ _ R (2 ^ (d - 1)) (1) _ hv4 hv6 (by omega) HCM.out).mono ?_
  rintro e _ ⟨rfl, n1, rfl⟩
  replace HB := Lib.hid (bel_drewN HB.out n1)
  clear hv4 hv6
  have hB := HB.out
  obtain ⟨hc, hf⟩ := bel_cells hB
  clear hB
  go_wp2_with fail
  refine (HH.out _).mono ?_
  rintro e w7 ⟨rfl, hb1⟩
  have hB := HB.out.trans (hb1.mono HB.out.size)
  clear hc hf
  obtain ⟨hc, hf⟩ := bel_cells hB
  go_wp2
  exact bodyPost_ret (v := val t0 t1 t2 t3) (by simp [results, Try.results55, go_sem, hc, val]) rfl ⟨rfl, bel_set4 (bel_two _ _ _ hB) (by simp) _ _ _ _⟩

set_option maxHeartbeats 4000000 in
theorem rounded_down_1_odd (s : Bool) (v : Value) (n d K R : Nat) (p k : Int) (w : World) (hv : IsN w v n) (hn : 0 < n) (bn : bsize n ≤ 10000) (hp : -10000 ≤ p) (hp2 : p ≤ 10000)
    (hk : lastP n p = k) (hd : k - p = d) (hd0 : 0 < d) (hfar : d ≤ bsize n + 1) (hK : n / 2 ^ d = K) (hR : n % 2 ^ d = R) (hc : cmpI R (2 ^ (d - 1)) = 0) (hodd : K % 2 = 1) (hovf : K + 1 ≠ 16777216)
    (hsub : -149 ≤ p + bsize n - 24) :
    Calls Try.prog 55 #[frm, .bool s, v, .int .i64 p, .bool false] w (Ret w (encD (single.read (single.nearest s n p)))) := by
  have hpow : 2 ^ d = 2 * 2 ^ (d - 1) := by
    obtain ⟨e, rfl⟩ : ∃ e, d = e + 1 := ⟨d - 1, by omega⟩
    rw [Nat.pow_succ, Nat.add_sub_cancel]; omega
  have hcR := cmpI_is hc
  have hr := rnd_down s n hn p d (by omega) (K + 1) (by
    rw [hK, hR, hpow]
    rw [if_pos (by omega)])
  rw [hk] at hr
  have hK2 : K ≤ 16777216 := by omega
  rw [if_neg hovf] at hr
  obtain ⟨t0, t1, t2, t3, he⟩ := encD_form (heldD single s (K + 1) k)
  rw [hr.2, he]
  have hheld := fun W => held_any s (K + 1) k W
  rw [he] at hheld
  unfold val at hheld
  have HH := Lib.hid hheld
  have HM := Lib.hid (show K % 18446744073709551616 = K from Nat.mod_eq_of_lt (by omega))
  have HN := Lib.hid hv
  obtain ⟨A, cap, xs, rfl, -, hcap, -, -, hnn, hval, hlen⟩ := hv.len
  have hl0 : 0 < xs.length := by
    refine List.length_pos_iff.2 fun e => ?_
    have := (norm_zero xs hnn).2 e
    omega
  have hlx : xs.length ≤ 9223372036854775807 := by omega
  have hl : ((xs.length : Int) == 0) = false := by rw [beq_eq_false_iff_ne]; omega
  have HK := Lib.hid hK
  have HCM := Lib.hid hc
  have bK : bsize K ≤ 10000 := by rw [← hK]; have := bsize_div n d; omega
  have bKd : bsize (K * 2 ^ d) ≤ 30000 := by have := bsize_shift K d; omega
  have hKle : K * 2 ^ d ≤ n := by rw [← hK]; exact Nat.div_mul_le_self n (2 ^ d)
  have hsubR : n - K * 2 ^ d = R := by rw [← hK, ← hR]; have := Nat.div_add_mod n (2 ^ d); rw [Nat.mul_comm] at this; omega
  have HSR := Lib.hid hsubR
  have HLE := Lib.hid hKle
  have bR : bsize R ≤ 10000 := by have := bsize_mono (show R ≤ n by rw [← hR]; exact Nat.mod_le _ _); omega
  have hkv : k = p + bsize n - 24 := by unfold lastP at hk; omega
  have HD := Lib.hid (show (k - p).toNat = d from by omega)
  have HD1 := Lib.hid (show (k - p - 1).toNat = d - 1 from by omega)
  have hsum : IntKind.i64.wrap (p + (bsize n : Nat)) = p + (bsize n : Nat) := IntWalk.i64_in _ (by omega)
  have hsum2 : IntKind.i64.wrap (p + (bsize n : Nat) - 24) = k := by rw [IntWalk.i64_in _ (by omega), hkv]
  have hlow : -149 ≤ k := by omega
  have hk3 : k ≤ 20000 := by omega
  have hkp : p < k := by omega
  have hdd : k - p ≤ (bsize n : Nat) + 1 := by omega
  have hpar : ((K : Int) % 2 == 1) = true := by rw [beq_iff_eq]; omega
  have hq : ((K : Int) + 1 == 16777216) = false := by rw [beq_eq_false_iff_ne]; omega
  clear hr he hheld hv hval hk hK hR hc hd hpow hsubR hKle hcR hodd hovf hkv hfar
  unfold frm
  go_enter Try.func55, Try.ntmps55
  go_wp2_with fail
  go_region_held3 (fun w' => w'.cell? ⟨w.heap.size, 0, none⟩ = some (.int .i64 24) ∧ w'.cell? ⟨w.heap.size, 1, none⟩ = some (.int .i64 (-149)) ∧ w'.cell? ⟨w.heap.size, 2, none⟩ = some (.int .i64 104)) (first | go_keep | (go_split_ands; exact ⟨keepc hb1 (by assumption), keepc hb1 (by assumption), keepc hb1 (by assumption)⟩))
    (first | (go_at_call 80; refine (size_any _ n _ (HN.out.below (by repeat (first | exact Below.refl _ _ | refine bs_alloc ?_ _ | refine bs_drew ?_ | refine bs_drewN ?_ _ | (refine bs_step ?_ (by assumption))))) (by omega)).mono ?_; rintro e w' ⟨rfl, rfl⟩))
  go_wp2_with fail
  refine (size_any _ n _ (HN.out.below (by repeat (first | exact Below.refl _ _ | refine bs_alloc ?_ _ | refine bs_drew ?_ | refine bs_drewN ?_ _ | (refine bs_step ?_ (by assumption))))) (by omega)).mono ?_
  rintro e w' ⟨rfl, rfl⟩
  go_wp2_with fail
  refine (down_is _ n K _ _ (HN.out.below (by repeat (first | exact Below.refl _ _ | refine bs_alloc ?_ _ | refine bs_drew ?_ | refine bs_drewN ?_ _ | (refine bs_step ?_ (by assumption))))) (by omega) (by omega) (by omega) (by rw [HD.out]; exact HK.out)).mono ?_
  rintro e w1 ⟨v1, rfl, hv1, hb1⟩
  have hB : Below ((w.alloc (.cells #[.int .i64 24, .int .i64 (-149), .int .i64 104] 54)).alloc (.cells #[.int .u8 0, .bool false, .int .u64 0, .int .i64 0] 51)).heap.size ((w.alloc (.cells #[.int .i64 24, .int .i64 (-149), .int .i64 104] 54)).alloc (.cells #[.int .u8 0, .bool false, .int .u64 0, .int .i64 0] 51)) w1 := (by repeat (first | exact Below.refl _ _ | refine bs_alloc ?_ _ | refine bs_drew ?_ | refine bs_drewN ?_ _ | (refine bs_step ?_ (by assumption))))
  have HB := Lib.hid hB
  clear hB hb1
  go_wp2_with fail
  refine (low_any _ _ _ hv1).mono ?_
  rintro e w' ⟨rfl, rfl⟩
  rw [HM.out]
  clear hv1
  go_wp2_with fail
  have hNw := HN.out.below (bel_two _ _ _ HB.out)
  refine (down_is _ n K _ _ hNw (by omega) (by omega) (by omega) (by rw [HD.out]; exact HK.out)).mono ?_
  rintro e w2 ⟨v2, rfl, hv2, hb1⟩
  replace HB := Lib.hid (HB.out.trans (hb1.mono HB.out.size)); replace hNw := hNw.below hb1
  clear hb1
  go_wp2_with fail
  refine (up_is _ K (K * 2 ^ d) _ _ hv2 (by omega) (by omega) (by omega) (by rw [HD.out])).mono ?_
  rintro e w3 ⟨v3, rfl, hv3, hb1⟩
  replace HB := Lib.hid (HB.out.trans (hb1.mono HB.out.size)); replace hNw := hNw.below hb1
  clear hb1 hv2
  go_wp2_with fail
  refine (less_any _ _ n (K * 2 ^ d) _ hNw hv3 (by omega) HLE.out).mono ?_
  rintro e w4 ⟨v4, rfl, hv4, hb1⟩
  replace HB := Lib.hid (HB.out.trans (hb1.mono HB.out.size))
  clear hb1 hv3 hNw
  go_wp2_with fail
  refine (nat_one _).mono ?_
  rintro e w5 ⟨v5, rfl, hv5, hb1⟩
  replace HB := Lib.hid (HB.out.trans (hb1.mono HB.out.size)); replace hv4 := hv4.below hb1
  clear hb1
  go_wp2_with fail
  refine (up_is _ 1 (2 ^ (d - 1)) _ _ hv5 (by have : bsize 1 ≤ 1 := by decide
                                              omega) (by omega) (by omega) (by rw [HD1.out, Nat.one_mul])).mono ?_
  rintro e w6 ⟨v6, rfl, hv6, hb1⟩
  replace HB := Lib.hid (HB.out.trans (hb1.mono HB.out.size)); replace hv4 := hv4.below hb1
  clear hb1 hv5
  rw [HSR.out] at hv4
  go_wp2_with fail
  refine (against_is _ _ R (2 ^ (d - 1)) (0) _ hv4 hv6 (by omega) HCM.out).mono ?_
  rintro e _ ⟨rfl, n1, rfl⟩
  replace HB := Lib.hid (bel_drewN HB.out n1)
  clear hv4 hv6
  have hB := HB.out
  obtain ⟨hc, hf⟩ := bel_cells hB
  clear hB
  go_wp2_with fail
  refine (HH.out _).mono ?_
  rintro e w7 ⟨rfl, hb1⟩
  have hB := HB.out.trans (hb1.mono HB.out.size)
  clear hc hf
  obtain ⟨hc, hf⟩ := bel_cells hB
  go_wp2
  exact bodyPost_ret (v := val t0 t1 t2 t3) (by simp [results, Try.results55, go_sem, hc, val]) rfl ⟨rfl, bel_set4 (bel_two _ _ _ hB) (by simp) _ _ _ _⟩

set_option maxHeartbeats 4000000 in
theorem rounded_down_1_odd_full (s : Bool) (v : Value) (n d K R : Nat) (p k : Int) (w : World) (hv : IsN w v n) (hn : 0 < n) (bn : bsize n ≤ 10000) (hp : -10000 ≤ p) (hp2 : p ≤ 10000)
    (hk : lastP n p = k) (hd : k - p = d) (hd0 : 0 < d) (hfar : d ≤ bsize n + 1) (hK : n / 2 ^ d = K) (hR : n % 2 ^ d = R) (hc : cmpI R (2 ^ (d - 1)) = 0) (hodd : K % 2 = 1) (hovf : K + 1 = 16777216)
    (hsub : -149 ≤ p + bsize n - 24) :
    Calls Try.prog 55 #[frm, .bool s, v, .int .i64 p, .bool false] w (Ret w (encD (single.read (single.nearest s n p)))) := by
  have hpow : 2 ^ d = 2 * 2 ^ (d - 1) := by
    obtain ⟨e, rfl⟩ : ∃ e, d = e + 1 := ⟨d - 1, by omega⟩
    rw [Nat.pow_succ, Nat.add_sub_cancel]; omega
  have hcR := cmpI_is hc
  have hr := rnd_down s n hn p d (by omega) (K + 1) (by
    rw [hK, hR, hpow]
    rw [if_pos (by omega)])
  rw [hk] at hr
  have hK2 : K ≤ 16777216 := by omega
  rw [if_pos hovf] at hr
  obtain ⟨t0, t1, t2, t3, he⟩ := encD_form (heldD single s 8388608 (k + 1))
  rw [hr.2, he]
  have hheld := fun W => held_any s 8388608 (k + 1) W
  rw [he] at hheld
  unfold val at hheld
  have HH := Lib.hid hheld
  have HM := Lib.hid (show K % 18446744073709551616 = K from Nat.mod_eq_of_lt (by omega))
  have HN := Lib.hid hv
  obtain ⟨A, cap, xs, rfl, -, hcap, -, -, hnn, hval, hlen⟩ := hv.len
  have hl0 : 0 < xs.length := by
    refine List.length_pos_iff.2 fun e => ?_
    have := (norm_zero xs hnn).2 e
    omega
  have hlx : xs.length ≤ 9223372036854775807 := by omega
  have hl : ((xs.length : Int) == 0) = false := by rw [beq_eq_false_iff_ne]; omega
  have HK := Lib.hid hK
  have HCM := Lib.hid hc
  have bK : bsize K ≤ 10000 := by rw [← hK]; have := bsize_div n d; omega
  have bKd : bsize (K * 2 ^ d) ≤ 30000 := by have := bsize_shift K d; omega
  have hKle : K * 2 ^ d ≤ n := by rw [← hK]; exact Nat.div_mul_le_self n (2 ^ d)
  have hsubR : n - K * 2 ^ d = R := by rw [← hK, ← hR]; have := Nat.div_add_mod n (2 ^ d); rw [Nat.mul_comm] at this; omega
  have HSR := Lib.hid hsubR
  have HLE := Lib.hid hKle
  have bR : bsize R ≤ 10000 := by have := bsize_mono (show R ≤ n by rw [← hR]; exact Nat.mod_le _ _); omega
  have hkv : k = p + bsize n - 24 := by unfold lastP at hk; omega
  have HD := Lib.hid (show (k - p).toNat = d from by omega)
  have HD1 := Lib.hid (show (k - p - 1).toNat = d - 1 from by omega)
  have hsum : IntKind.i64.wrap (p + (bsize n : Nat)) = p + (bsize n : Nat) := IntWalk.i64_in _ (by omega)
  have hsum2 : IntKind.i64.wrap (p + (bsize n : Nat) - 24) = k := by rw [IntWalk.i64_in _ (by omega), hkv]
  have hlow : -149 ≤ k := by omega
  have hk3 : k ≤ 20000 := by omega
  have hkp : p < k := by omega
  have hdd : k - p ≤ (bsize n : Nat) + 1 := by omega
  have hpar : ((K : Int) % 2 == 1) = true := by rw [beq_iff_eq]; omega
  have hq : ((K : Int) + 1 == 16777216) = true := by rw [beq_iff_eq]; omega
  have hhalf : ((K : Int) + 1) / 2 = 8388608 := by omega
  clear hr he hheld hv hval hk hK hR hc hd hpow hsubR hKle hcR hodd hovf hkv hfar
  unfold frm
  go_enter Try.func55, Try.ntmps55
  go_wp2_with fail
  go_region_held3 (fun w' => w'.cell? ⟨w.heap.size, 0, none⟩ = some (.int .i64 24) ∧ w'.cell? ⟨w.heap.size, 1, none⟩ = some (.int .i64 (-149)) ∧ w'.cell? ⟨w.heap.size, 2, none⟩ = some (.int .i64 104)) (first | go_keep | (go_split_ands; exact ⟨keepc hb1 (by assumption), keepc hb1 (by assumption), keepc hb1 (by assumption)⟩))
    (first | (go_at_call 80; refine (size_any _ n _ (HN.out.below (by repeat (first | exact Below.refl _ _ | refine bs_alloc ?_ _ | refine bs_drew ?_ | refine bs_drewN ?_ _ | (refine bs_step ?_ (by assumption))))) (by omega)).mono ?_; rintro e w' ⟨rfl, rfl⟩))
  go_wp2_with fail
  refine (size_any _ n _ (HN.out.below (by repeat (first | exact Below.refl _ _ | refine bs_alloc ?_ _ | refine bs_drew ?_ | refine bs_drewN ?_ _ | (refine bs_step ?_ (by assumption))))) (by omega)).mono ?_
  rintro e w' ⟨rfl, rfl⟩
  go_wp2_with fail
  refine (down_is _ n K _ _ (HN.out.below (by repeat (first | exact Below.refl _ _ | refine bs_alloc ?_ _ | refine bs_drew ?_ | refine bs_drewN ?_ _ | (refine bs_step ?_ (by assumption))))) (by omega) (by omega) (by omega) (by rw [HD.out]; exact HK.out)).mono ?_
  rintro e w1 ⟨v1, rfl, hv1, hb1⟩
  have hB : Below ((w.alloc (.cells #[.int .i64 24, .int .i64 (-149), .int .i64 104] 54)).alloc (.cells #[.int .u8 0, .bool false, .int .u64 0, .int .i64 0] 51)).heap.size ((w.alloc (.cells #[.int .i64 24, .int .i64 (-149), .int .i64 104] 54)).alloc (.cells #[.int .u8 0, .bool false, .int .u64 0, .int .i64 0] 51)) w1 := (by repeat (first | exact Below.refl _ _ | refine bs_alloc ?_ _ | refine bs_drew ?_ | refine bs_drewN ?_ _ | (refine bs_step ?_ (by assumption))))
  have HB := Lib.hid hB
  clear hB hb1
  go_wp2_with fail
  refine (low_any _ _ _ hv1).mono ?_
  rintro e w' ⟨rfl, rfl⟩
  rw [HM.out]
  clear hv1
  go_wp2_with fail
  have hNw := HN.out.below (bel_two _ _ _ HB.out)
  refine (down_is _ n K _ _ hNw (by omega) (by omega) (by omega) (by rw [HD.out]; exact HK.out)).mono ?_
  rintro e w2 ⟨v2, rfl, hv2, hb1⟩
  replace HB := Lib.hid (HB.out.trans (hb1.mono HB.out.size)); replace hNw := hNw.below hb1
  clear hb1
  go_wp2_with fail
  refine (up_is _ K (K * 2 ^ d) _ _ hv2 (by omega) (by omega) (by omega) (by rw [HD.out])).mono ?_
  rintro e w3 ⟨v3, rfl, hv3, hb1⟩
  replace HB := Lib.hid (HB.out.trans (hb1.mono HB.out.size)); replace hNw := hNw.below hb1
  clear hb1 hv2
  go_wp2_with fail
  refine (less_any _ _ n (K * 2 ^ d) _ hNw hv3 (by omega) HLE.out).mono ?_
  rintro e w4 ⟨v4, rfl, hv4, hb1⟩
  replace HB := Lib.hid (HB.out.trans (hb1.mono HB.out.size))
  clear hb1 hv3 hNw
  go_wp2_with fail
  refine (nat_one _).mono ?_
  rintro e w5 ⟨v5, rfl, hv5, hb1⟩
  replace HB := Lib.hid (HB.out.trans (hb1.mono HB.out.size)); replace hv4 := hv4.below hb1
  clear hb1
  go_wp2_with fail
  refine (up_is _ 1 (2 ^ (d - 1)) _ _ hv5 (by have : bsize 1 ≤ 1 := by decide
                                              omega) (by omega) (by omega) (by rw [HD1.out, Nat.one_mul])).mono ?_
  rintro e w6 ⟨v6, rfl, hv6, hb1⟩
  replace HB := Lib.hid (HB.out.trans (hb1.mono HB.out.size)); replace hv4 := hv4.below hb1
  clear hb1 hv5
  rw [HSR.out] at hv4
  go_wp2_with fail
  refine (against_is _ _ R (2 ^ (d - 1)) (0) _ hv4 hv6 (by omega) HCM.out).mono ?_
  rintro e _ ⟨rfl, n1, rfl⟩
  replace HB := Lib.hid (bel_drewN HB.out n1)
  clear hv4 hv6
  have hB := HB.out
  obtain ⟨hc, hf⟩ := bel_cells hB
  clear hB
  go_wp2_with fail
  refine (HH.out _).mono ?_
  rintro e w7 ⟨rfl, hb1⟩
  have hB := HB.out.trans (hb1.mono HB.out.size)
  clear hc hf
  obtain ⟨hc, hf⟩ := bel_cells hB
  go_wp2
  exact bodyPost_ret (v := val t0 t1 t2 t3) (by simp [results, Try.results55, go_sem, hc, val]) rfl ⟨rfl, bel_set4 (bel_two _ _ _ hB) (by simp) _ _ _ _⟩

set_option maxHeartbeats 4000000 in
theorem rounded_down_1_even (s : Bool) (v : Value) (n d K R : Nat) (p k : Int) (w : World) (hv : IsN w v n) (hn : 0 < n) (bn : bsize n ≤ 10000) (hp : -10000 ≤ p) (hp2 : p ≤ 10000)
    (hk : lastP n p = k) (hd : k - p = d) (hd0 : 0 < d) (hfar : d ≤ bsize n + 1) (hK : n / 2 ^ d = K) (hR : n % 2 ^ d = R) (hc : cmpI R (2 ^ (d - 1)) = 0) (hodd : K % 2 = 0)
    (hsub : -149 ≤ p + bsize n - 24) :
    Calls Try.prog 55 #[frm, .bool s, v, .int .i64 p, .bool false] w (Ret w (encD (single.read (single.nearest s n p)))) := by
  have hpow : 2 ^ d = 2 * 2 ^ (d - 1) := by
    obtain ⟨e, rfl⟩ : ∃ e, d = e + 1 := ⟨d - 1, by omega⟩
    rw [Nat.pow_succ, Nat.add_sub_cancel]; omega
  have hcR := cmpI_is hc
  have hr := rnd_down s n hn p d (by omega) K (by
    rw [hK, hR, hpow]
    rw [if_neg (by omega)]; rfl)
  rw [hk] at hr
  have hK2 : K ≤ 16777216 := by omega
  
  have hfull : K < 16777216 := by rw [← hK]; exact rnd_quot n hn p d (by omega)
  rw [if_neg (by omega)] at hr
  obtain ⟨t0, t1, t2, t3, he⟩ := encD_form (heldD single s K k)
  rw [hr.2, he]
  have hheld := fun W => held_any s K k W
  rw [he] at hheld
  unfold val at hheld
  have HH := Lib.hid hheld
  have HM := Lib.hid (show K % 18446744073709551616 = K from Nat.mod_eq_of_lt (by omega))
  have HN := Lib.hid hv
  obtain ⟨A, cap, xs, rfl, -, hcap, -, -, hnn, hval, hlen⟩ := hv.len
  have hl0 : 0 < xs.length := by
    refine List.length_pos_iff.2 fun e => ?_
    have := (norm_zero xs hnn).2 e
    omega
  have hlx : xs.length ≤ 9223372036854775807 := by omega
  have hl : ((xs.length : Int) == 0) = false := by rw [beq_eq_false_iff_ne]; omega
  have HK := Lib.hid hK
  have HCM := Lib.hid hc
  have bK : bsize K ≤ 10000 := by rw [← hK]; have := bsize_div n d; omega
  have bKd : bsize (K * 2 ^ d) ≤ 30000 := by have := bsize_shift K d; omega
  have hKle : K * 2 ^ d ≤ n := by rw [← hK]; exact Nat.div_mul_le_self n (2 ^ d)
  have hsubR : n - K * 2 ^ d = R := by rw [← hK, ← hR]; have := Nat.div_add_mod n (2 ^ d); rw [Nat.mul_comm] at this; omega
  have HSR := Lib.hid hsubR
  have HLE := Lib.hid hKle
  have bR : bsize R ≤ 10000 := by have := bsize_mono (show R ≤ n by rw [← hR]; exact Nat.mod_le _ _); omega
  have hkv : k = p + bsize n - 24 := by unfold lastP at hk; omega
  have HD := Lib.hid (show (k - p).toNat = d from by omega)
  have HD1 := Lib.hid (show (k - p - 1).toNat = d - 1 from by omega)
  have hsum : IntKind.i64.wrap (p + (bsize n : Nat)) = p + (bsize n : Nat) := IntWalk.i64_in _ (by omega)
  have hsum2 : IntKind.i64.wrap (p + (bsize n : Nat) - 24) = k := by rw [IntWalk.i64_in _ (by omega), hkv]
  have hlow : -149 ≤ k := by omega
  have hk3 : k ≤ 20000 := by omega
  have hkp : p < k := by omega
  have hdd : k - p ≤ (bsize n : Nat) + 1 := by omega
  have hpar : ((K : Int) % 2 == 1) = false := by rw [beq_eq_false_iff_ne]; omega
  have hq : ((K : Int) == 16777216) = false := by rw [beq_eq_false_iff_ne]; omega
  clear hr he hheld hv hval hk hK hR hc hd hpow hsubR hKle hcR hodd hfull hkv hfar
  unfold frm
  go_enter Try.func55, Try.ntmps55
  go_wp2_with fail
  go_region_held3 (fun w' => w'.cell? ⟨w.heap.size, 0, none⟩ = some (.int .i64 24) ∧ w'.cell? ⟨w.heap.size, 1, none⟩ = some (.int .i64 (-149)) ∧ w'.cell? ⟨w.heap.size, 2, none⟩ = some (.int .i64 104)) (first | go_keep | (go_split_ands; exact ⟨keepc hb1 (by assumption), keepc hb1 (by assumption), keepc hb1 (by assumption)⟩))
    (first | (go_at_call 80; refine (size_any _ n _ (HN.out.below (by repeat (first | exact Below.refl _ _ | refine bs_alloc ?_ _ | refine bs_drew ?_ | refine bs_drewN ?_ _ | (refine bs_step ?_ (by assumption))))) (by omega)).mono ?_; rintro e w' ⟨rfl, rfl⟩))
  go_wp2_with fail
  refine (size_any _ n _ (HN.out.below (by repeat (first | exact Below.refl _ _ | refine bs_alloc ?_ _ | refine bs_drew ?_ | refine bs_drewN ?_ _ | (refine bs_step ?_ (by assumption))))) (by omega)).mono ?_
  rintro e w' ⟨rfl, rfl⟩
  go_wp2_with fail
  refine (down_is _ n K _ _ (HN.out.below (by repeat (first | exact Below.refl _ _ | refine bs_alloc ?_ _ | refine bs_drew ?_ | refine bs_drewN ?_ _ | (refine bs_step ?_ (by assumption))))) (by omega) (by omega) (by omega) (by rw [HD.out]; exact HK.out)).mono ?_
  rintro e w1 ⟨v1, rfl, hv1, hb1⟩
  have hB : Below ((w.alloc (.cells #[.int .i64 24, .int .i64 (-149), .int .i64 104] 54)).alloc (.cells #[.int .u8 0, .bool false, .int .u64 0, .int .i64 0] 51)).heap.size ((w.alloc (.cells #[.int .i64 24, .int .i64 (-149), .int .i64 104] 54)).alloc (.cells #[.int .u8 0, .bool false, .int .u64 0, .int .i64 0] 51)) w1 := (by repeat (first | exact Below.refl _ _ | refine bs_alloc ?_ _ | refine bs_drew ?_ | refine bs_drewN ?_ _ | (refine bs_step ?_ (by assumption))))
  have HB := Lib.hid hB
  clear hB hb1
  go_wp2_with fail
  refine (low_any _ _ _ hv1).mono ?_
  rintro e w' ⟨rfl, rfl⟩
  rw [HM.out]
  clear hv1
  go_wp2_with fail
  have hNw := HN.out.below (bel_two _ _ _ HB.out)
  refine (down_is _ n K _ _ hNw (by omega) (by omega) (by omega) (by rw [HD.out]; exact HK.out)).mono ?_
  rintro e w2 ⟨v2, rfl, hv2, hb1⟩
  replace HB := Lib.hid (HB.out.trans (hb1.mono HB.out.size)); replace hNw := hNw.below hb1
  clear hb1
  go_wp2_with fail
  refine (up_is _ K (K * 2 ^ d) _ _ hv2 (by omega) (by omega) (by omega) (by rw [HD.out])).mono ?_
  rintro e w3 ⟨v3, rfl, hv3, hb1⟩
  replace HB := Lib.hid (HB.out.trans (hb1.mono HB.out.size)); replace hNw := hNw.below hb1
  clear hb1 hv2
  go_wp2_with fail
  refine (less_any _ _ n (K * 2 ^ d) _ hNw hv3 (by omega) HLE.out).mono ?_
  rintro e w4 ⟨v4, rfl, hv4, hb1⟩
  replace HB := Lib.hid (HB.out.trans (hb1.mono HB.out.size))
  clear hb1 hv3 hNw
  go_wp2_with fail
  refine (nat_one _).mono ?_
  rintro e w5 ⟨v5, rfl, hv5, hb1⟩
  replace HB := Lib.hid (HB.out.trans (hb1.mono HB.out.size)); replace hv4 := hv4.below hb1
  clear hb1
  go_wp2_with fail
  refine (up_is _ 1 (2 ^ (d - 1)) _ _ hv5 (by have : bsize 1 ≤ 1 := by decide
                                              omega) (by omega) (by omega) (by rw [HD1.out, Nat.one_mul])).mono ?_
  rintro e w6 ⟨v6, rfl, hv6, hb1⟩
  replace HB := Lib.hid (HB.out.trans (hb1.mono HB.out.size)); replace hv4 := hv4.below hb1
  clear hb1 hv5
  rw [HSR.out] at hv4
  go_wp2_with fail
  refine (against_is _ _ R (2 ^ (d - 1)) (0) _ hv4 hv6 (by omega) HCM.out).mono ?_
  rintro e _ ⟨rfl, n1, rfl⟩
  replace HB := Lib.hid (bel_drewN HB.out n1)
  clear hv4 hv6
  have hB := HB.out
  obtain ⟨hc, hf⟩ := bel_cells hB
  clear hB
  go_wp2_with fail
  refine (HH.out _).mono ?_
  rintro e w7 ⟨rfl, hb1⟩
  have hB := HB.out.trans (hb1.mono HB.out.size)
  clear hc hf
  obtain ⟨hc, hf⟩ := bel_cells hB
  go_wp2
  exact bodyPost_ret (v := val t0 t1 t2 t3) (by simp [results, Try.results55, go_sem, hc, val]) rfl ⟨rfl, bel_set4 (bel_two _ _ _ hB) (by simp) _ _ _ _⟩

set_option maxHeartbeats 4000000 in
theorem rounded_down_1_below (s : Bool) (v : Value) (n d K R : Nat) (p k : Int) (w : World) (hv : IsN w v n) (hn : 0 < n) (bn : bsize n ≤ 10000) (hp : -10000 ≤ p) (hp2 : p ≤ 10000)
    (hk : lastP n p = k) (hd : k - p = d) (hd0 : 0 < d) (hfar : d ≤ bsize n + 1) (hK : n / 2 ^ d = K) (hR : n % 2 ^ d = R) (hc : cmpI R (2 ^ (d - 1)) = -1)
    (hsub : -149 ≤ p + bsize n - 24) :
    Calls Try.prog 55 #[frm, .bool s, v, .int .i64 p, .bool false] w (Ret w (encD (single.read (single.nearest s n p)))) := by
  have hpow : 2 ^ d = 2 * 2 ^ (d - 1) := by
    obtain ⟨e, rfl⟩ : ∃ e, d = e + 1 := ⟨d - 1, by omega⟩
    rw [Nat.pow_succ, Nat.add_sub_cancel]; omega
  have hcR := cmpI_is hc
  have hr := rnd_down s n hn p d (by omega) K (by
    rw [hK, hR, hpow]
    rw [if_neg (by omega)]; rfl)
  rw [hk] at hr
  have hK2 : K ≤ 16777216 := by omega
  
  have hfull : K < 16777216 := by rw [← hK]; exact rnd_quot n hn p d (by omega)
  rw [if_neg (by omega)] at hr
  obtain ⟨t0, t1, t2, t3, he⟩ := encD_form (heldD single s K k)
  rw [hr.2, he]
  have hheld := fun W => held_any s K k W
  rw [he] at hheld
  unfold val at hheld
  have HH := Lib.hid hheld
  have HM := Lib.hid (show K % 18446744073709551616 = K from Nat.mod_eq_of_lt (by omega))
  have HN := Lib.hid hv
  obtain ⟨A, cap, xs, rfl, -, hcap, -, -, hnn, hval, hlen⟩ := hv.len
  have hl0 : 0 < xs.length := by
    refine List.length_pos_iff.2 fun e => ?_
    have := (norm_zero xs hnn).2 e
    omega
  have hlx : xs.length ≤ 9223372036854775807 := by omega
  have hl : ((xs.length : Int) == 0) = false := by rw [beq_eq_false_iff_ne]; omega
  have HK := Lib.hid hK
  have HCM := Lib.hid hc
  have bK : bsize K ≤ 10000 := by rw [← hK]; have := bsize_div n d; omega
  have bKd : bsize (K * 2 ^ d) ≤ 30000 := by have := bsize_shift K d; omega
  have hKle : K * 2 ^ d ≤ n := by rw [← hK]; exact Nat.div_mul_le_self n (2 ^ d)
  have hsubR : n - K * 2 ^ d = R := by rw [← hK, ← hR]; have := Nat.div_add_mod n (2 ^ d); rw [Nat.mul_comm] at this; omega
  have HSR := Lib.hid hsubR
  have HLE := Lib.hid hKle
  have bR : bsize R ≤ 10000 := by have := bsize_mono (show R ≤ n by rw [← hR]; exact Nat.mod_le _ _); omega
  have hkv : k = p + bsize n - 24 := by unfold lastP at hk; omega
  have HD := Lib.hid (show (k - p).toNat = d from by omega)
  have HD1 := Lib.hid (show (k - p - 1).toNat = d - 1 from by omega)
  have hsum : IntKind.i64.wrap (p + (bsize n : Nat)) = p + (bsize n : Nat) := IntWalk.i64_in _ (by omega)
  have hsum2 : IntKind.i64.wrap (p + (bsize n : Nat) - 24) = k := by rw [IntWalk.i64_in _ (by omega), hkv]
  have hlow : -149 ≤ k := by omega
  have hk3 : k ≤ 20000 := by omega
  have hkp : p < k := by omega
  have hdd : k - p ≤ (bsize n : Nat) + 1 := by omega
  have hq : ((K : Int) == 16777216) = false := by rw [beq_eq_false_iff_ne]; omega
  clear hr he hheld hv hval hk hK hR hc hd hpow hsubR hKle hcR hfull hkv hfar
  unfold frm
  go_enter Try.func55, Try.ntmps55
  go_wp2_with fail
  go_region_held3 (fun w' => w'.cell? ⟨w.heap.size, 0, none⟩ = some (.int .i64 24) ∧ w'.cell? ⟨w.heap.size, 1, none⟩ = some (.int .i64 (-149)) ∧ w'.cell? ⟨w.heap.size, 2, none⟩ = some (.int .i64 104)) (first | go_keep | (go_split_ands; exact ⟨keepc hb1 (by assumption), keepc hb1 (by assumption), keepc hb1 (by assumption)⟩))
    (first | (go_at_call 80; refine (size_any _ n _ (HN.out.below (by repeat (first | exact Below.refl _ _ | refine bs_alloc ?_ _ | refine bs_drew ?_ | refine bs_drewN ?_ _ | (refine bs_step ?_ (by assumption))))) (by omega)).mono ?_; rintro e w' ⟨rfl, rfl⟩))
  go_wp2_with fail
  refine (size_any _ n _ (HN.out.below (by repeat (first | exact Below.refl _ _ | refine bs_alloc ?_ _ | refine bs_drew ?_ | refine bs_drewN ?_ _ | (refine bs_step ?_ (by assumption))))) (by omega)).mono ?_
  rintro e w' ⟨rfl, rfl⟩
  go_wp2_with fail
  refine (down_is _ n K _ _ (HN.out.below (by repeat (first | exact Below.refl _ _ | refine bs_alloc ?_ _ | refine bs_drew ?_ | refine bs_drewN ?_ _ | (refine bs_step ?_ (by assumption))))) (by omega) (by omega) (by omega) (by rw [HD.out]; exact HK.out)).mono ?_
  rintro e w1 ⟨v1, rfl, hv1, hb1⟩
  have hB : Below ((w.alloc (.cells #[.int .i64 24, .int .i64 (-149), .int .i64 104] 54)).alloc (.cells #[.int .u8 0, .bool false, .int .u64 0, .int .i64 0] 51)).heap.size ((w.alloc (.cells #[.int .i64 24, .int .i64 (-149), .int .i64 104] 54)).alloc (.cells #[.int .u8 0, .bool false, .int .u64 0, .int .i64 0] 51)) w1 := (by repeat (first | exact Below.refl _ _ | refine bs_alloc ?_ _ | refine bs_drew ?_ | refine bs_drewN ?_ _ | (refine bs_step ?_ (by assumption))))
  have HB := Lib.hid hB
  clear hB hb1
  go_wp2_with fail
  refine (low_any _ _ _ hv1).mono ?_
  rintro e w' ⟨rfl, rfl⟩
  rw [HM.out]
  clear hv1
  go_wp2_with fail
  have hNw := HN.out.below (bel_two _ _ _ HB.out)
  refine (down_is _ n K _ _ hNw (by omega) (by omega) (by omega) (by rw [HD.out]; exact HK.out)).mono ?_
  rintro e w2 ⟨v2, rfl, hv2, hb1⟩
  replace HB := Lib.hid (HB.out.trans (hb1.mono HB.out.size)); replace hNw := hNw.below hb1
  clear hb1
  go_wp2_with fail
  refine (up_is _ K (K * 2 ^ d) _ _ hv2 (by omega) (by omega) (by omega) (by rw [HD.out])).mono ?_
  rintro e w3 ⟨v3, rfl, hv3, hb1⟩
  replace HB := Lib.hid (HB.out.trans (hb1.mono HB.out.size)); replace hNw := hNw.below hb1
  clear hb1 hv2
  go_wp2_with fail
  refine (less_any _ _ n (K * 2 ^ d) _ hNw hv3 (by omega) HLE.out).mono ?_
  rintro e w4 ⟨v4, rfl, hv4, hb1⟩
  replace HB := Lib.hid (HB.out.trans (hb1.mono HB.out.size))
  clear hb1 hv3 hNw
  go_wp2_with fail
  refine (nat_one _).mono ?_
  rintro e w5 ⟨v5, rfl, hv5, hb1⟩
  replace HB := Lib.hid (HB.out.trans (hb1.mono HB.out.size)); replace hv4 := hv4.below hb1
  clear hb1
  go_wp2_with fail
  refine (up_is _ 1 (2 ^ (d - 1)) _ _ hv5 (by have : bsize 1 ≤ 1 := by decide
                                              omega) (by omega) (by omega) (by rw [HD1.out, Nat.one_mul])).mono ?_
  rintro e w6 ⟨v6, rfl, hv6, hb1⟩
  replace HB := Lib.hid (HB.out.trans (hb1.mono HB.out.size)); replace hv4 := hv4.below hb1
  clear hb1 hv5
  rw [HSR.out] at hv4
  go_wp2_with fail
  refine (against_is _ _ R (2 ^ (d - 1)) (-1) _ hv4 hv6 (by omega) HCM.out).mono ?_
  rintro e _ ⟨rfl, n1, rfl⟩
  replace HB := Lib.hid (bel_drewN HB.out n1)
  clear hv4 hv6
  have hB := HB.out
  obtain ⟨hc, hf⟩ := bel_cells hB
  clear hB
  go_wp2_with fail
  refine (HH.out _).mono ?_
  rintro e w7 ⟨rfl, hb1⟩
  have hB := HB.out.trans (hb1.mono HB.out.size)
  clear hc hf
  obtain ⟨hc, hf⟩ := bel_cells hB
  go_wp2
  exact bodyPost_ret (v := val t0 t1 t2 t3) (by simp [results, Try.results55, go_sem, hc, val]) rfl ⟨rfl, bel_set4 (bel_two _ _ _ hB) (by simp) _ _ _ _⟩

set_option maxHeartbeats 4000000 in
theorem rounded_down_2_above (s : Bool) (v : Value) (n d K R : Nat) (p k : Int) (w : World) (hv : IsN w v n) (hn : 0 < n) (bn : bsize n ≤ 10000) (hp : -10000 ≤ p) (hp2 : p ≤ 10000)
    (hk : lastP n p = k) (hd : k - p = d) (hd0 : 0 < d) (hfar : d ≤ bsize n + 1) (hK : n / 2 ^ d = K) (hR : n % 2 ^ d = R) (hc : cmpI R (2 ^ (d - 1)) = 1) (hovf : K + 1 ≠ 16777216)
    (hsub : p + bsize n - 24 < -149) :
    Calls Try.prog 55 #[frm, .bool s, v, .int .i64 p, .bool false] w (Ret w (encD (single.read (single.nearest s n p)))) := by
  have hpow : 2 ^ d = 2 * 2 ^ (d - 1) := by
    obtain ⟨e, rfl⟩ : ∃ e, d = e + 1 := ⟨d - 1, by omega⟩
    rw [Nat.pow_succ, Nat.add_sub_cancel]; omega
  have hcR := cmpI_is hc
  have hr := rnd_down s n hn p d (by omega) (K + 1) (by
    rw [hK, hR, hpow]
    rw [if_pos (by omega)])
  rw [hk] at hr
  have hK2 : K ≤ 16777216 := by omega
  rw [if_neg hovf] at hr
  obtain ⟨t0, t1, t2, t3, he⟩ := encD_form (heldD single s (K + 1) k)
  rw [hr.2, he]
  have hheld := fun W => held_any s (K + 1) k W
  rw [he] at hheld
  unfold val at hheld
  have HH := Lib.hid hheld
  have HM := Lib.hid (show K % 18446744073709551616 = K from Nat.mod_eq_of_lt (by omega))
  have HN := Lib.hid hv
  obtain ⟨A, cap, xs, rfl, -, hcap, -, -, hnn, hval, hlen⟩ := hv.len
  have hl0 : 0 < xs.length := by
    refine List.length_pos_iff.2 fun e => ?_
    have := (norm_zero xs hnn).2 e
    omega
  have hlx : xs.length ≤ 9223372036854775807 := by omega
  have hl : ((xs.length : Int) == 0) = false := by rw [beq_eq_false_iff_ne]; omega
  have HK := Lib.hid hK
  have HCM := Lib.hid hc
  have bK : bsize K ≤ 10000 := by rw [← hK]; have := bsize_div n d; omega
  have bKd : bsize (K * 2 ^ d) ≤ 30000 := by have := bsize_shift K d; omega
  have hKle : K * 2 ^ d ≤ n := by rw [← hK]; exact Nat.div_mul_le_self n (2 ^ d)
  have hsubR : n - K * 2 ^ d = R := by rw [← hK, ← hR]; have := Nat.div_add_mod n (2 ^ d); rw [Nat.mul_comm] at this; omega
  have HSR := Lib.hid hsubR
  have HLE := Lib.hid hKle
  have bR : bsize R ≤ 10000 := by have := bsize_mono (show R ≤ n by rw [← hR]; exact Nat.mod_le _ _); omega
  have hkv : k = -149 := by unfold lastP at hk; omega
  have HD := Lib.hid (show (-149 - p).toNat = d from by rw [← hkv]; omega)
  have HD1 := Lib.hid (show (-149 - p - 1).toNat = d - 1 from by rw [← hkv]; omega)
  have hsum : IntKind.i64.wrap (p + (bsize n : Nat)) = p + (bsize n : Nat) := IntWalk.i64_in _ (by omega)
  have hsum2 : IntKind.i64.wrap (p + (bsize n : Nat) - 24) = p + (bsize n : Nat) - 24 := IntWalk.i64_in _ (by omega)
  subst hkv
  have hkp : p < -149 := by omega
  have hdd : -149 - p ≤ (bsize n : Nat) + 1 := by omega
  have hq : ((K : Int) + 1 == 16777216) = false := by rw [beq_eq_false_iff_ne]; omega
  clear hr he hheld hv hval hk hK hR hc hd hpow hsubR hKle hcR hovf hfar
  unfold frm
  go_enter Try.func55, Try.ntmps55
  go_wp2_with fail
  go_region_held3 (fun w' => w'.cell? ⟨w.heap.size, 0, none⟩ = some (.int .i64 24) ∧ w'.cell? ⟨w.heap.size, 1, none⟩ = some (.int .i64 (-149)) ∧ w'.cell? ⟨w.heap.size, 2, none⟩ = some (.int .i64 104)) (first | go_keep | (go_split_ands; exact ⟨keepc hb1 (by assumption), keepc hb1 (by assumption), keepc hb1 (by assumption)⟩))
    (first | (go_at_call 80; refine (size_any _ n _ (HN.out.below (by repeat (first | exact Below.refl _ _ | refine bs_alloc ?_ _ | refine bs_drew ?_ | refine bs_drewN ?_ _ | (refine bs_step ?_ (by assumption))))) (by omega)).mono ?_; rintro e w' ⟨rfl, rfl⟩))
  go_wp2_with fail
  refine (size_any _ n _ (HN.out.below (by repeat (first | exact Below.refl _ _ | refine bs_alloc ?_ _ | refine bs_drew ?_ | refine bs_drewN ?_ _ | (refine bs_step ?_ (by assumption))))) (by omega)).mono ?_
  rintro e w' ⟨rfl, rfl⟩
  go_wp2_with fail
  refine (down_is _ n K _ _ (HN.out.below (by repeat (first | exact Below.refl _ _ | refine bs_alloc ?_ _ | refine bs_drew ?_ | refine bs_drewN ?_ _ | (refine bs_step ?_ (by assumption))))) (by omega) (by omega) (by omega) (by rw [HD.out]; exact HK.out)).mono ?_
  rintro e w1 ⟨v1, rfl, hv1, hb1⟩
  have hB : Below ((w.alloc (.cells #[.int .i64 24, .int .i64 (-149), .int .i64 104] 54)).alloc (.cells #[.int .u8 0, .bool false, .int .u64 0, .int .i64 0] 51)).heap.size ((w.alloc (.cells #[.int .i64 24, .int .i64 (-149), .int .i64 104] 54)).alloc (.cells #[.int .u8 0, .bool false, .int .u64 0, .int .i64 0] 51)) w1 := (by repeat (first | exact Below.refl _ _ | refine bs_alloc ?_ _ | refine bs_drew ?_ | refine bs_drewN ?_ _ | (refine bs_step ?_ (by assumption))))
  have HB := Lib.hid hB
  clear hB hb1
  go_wp2_with fail
  refine (low_any _ _ _ hv1).mono ?_
  rintro e w' ⟨rfl, rfl⟩
  rw [HM.out]
  clear hv1
  go_wp2_with fail
  have hNw := HN.out.below (bel_two _ _ _ HB.out)
  refine (down_is _ n K _ _ hNw (by omega) (by omega) (by omega) (by rw [HD.out]; exact HK.out)).mono ?_
  rintro e w2 ⟨v2, rfl, hv2, hb1⟩
  replace HB := Lib.hid (HB.out.trans (hb1.mono HB.out.size)); replace hNw := hNw.below hb1
  clear hb1
  go_wp2_with fail
  refine (up_is _ K (K * 2 ^ d) _ _ hv2 (by omega) (by omega) (by omega) (by rw [HD.out])).mono ?_
  rintro e w3 ⟨v3, rfl, hv3, hb1⟩
  replace HB := Lib.hid (HB.out.trans (hb1.mono HB.out.size)); replace hNw := hNw.below hb1
  clear hb1 hv2
  go_wp2_with fail
  refine (less_any _ _ n (K * 2 ^ d) _ hNw hv3 (by omega) HLE.out).mono ?_
  rintro e w4 ⟨v4, rfl, hv4, hb1⟩
  replace HB := Lib.hid (HB.out.trans (hb1.mono HB.out.size))
  clear hb1 hv3 hNw
  go_wp2_with fail
  refine (nat_one _).mono ?_
  rintro e w5 ⟨v5, rfl, hv5, hb1⟩
  replace HB := Lib.hid (HB.out.trans (hb1.mono HB.out.size)); replace hv4 := hv4.below hb1
  clear hb1
  go_wp2_with fail
  refine (up_is _ 1 (2 ^ (d - 1)) _ _ hv5 (by have : bsize 1 ≤ 1 := by decide
                                              omega) (by omega) (by omega) (by rw [HD1.out, Nat.one_mul])).mono ?_
  rintro e w6 ⟨v6, rfl, hv6, hb1⟩
  replace HB := Lib.hid (HB.out.trans (hb1.mono HB.out.size)); replace hv4 := hv4.below hb1
  clear hb1 hv5
  rw [HSR.out] at hv4
  go_wp2_with fail
  refine (against_is _ _ R (2 ^ (d - 1)) (1) _ hv4 hv6 (by omega) HCM.out).mono ?_
  rintro e _ ⟨rfl, n1, rfl⟩
  replace HB := Lib.hid (bel_drewN HB.out n1)
  clear hv4 hv6
  have hB := HB.out
  obtain ⟨hc, hf⟩ := bel_cells hB
  clear hB
  go_wp2_with fail
  refine (HH.out _).mono ?_
  rintro e w7 ⟨rfl, hb1⟩
  have hB := HB.out.trans (hb1.mono HB.out.size)
  clear hc hf
  obtain ⟨hc, hf⟩ := bel_cells hB
  go_wp2
  exact bodyPost_ret (v := val t0 t1 t2 t3) (by simp [results, Try.results55, go_sem, hc, val]) rfl ⟨rfl, bel_set4 (bel_two _ _ _ hB) (by simp) _ _ _ _⟩

set_option maxHeartbeats 4000000 in
theorem rounded_down_2_above_full (s : Bool) (v : Value) (n d K R : Nat) (p k : Int) (w : World) (hv : IsN w v n) (hn : 0 < n) (bn : bsize n ≤ 10000) (hp : -10000 ≤ p) (hp2 : p ≤ 10000)
    (hk : lastP n p = k) (hd : k - p = d) (hd0 : 0 < d) (hfar : d ≤ bsize n + 1) (hK : n / 2 ^ d = K) (hR : n % 2 ^ d = R) (hc : cmpI R (2 ^ (d - 1)) = 1) (hovf : K + 1 = 16777216)
    (hsub : p + bsize n - 24 < -149) :
    Calls Try.prog 55 #[frm, .bool s, v, .int .i64 p, .bool false] w (Ret w (encD (single.read (single.nearest s n p)))) := by
  have hpow : 2 ^ d = 2 * 2 ^ (d - 1) := by
    obtain ⟨e, rfl⟩ : ∃ e, d = e + 1 := ⟨d - 1, by omega⟩
    rw [Nat.pow_succ, Nat.add_sub_cancel]; omega
  have hcR := cmpI_is hc
  have hr := rnd_down s n hn p d (by omega) (K + 1) (by
    rw [hK, hR, hpow]
    rw [if_pos (by omega)])
  rw [hk] at hr
  have hK2 : K ≤ 16777216 := by omega
  rw [if_pos hovf] at hr
  obtain ⟨t0, t1, t2, t3, he⟩ := encD_form (heldD single s 8388608 (k + 1))
  rw [hr.2, he]
  have hheld := fun W => held_any s 8388608 (k + 1) W
  rw [he] at hheld
  unfold val at hheld
  have HH := Lib.hid hheld
  have HM := Lib.hid (show K % 18446744073709551616 = K from Nat.mod_eq_of_lt (by omega))
  have HN := Lib.hid hv
  obtain ⟨A, cap, xs, rfl, -, hcap, -, -, hnn, hval, hlen⟩ := hv.len
  have hl0 : 0 < xs.length := by
    refine List.length_pos_iff.2 fun e => ?_
    have := (norm_zero xs hnn).2 e
    omega
  have hlx : xs.length ≤ 9223372036854775807 := by omega
  have hl : ((xs.length : Int) == 0) = false := by rw [beq_eq_false_iff_ne]; omega
  have HK := Lib.hid hK
  have HCM := Lib.hid hc
  have bK : bsize K ≤ 10000 := by rw [← hK]; have := bsize_div n d; omega
  have bKd : bsize (K * 2 ^ d) ≤ 30000 := by have := bsize_shift K d; omega
  have hKle : K * 2 ^ d ≤ n := by rw [← hK]; exact Nat.div_mul_le_self n (2 ^ d)
  have hsubR : n - K * 2 ^ d = R := by rw [← hK, ← hR]; have := Nat.div_add_mod n (2 ^ d); rw [Nat.mul_comm] at this; omega
  have HSR := Lib.hid hsubR
  have HLE := Lib.hid hKle
  have bR : bsize R ≤ 10000 := by have := bsize_mono (show R ≤ n by rw [← hR]; exact Nat.mod_le _ _); omega
  have hkv : k = -149 := by unfold lastP at hk; omega
  have HD := Lib.hid (show (-149 - p).toNat = d from by rw [← hkv]; omega)
  have HD1 := Lib.hid (show (-149 - p - 1).toNat = d - 1 from by rw [← hkv]; omega)
  have hsum : IntKind.i64.wrap (p + (bsize n : Nat)) = p + (bsize n : Nat) := IntWalk.i64_in _ (by omega)
  have hsum2 : IntKind.i64.wrap (p + (bsize n : Nat) - 24) = p + (bsize n : Nat) - 24 := IntWalk.i64_in _ (by omega)
  subst hkv
  have hkp : p < -149 := by omega
  have hdd : -149 - p ≤ (bsize n : Nat) + 1 := by omega
  have hq : ((K : Int) + 1 == 16777216) = true := by rw [beq_iff_eq]; omega
  have hhalf : ((K : Int) + 1) / 2 = 8388608 := by omega
  clear hr he hheld hv hval hk hK hR hc hd hpow hsubR hKle hcR hovf hfar
  unfold frm
  go_enter Try.func55, Try.ntmps55
  go_wp2_with fail
  go_region_held3 (fun w' => w'.cell? ⟨w.heap.size, 0, none⟩ = some (.int .i64 24) ∧ w'.cell? ⟨w.heap.size, 1, none⟩ = some (.int .i64 (-149)) ∧ w'.cell? ⟨w.heap.size, 2, none⟩ = some (.int .i64 104)) (first | go_keep | (go_split_ands; exact ⟨keepc hb1 (by assumption), keepc hb1 (by assumption), keepc hb1 (by assumption)⟩))
    (first | (go_at_call 80; refine (size_any _ n _ (HN.out.below (by repeat (first | exact Below.refl _ _ | refine bs_alloc ?_ _ | refine bs_drew ?_ | refine bs_drewN ?_ _ | (refine bs_step ?_ (by assumption))))) (by omega)).mono ?_; rintro e w' ⟨rfl, rfl⟩))
  go_wp2_with fail
  refine (size_any _ n _ (HN.out.below (by repeat (first | exact Below.refl _ _ | refine bs_alloc ?_ _ | refine bs_drew ?_ | refine bs_drewN ?_ _ | (refine bs_step ?_ (by assumption))))) (by omega)).mono ?_
  rintro e w' ⟨rfl, rfl⟩
  go_wp2_with fail
  refine (down_is _ n K _ _ (HN.out.below (by repeat (first | exact Below.refl _ _ | refine bs_alloc ?_ _ | refine bs_drew ?_ | refine bs_drewN ?_ _ | (refine bs_step ?_ (by assumption))))) (by omega) (by omega) (by omega) (by rw [HD.out]; exact HK.out)).mono ?_
  rintro e w1 ⟨v1, rfl, hv1, hb1⟩
  have hB : Below ((w.alloc (.cells #[.int .i64 24, .int .i64 (-149), .int .i64 104] 54)).alloc (.cells #[.int .u8 0, .bool false, .int .u64 0, .int .i64 0] 51)).heap.size ((w.alloc (.cells #[.int .i64 24, .int .i64 (-149), .int .i64 104] 54)).alloc (.cells #[.int .u8 0, .bool false, .int .u64 0, .int .i64 0] 51)) w1 := (by repeat (first | exact Below.refl _ _ | refine bs_alloc ?_ _ | refine bs_drew ?_ | refine bs_drewN ?_ _ | (refine bs_step ?_ (by assumption))))
  have HB := Lib.hid hB
  clear hB hb1
  go_wp2_with fail
  refine (low_any _ _ _ hv1).mono ?_
  rintro e w' ⟨rfl, rfl⟩
  rw [HM.out]
  clear hv1
  go_wp2_with fail
  have hNw := HN.out.below (bel_two _ _ _ HB.out)
  refine (down_is _ n K _ _ hNw (by omega) (by omega) (by omega) (by rw [HD.out]; exact HK.out)).mono ?_
  rintro e w2 ⟨v2, rfl, hv2, hb1⟩
  replace HB := Lib.hid (HB.out.trans (hb1.mono HB.out.size)); replace hNw := hNw.below hb1
  clear hb1
  go_wp2_with fail
  refine (up_is _ K (K * 2 ^ d) _ _ hv2 (by omega) (by omega) (by omega) (by rw [HD.out])).mono ?_
  rintro e w3 ⟨v3, rfl, hv3, hb1⟩
  replace HB := Lib.hid (HB.out.trans (hb1.mono HB.out.size)); replace hNw := hNw.below hb1
  clear hb1 hv2
  go_wp2_with fail
  refine (less_any _ _ n (K * 2 ^ d) _ hNw hv3 (by omega) HLE.out).mono ?_
  rintro e w4 ⟨v4, rfl, hv4, hb1⟩
  replace HB := Lib.hid (HB.out.trans (hb1.mono HB.out.size))
  clear hb1 hv3 hNw
  go_wp2_with fail
  refine (nat_one _).mono ?_
  rintro e w5 ⟨v5, rfl, hv5, hb1⟩
  replace HB := Lib.hid (HB.out.trans (hb1.mono HB.out.size)); replace hv4 := hv4.below hb1
  clear hb1
  go_wp2_with fail
  refine (up_is _ 1 (2 ^ (d - 1)) _ _ hv5 (by have : bsize 1 ≤ 1 := by decide
                                              omega) (by omega) (by omega) (by rw [HD1.out, Nat.one_mul])).mono ?_
  rintro e w6 ⟨v6, rfl, hv6, hb1⟩
  replace HB := Lib.hid (HB.out.trans (hb1.mono HB.out.size)); replace hv4 := hv4.below hb1
  clear hb1 hv5
  rw [HSR.out] at hv4
  go_wp2_with fail
  refine (against_is _ _ R (2 ^ (d - 1)) (1) _ hv4 hv6 (by omega) HCM.out).mono ?_
  rintro e _ ⟨rfl, n1, rfl⟩
  replace HB := Lib.hid (bel_drewN HB.out n1)
  clear hv4 hv6
  have hB := HB.out
  obtain ⟨hc, hf⟩ := bel_cells hB
  clear hB
  go_wp2_with fail
  refine (HH.out _).mono ?_
  rintro e w7 ⟨rfl, hb1⟩
  have hB := HB.out.trans (hb1.mono HB.out.size)
  clear hc hf
  obtain ⟨hc, hf⟩ := bel_cells hB
  go_wp2
  exact bodyPost_ret (v := val t0 t1 t2 t3) (by simp [results, Try.results55, go_sem, hc, val]) rfl ⟨rfl, bel_set4 (bel_two _ _ _ hB) (by simp) _ _ _ _⟩

set_option maxHeartbeats 4000000 in
theorem rounded_down_2_odd (s : Bool) (v : Value) (n d K R : Nat) (p k : Int) (w : World) (hv : IsN w v n) (hn : 0 < n) (bn : bsize n ≤ 10000) (hp : -10000 ≤ p) (hp2 : p ≤ 10000)
    (hk : lastP n p = k) (hd : k - p = d) (hd0 : 0 < d) (hfar : d ≤ bsize n + 1) (hK : n / 2 ^ d = K) (hR : n % 2 ^ d = R) (hc : cmpI R (2 ^ (d - 1)) = 0) (hodd : K % 2 = 1) (hovf : K + 1 ≠ 16777216)
    (hsub : p + bsize n - 24 < -149) :
    Calls Try.prog 55 #[frm, .bool s, v, .int .i64 p, .bool false] w (Ret w (encD (single.read (single.nearest s n p)))) := by
  have hpow : 2 ^ d = 2 * 2 ^ (d - 1) := by
    obtain ⟨e, rfl⟩ : ∃ e, d = e + 1 := ⟨d - 1, by omega⟩
    rw [Nat.pow_succ, Nat.add_sub_cancel]; omega
  have hcR := cmpI_is hc
  have hr := rnd_down s n hn p d (by omega) (K + 1) (by
    rw [hK, hR, hpow]
    rw [if_pos (by omega)])
  rw [hk] at hr
  have hK2 : K ≤ 16777216 := by omega
  rw [if_neg hovf] at hr
  obtain ⟨t0, t1, t2, t3, he⟩ := encD_form (heldD single s (K + 1) k)
  rw [hr.2, he]
  have hheld := fun W => held_any s (K + 1) k W
  rw [he] at hheld
  unfold val at hheld
  have HH := Lib.hid hheld
  have HM := Lib.hid (show K % 18446744073709551616 = K from Nat.mod_eq_of_lt (by omega))
  have HN := Lib.hid hv
  obtain ⟨A, cap, xs, rfl, -, hcap, -, -, hnn, hval, hlen⟩ := hv.len
  have hl0 : 0 < xs.length := by
    refine List.length_pos_iff.2 fun e => ?_
    have := (norm_zero xs hnn).2 e
    omega
  have hlx : xs.length ≤ 9223372036854775807 := by omega
  have hl : ((xs.length : Int) == 0) = false := by rw [beq_eq_false_iff_ne]; omega
  have HK := Lib.hid hK
  have HCM := Lib.hid hc
  have bK : bsize K ≤ 10000 := by rw [← hK]; have := bsize_div n d; omega
  have bKd : bsize (K * 2 ^ d) ≤ 30000 := by have := bsize_shift K d; omega
  have hKle : K * 2 ^ d ≤ n := by rw [← hK]; exact Nat.div_mul_le_self n (2 ^ d)
  have hsubR : n - K * 2 ^ d = R := by rw [← hK, ← hR]; have := Nat.div_add_mod n (2 ^ d); rw [Nat.mul_comm] at this; omega
  have HSR := Lib.hid hsubR
  have HLE := Lib.hid hKle
  have bR : bsize R ≤ 10000 := by have := bsize_mono (show R ≤ n by rw [← hR]; exact Nat.mod_le _ _); omega
  have hkv : k = -149 := by unfold lastP at hk; omega
  have HD := Lib.hid (show (-149 - p).toNat = d from by rw [← hkv]; omega)
  have HD1 := Lib.hid (show (-149 - p - 1).toNat = d - 1 from by rw [← hkv]; omega)
  have hsum : IntKind.i64.wrap (p + (bsize n : Nat)) = p + (bsize n : Nat) := IntWalk.i64_in _ (by omega)
  have hsum2 : IntKind.i64.wrap (p + (bsize n : Nat) - 24) = p + (bsize n : Nat) - 24 := IntWalk.i64_in _ (by omega)
  subst hkv
  have hkp : p < -149 := by omega
  have hdd : -149 - p ≤ (bsize n : Nat) + 1 := by omega
  have hpar : ((K : Int) % 2 == 1) = true := by rw [beq_iff_eq]; omega
  have hq : ((K : Int) + 1 == 16777216) = false := by rw [beq_eq_false_iff_ne]; omega
  clear hr he hheld hv hval hk hK hR hc hd hpow hsubR hKle hcR hodd hovf hfar
  unfold frm
  go_enter Try.func55, Try.ntmps55
  go_wp2_with fail
  go_region_held3 (fun w' => w'.cell? ⟨w.heap.size, 0, none⟩ = some (.int .i64 24) ∧ w'.cell? ⟨w.heap.size, 1, none⟩ = some (.int .i64 (-149)) ∧ w'.cell? ⟨w.heap.size, 2, none⟩ = some (.int .i64 104)) (first | go_keep | (go_split_ands; exact ⟨keepc hb1 (by assumption), keepc hb1 (by assumption), keepc hb1 (by assumption)⟩))
    (first | (go_at_call 80; refine (size_any _ n _ (HN.out.below (by repeat (first | exact Below.refl _ _ | refine bs_alloc ?_ _ | refine bs_drew ?_ | refine bs_drewN ?_ _ | (refine bs_step ?_ (by assumption))))) (by omega)).mono ?_; rintro e w' ⟨rfl, rfl⟩))
  go_wp2_with fail
  refine (size_any _ n _ (HN.out.below (by repeat (first | exact Below.refl _ _ | refine bs_alloc ?_ _ | refine bs_drew ?_ | refine bs_drewN ?_ _ | (refine bs_step ?_ (by assumption))))) (by omega)).mono ?_
  rintro e w' ⟨rfl, rfl⟩
  go_wp2_with fail
  refine (down_is _ n K _ _ (HN.out.below (by repeat (first | exact Below.refl _ _ | refine bs_alloc ?_ _ | refine bs_drew ?_ | refine bs_drewN ?_ _ | (refine bs_step ?_ (by assumption))))) (by omega) (by omega) (by omega) (by rw [HD.out]; exact HK.out)).mono ?_
  rintro e w1 ⟨v1, rfl, hv1, hb1⟩
  have hB : Below ((w.alloc (.cells #[.int .i64 24, .int .i64 (-149), .int .i64 104] 54)).alloc (.cells #[.int .u8 0, .bool false, .int .u64 0, .int .i64 0] 51)).heap.size ((w.alloc (.cells #[.int .i64 24, .int .i64 (-149), .int .i64 104] 54)).alloc (.cells #[.int .u8 0, .bool false, .int .u64 0, .int .i64 0] 51)) w1 := (by repeat (first | exact Below.refl _ _ | refine bs_alloc ?_ _ | refine bs_drew ?_ | refine bs_drewN ?_ _ | (refine bs_step ?_ (by assumption))))
  have HB := Lib.hid hB
  clear hB hb1
  go_wp2_with fail
  refine (low_any _ _ _ hv1).mono ?_
  rintro e w' ⟨rfl, rfl⟩
  rw [HM.out]
  clear hv1
  go_wp2_with fail
  have hNw := HN.out.below (bel_two _ _ _ HB.out)
  refine (down_is _ n K _ _ hNw (by omega) (by omega) (by omega) (by rw [HD.out]; exact HK.out)).mono ?_
  rintro e w2 ⟨v2, rfl, hv2, hb1⟩
  replace HB := Lib.hid (HB.out.trans (hb1.mono HB.out.size)); replace hNw := hNw.below hb1
  clear hb1
  go_wp2_with fail
  refine (up_is _ K (K * 2 ^ d) _ _ hv2 (by omega) (by omega) (by omega) (by rw [HD.out])).mono ?_
  rintro e w3 ⟨v3, rfl, hv3, hb1⟩
  replace HB := Lib.hid (HB.out.trans (hb1.mono HB.out.size)); replace hNw := hNw.below hb1
  clear hb1 hv2
  go_wp2_with fail
  refine (less_any _ _ n (K * 2 ^ d) _ hNw hv3 (by omega) HLE.out).mono ?_
  rintro e w4 ⟨v4, rfl, hv4, hb1⟩
  replace HB := Lib.hid (HB.out.trans (hb1.mono HB.out.size))
  clear hb1 hv3 hNw
  go_wp2_with fail
  refine (nat_one _).mono ?_
  rintro e w5 ⟨v5, rfl, hv5, hb1⟩
  replace HB := Lib.hid (HB.out.trans (hb1.mono HB.out.size)); replace hv4 := hv4.below hb1
  clear hb1
  go_wp2_with fail
  refine (up_is _ 1 (2 ^ (d - 1)) _ _ hv5 (by have : bsize 1 ≤ 1 := by decide
                                              omega) (by omega) (by omega) (by rw [HD1.out, Nat.one_mul])).mono ?_
  rintro e w6 ⟨v6, rfl, hv6, hb1⟩
  replace HB := Lib.hid (HB.out.trans (hb1.mono HB.out.size)); replace hv4 := hv4.below hb1
  clear hb1 hv5
  rw [HSR.out] at hv4
  go_wp2_with fail
  refine (against_is _ _ R (2 ^ (d - 1)) (0) _ hv4 hv6 (by omega) HCM.out).mono ?_
  rintro e _ ⟨rfl, n1, rfl⟩
  replace HB := Lib.hid (bel_drewN HB.out n1)
  clear hv4 hv6
  have hB := HB.out
  obtain ⟨hc, hf⟩ := bel_cells hB
  clear hB
  go_wp2_with fail
  refine (HH.out _).mono ?_
  rintro e w7 ⟨rfl, hb1⟩
  have hB := HB.out.trans (hb1.mono HB.out.size)
  clear hc hf
  obtain ⟨hc, hf⟩ := bel_cells hB
  go_wp2
  exact bodyPost_ret (v := val t0 t1 t2 t3) (by simp [results, Try.results55, go_sem, hc, val]) rfl ⟨rfl, bel_set4 (bel_two _ _ _ hB) (by simp) _ _ _ _⟩

set_option maxHeartbeats 4000000 in
theorem rounded_down_2_odd_full (s : Bool) (v : Value) (n d K R : Nat) (p k : Int) (w : World) (hv : IsN w v n) (hn : 0 < n) (bn : bsize n ≤ 10000) (hp : -10000 ≤ p) (hp2 : p ≤ 10000)
    (hk : lastP n p = k) (hd : k - p = d) (hd0 : 0 < d) (hfar : d ≤ bsize n + 1) (hK : n / 2 ^ d = K) (hR : n % 2 ^ d = R) (hc : cmpI R (2 ^ (d - 1)) = 0) (hodd : K % 2 = 1) (hovf : K + 1 = 16777216)
    (hsub : p + bsize n - 24 < -149) :
    Calls Try.prog 55 #[frm, .bool s, v, .int .i64 p, .bool false] w (Ret w (encD (single.read (single.nearest s n p)))) := by
  have hpow : 2 ^ d = 2 * 2 ^ (d - 1) := by
    obtain ⟨e, rfl⟩ : ∃ e, d = e + 1 := ⟨d - 1, by omega⟩
    rw [Nat.pow_succ, Nat.add_sub_cancel]; omega
  have hcR := cmpI_is hc
  have hr := rnd_down s n hn p d (by omega) (K + 1) (by
    rw [hK, hR, hpow]
    rw [if_pos (by omega)])
  rw [hk] at hr
  have hK2 : K ≤ 16777216 := by omega
  rw [if_pos hovf] at hr
  obtain ⟨t0, t1, t2, t3, he⟩ := encD_form (heldD single s 8388608 (k + 1))
  rw [hr.2, he]
  have hheld := fun W => held_any s 8388608 (k + 1) W
  rw [he] at hheld
  unfold val at hheld
  have HH := Lib.hid hheld
  have HM := Lib.hid (show K % 18446744073709551616 = K from Nat.mod_eq_of_lt (by omega))
  have HN := Lib.hid hv
  obtain ⟨A, cap, xs, rfl, -, hcap, -, -, hnn, hval, hlen⟩ := hv.len
  have hl0 : 0 < xs.length := by
    refine List.length_pos_iff.2 fun e => ?_
    have := (norm_zero xs hnn).2 e
    omega
  have hlx : xs.length ≤ 9223372036854775807 := by omega
  have hl : ((xs.length : Int) == 0) = false := by rw [beq_eq_false_iff_ne]; omega
  have HK := Lib.hid hK
  have HCM := Lib.hid hc
  have bK : bsize K ≤ 10000 := by rw [← hK]; have := bsize_div n d; omega
  have bKd : bsize (K * 2 ^ d) ≤ 30000 := by have := bsize_shift K d; omega
  have hKle : K * 2 ^ d ≤ n := by rw [← hK]; exact Nat.div_mul_le_self n (2 ^ d)
  have hsubR : n - K * 2 ^ d = R := by rw [← hK, ← hR]; have := Nat.div_add_mod n (2 ^ d); rw [Nat.mul_comm] at this; omega
  have HSR := Lib.hid hsubR
  have HLE := Lib.hid hKle
  have bR : bsize R ≤ 10000 := by have := bsize_mono (show R ≤ n by rw [← hR]; exact Nat.mod_le _ _); omega
  have hkv : k = -149 := by unfold lastP at hk; omega
  have HD := Lib.hid (show (-149 - p).toNat = d from by rw [← hkv]; omega)
  have HD1 := Lib.hid (show (-149 - p - 1).toNat = d - 1 from by rw [← hkv]; omega)
  have hsum : IntKind.i64.wrap (p + (bsize n : Nat)) = p + (bsize n : Nat) := IntWalk.i64_in _ (by omega)
  have hsum2 : IntKind.i64.wrap (p + (bsize n : Nat) - 24) = p + (bsize n : Nat) - 24 := IntWalk.i64_in _ (by omega)
  subst hkv
  have hkp : p < -149 := by omega
  have hdd : -149 - p ≤ (bsize n : Nat) + 1 := by omega
  have hpar : ((K : Int) % 2 == 1) = true := by rw [beq_iff_eq]; omega
  have hq : ((K : Int) + 1 == 16777216) = true := by rw [beq_iff_eq]; omega
  have hhalf : ((K : Int) + 1) / 2 = 8388608 := by omega
  clear hr he hheld hv hval hk hK hR hc hd hpow hsubR hKle hcR hodd hovf hfar
  unfold frm
  go_enter Try.func55, Try.ntmps55
  go_wp2_with fail
  go_region_held3 (fun w' => w'.cell? ⟨w.heap.size, 0, none⟩ = some (.int .i64 24) ∧ w'.cell? ⟨w.heap.size, 1, none⟩ = some (.int .i64 (-149)) ∧ w'.cell? ⟨w.heap.size, 2, none⟩ = some (.int .i64 104)) (first | go_keep | (go_split_ands; exact ⟨keepc hb1 (by assumption), keepc hb1 (by assumption), keepc hb1 (by assumption)⟩))
    (first | (go_at_call 80; refine (size_any _ n _ (HN.out.below (by repeat (first | exact Below.refl _ _ | refine bs_alloc ?_ _ | refine bs_drew ?_ | refine bs_drewN ?_ _ | (refine bs_step ?_ (by assumption))))) (by omega)).mono ?_; rintro e w' ⟨rfl, rfl⟩))
  go_wp2_with fail
  refine (size_any _ n _ (HN.out.below (by repeat (first | exact Below.refl _ _ | refine bs_alloc ?_ _ | refine bs_drew ?_ | refine bs_drewN ?_ _ | (refine bs_step ?_ (by assumption))))) (by omega)).mono ?_
  rintro e w' ⟨rfl, rfl⟩
  go_wp2_with fail
  refine (down_is _ n K _ _ (HN.out.below (by repeat (first | exact Below.refl _ _ | refine bs_alloc ?_ _ | refine bs_drew ?_ | refine bs_drewN ?_ _ | (refine bs_step ?_ (by assumption))))) (by omega) (by omega) (by omega) (by rw [HD.out]; exact HK.out)).mono ?_
  rintro e w1 ⟨v1, rfl, hv1, hb1⟩
  have hB : Below ((w.alloc (.cells #[.int .i64 24, .int .i64 (-149), .int .i64 104] 54)).alloc (.cells #[.int .u8 0, .bool false, .int .u64 0, .int .i64 0] 51)).heap.size ((w.alloc (.cells #[.int .i64 24, .int .i64 (-149), .int .i64 104] 54)).alloc (.cells #[.int .u8 0, .bool false, .int .u64 0, .int .i64 0] 51)) w1 := (by repeat (first | exact Below.refl _ _ | refine bs_alloc ?_ _ | refine bs_drew ?_ | refine bs_drewN ?_ _ | (refine bs_step ?_ (by assumption))))
  have HB := Lib.hid hB
  clear hB hb1
  go_wp2_with fail
  refine (low_any _ _ _ hv1).mono ?_
  rintro e w' ⟨rfl, rfl⟩
  rw [HM.out]
  clear hv1
  go_wp2_with fail
  have hNw := HN.out.below (bel_two _ _ _ HB.out)
  refine (down_is _ n K _ _ hNw (by omega) (by omega) (by omega) (by rw [HD.out]; exact HK.out)).mono ?_
  rintro e w2 ⟨v2, rfl, hv2, hb1⟩
  replace HB := Lib.hid (HB.out.trans (hb1.mono HB.out.size)); replace hNw := hNw.below hb1
  clear hb1
  go_wp2_with fail
  refine (up_is _ K (K * 2 ^ d) _ _ hv2 (by omega) (by omega) (by omega) (by rw [HD.out])).mono ?_
  rintro e w3 ⟨v3, rfl, hv3, hb1⟩
  replace HB := Lib.hid (HB.out.trans (hb1.mono HB.out.size)); replace hNw := hNw.below hb1
  clear hb1 hv2
  go_wp2_with fail
  refine (less_any _ _ n (K * 2 ^ d) _ hNw hv3 (by omega) HLE.out).mono ?_
  rintro e w4 ⟨v4, rfl, hv4, hb1⟩
  replace HB := Lib.hid (HB.out.trans (hb1.mono HB.out.size))
  clear hb1 hv3 hNw
  go_wp2_with fail
  refine (nat_one _).mono ?_
  rintro e w5 ⟨v5, rfl, hv5, hb1⟩
  replace HB := Lib.hid (HB.out.trans (hb1.mono HB.out.size)); replace hv4 := hv4.below hb1
  clear hb1
  go_wp2_with fail
  refine (up_is _ 1 (2 ^ (d - 1)) _ _ hv5 (by have : bsize 1 ≤ 1 := by decide
                                              omega) (by omega) (by omega) (by rw [HD1.out, Nat.one_mul])).mono ?_
  rintro e w6 ⟨v6, rfl, hv6, hb1⟩
  replace HB := Lib.hid (HB.out.trans (hb1.mono HB.out.size)); replace hv4 := hv4.below hb1
  clear hb1 hv5
  rw [HSR.out] at hv4
  go_wp2_with fail
  refine (against_is _ _ R (2 ^ (d - 1)) (0) _ hv4 hv6 (by omega) HCM.out).mono ?_
  rintro e _ ⟨rfl, n1, rfl⟩
  replace HB := Lib.hid (bel_drewN HB.out n1)
  clear hv4 hv6
  have hB := HB.out
  obtain ⟨hc, hf⟩ := bel_cells hB
  clear hB
  go_wp2_with fail
  refine (HH.out _).mono ?_
  rintro e w7 ⟨rfl, hb1⟩
  have hB := HB.out.trans (hb1.mono HB.out.size)
  clear hc hf
  obtain ⟨hc, hf⟩ := bel_cells hB
  go_wp2
  exact bodyPost_ret (v := val t0 t1 t2 t3) (by simp [results, Try.results55, go_sem, hc, val]) rfl ⟨rfl, bel_set4 (bel_two _ _ _ hB) (by simp) _ _ _ _⟩

set_option maxHeartbeats 4000000 in
theorem rounded_down_2_even (s : Bool) (v : Value) (n d K R : Nat) (p k : Int) (w : World) (hv : IsN w v n) (hn : 0 < n) (bn : bsize n ≤ 10000) (hp : -10000 ≤ p) (hp2 : p ≤ 10000)
    (hk : lastP n p = k) (hd : k - p = d) (hd0 : 0 < d) (hfar : d ≤ bsize n + 1) (hK : n / 2 ^ d = K) (hR : n % 2 ^ d = R) (hc : cmpI R (2 ^ (d - 1)) = 0) (hodd : K % 2 = 0)
    (hsub : p + bsize n - 24 < -149) :
    Calls Try.prog 55 #[frm, .bool s, v, .int .i64 p, .bool false] w (Ret w (encD (single.read (single.nearest s n p)))) := by
  have hpow : 2 ^ d = 2 * 2 ^ (d - 1) := by
    obtain ⟨e, rfl⟩ : ∃ e, d = e + 1 := ⟨d - 1, by omega⟩
    rw [Nat.pow_succ, Nat.add_sub_cancel]; omega
  have hcR := cmpI_is hc
  have hr := rnd_down s n hn p d (by omega) K (by
    rw [hK, hR, hpow]
    rw [if_neg (by omega)]; rfl)
  rw [hk] at hr
  have hK2 : K ≤ 16777216 := by omega
  
  have hfull : K < 16777216 := by rw [← hK]; exact rnd_quot n hn p d (by omega)
  rw [if_neg (by omega)] at hr
  obtain ⟨t0, t1, t2, t3, he⟩ := encD_form (heldD single s K k)
  rw [hr.2, he]
  have hheld := fun W => held_any s K k W
  rw [he] at hheld
  unfold val at hheld
  have HH := Lib.hid hheld
  have HM := Lib.hid (show K % 18446744073709551616 = K from Nat.mod_eq_of_lt (by omega))
  have HN := Lib.hid hv
  obtain ⟨A, cap, xs, rfl, -, hcap, -, -, hnn, hval, hlen⟩ := hv.len
  have hl0 : 0 < xs.length := by
    refine List.length_pos_iff.2 fun e => ?_
    have := (norm_zero xs hnn).2 e
    omega
  have hlx : xs.length ≤ 9223372036854775807 := by omega
  have hl : ((xs.length : Int) == 0) = false := by rw [beq_eq_false_iff_ne]; omega
  have HK := Lib.hid hK
  have HCM := Lib.hid hc
  have bK : bsize K ≤ 10000 := by rw [← hK]; have := bsize_div n d; omega
  have bKd : bsize (K * 2 ^ d) ≤ 30000 := by have := bsize_shift K d; omega
  have hKle : K * 2 ^ d ≤ n := by rw [← hK]; exact Nat.div_mul_le_self n (2 ^ d)
  have hsubR : n - K * 2 ^ d = R := by rw [← hK, ← hR]; have := Nat.div_add_mod n (2 ^ d); rw [Nat.mul_comm] at this; omega
  have HSR := Lib.hid hsubR
  have HLE := Lib.hid hKle
  have bR : bsize R ≤ 10000 := by have := bsize_mono (show R ≤ n by rw [← hR]; exact Nat.mod_le _ _); omega
  have hkv : k = -149 := by unfold lastP at hk; omega
  have HD := Lib.hid (show (-149 - p).toNat = d from by rw [← hkv]; omega)
  have HD1 := Lib.hid (show (-149 - p - 1).toNat = d - 1 from by rw [← hkv]; omega)
  have hsum : IntKind.i64.wrap (p + (bsize n : Nat)) = p + (bsize n : Nat) := IntWalk.i64_in _ (by omega)
  have hsum2 : IntKind.i64.wrap (p + (bsize n : Nat) - 24) = p + (bsize n : Nat) - 24 := IntWalk.i64_in _ (by omega)
  subst hkv
  have hkp : p < -149 := by omega
  have hdd : -149 - p ≤ (bsize n : Nat) + 1 := by omega
  have hpar : ((K : Int) % 2 == 1) = false := by rw [beq_eq_false_iff_ne]; omega
  have hq : ((K : Int) == 16777216) = false := by rw [beq_eq_false_iff_ne]; omega
  clear hr he hheld hv hval hk hK hR hc hd hpow hsubR hKle hcR hodd hfull hfar
  unfold frm
  go_enter Try.func55, Try.ntmps55
  go_wp2_with fail
  go_region_held3 (fun w' => w'.cell? ⟨w.heap.size, 0, none⟩ = some (.int .i64 24) ∧ w'.cell? ⟨w.heap.size, 1, none⟩ = some (.int .i64 (-149)) ∧ w'.cell? ⟨w.heap.size, 2, none⟩ = some (.int .i64 104)) (first | go_keep | (go_split_ands; exact ⟨keepc hb1 (by assumption), keepc hb1 (by assumption), keepc hb1 (by assumption)⟩))
    (first | (go_at_call 80; refine (size_any _ n _ (HN.out.below (by repeat (first | exact Below.refl _ _ | refine bs_alloc ?_ _ | refine bs_drew ?_ | refine bs_drewN ?_ _ | (refine bs_step ?_ (by assumption))))) (by omega)).mono ?_; rintro e w' ⟨rfl, rfl⟩))
  go_wp2_with fail
  refine (size_any _ n _ (HN.out.below (by repeat (first | exact Below.refl _ _ | refine bs_alloc ?_ _ | refine bs_drew ?_ | refine bs_drewN ?_ _ | (refine bs_step ?_ (by assumption))))) (by omega)).mono ?_
  rintro e w' ⟨rfl, rfl⟩
  go_wp2_with fail
  refine (down_is _ n K _ _ (HN.out.below (by repeat (first | exact Below.refl _ _ | refine bs_alloc ?_ _ | refine bs_drew ?_ | refine bs_drewN ?_ _ | (refine bs_step ?_ (by assumption))))) (by omega) (by omega) (by omega) (by rw [HD.out]; exact HK.out)).mono ?_
  rintro e w1 ⟨v1, rfl, hv1, hb1⟩
  have hB : Below ((w.alloc (.cells #[.int .i64 24, .int .i64 (-149), .int .i64 104] 54)).alloc (.cells #[.int .u8 0, .bool false, .int .u64 0, .int .i64 0] 51)).heap.size ((w.alloc (.cells #[.int .i64 24, .int .i64 (-149), .int .i64 104] 54)).alloc (.cells #[.int .u8 0, .bool false, .int .u64 0, .int .i64 0] 51)) w1 := (by repeat (first | exact Below.refl _ _ | refine bs_alloc ?_ _ | refine bs_drew ?_ | refine bs_drewN ?_ _ | (refine bs_step ?_ (by assumption))))
  have HB := Lib.hid hB
  clear hB hb1
  go_wp2_with fail
  refine (low_any _ _ _ hv1).mono ?_
  rintro e w' ⟨rfl, rfl⟩
  rw [HM.out]
  clear hv1
  go_wp2_with fail
  have hNw := HN.out.below (bel_two _ _ _ HB.out)
  refine (down_is _ n K _ _ hNw (by omega) (by omega) (by omega) (by rw [HD.out]; exact HK.out)).mono ?_
  rintro e w2 ⟨v2, rfl, hv2, hb1⟩
  replace HB := Lib.hid (HB.out.trans (hb1.mono HB.out.size)); replace hNw := hNw.below hb1
  clear hb1
  go_wp2_with fail
  refine (up_is _ K (K * 2 ^ d) _ _ hv2 (by omega) (by omega) (by omega) (by rw [HD.out])).mono ?_
  rintro e w3 ⟨v3, rfl, hv3, hb1⟩
  replace HB := Lib.hid (HB.out.trans (hb1.mono HB.out.size)); replace hNw := hNw.below hb1
  clear hb1 hv2
  go_wp2_with fail
  refine (less_any _ _ n (K * 2 ^ d) _ hNw hv3 (by omega) HLE.out).mono ?_
  rintro e w4 ⟨v4, rfl, hv4, hb1⟩
  replace HB := Lib.hid (HB.out.trans (hb1.mono HB.out.size))
  clear hb1 hv3 hNw
  go_wp2_with fail
  refine (nat_one _).mono ?_
  rintro e w5 ⟨v5, rfl, hv5, hb1⟩
  replace HB := Lib.hid (HB.out.trans (hb1.mono HB.out.size)); replace hv4 := hv4.below hb1
  clear hb1
  go_wp2_with fail
  refine (up_is _ 1 (2 ^ (d - 1)) _ _ hv5 (by have : bsize 1 ≤ 1 := by decide
                                              omega) (by omega) (by omega) (by rw [HD1.out, Nat.one_mul])).mono ?_
  rintro e w6 ⟨v6, rfl, hv6, hb1⟩
  replace HB := Lib.hid (HB.out.trans (hb1.mono HB.out.size)); replace hv4 := hv4.below hb1
  clear hb1 hv5
  rw [HSR.out] at hv4
  go_wp2_with fail
  refine (against_is _ _ R (2 ^ (d - 1)) (0) _ hv4 hv6 (by omega) HCM.out).mono ?_
  rintro e _ ⟨rfl, n1, rfl⟩
  replace HB := Lib.hid (bel_drewN HB.out n1)
  clear hv4 hv6
  have hB := HB.out
  obtain ⟨hc, hf⟩ := bel_cells hB
  clear hB
  go_wp2_with fail
  refine (HH.out _).mono ?_
  rintro e w7 ⟨rfl, hb1⟩
  have hB := HB.out.trans (hb1.mono HB.out.size)
  clear hc hf
  obtain ⟨hc, hf⟩ := bel_cells hB
  go_wp2
  exact bodyPost_ret (v := val t0 t1 t2 t3) (by simp [results, Try.results55, go_sem, hc, val]) rfl ⟨rfl, bel_set4 (bel_two _ _ _ hB) (by simp) _ _ _ _⟩

set_option maxHeartbeats 4000000 in
theorem rounded_down_2_below (s : Bool) (v : Value) (n d K R : Nat) (p k : Int) (w : World) (hv : IsN w v n) (hn : 0 < n) (bn : bsize n ≤ 10000) (hp : -10000 ≤ p) (hp2 : p ≤ 10000)
    (hk : lastP n p = k) (hd : k - p = d) (hd0 : 0 < d) (hfar : d ≤ bsize n + 1) (hK : n / 2 ^ d = K) (hR : n % 2 ^ d = R) (hc : cmpI R (2 ^ (d - 1)) = -1)
    (hsub : p + bsize n - 24 < -149) :
    Calls Try.prog 55 #[frm, .bool s, v, .int .i64 p, .bool false] w (Ret w (encD (single.read (single.nearest s n p)))) := by
  have hpow : 2 ^ d = 2 * 2 ^ (d - 1) := by
    obtain ⟨e, rfl⟩ : ∃ e, d = e + 1 := ⟨d - 1, by omega⟩
    rw [Nat.pow_succ, Nat.add_sub_cancel]; omega
  have hcR := cmpI_is hc
  have hr := rnd_down s n hn p d (by omega) K (by
    rw [hK, hR, hpow]
    rw [if_neg (by omega)]; rfl)
  rw [hk] at hr
  have hK2 : K ≤ 16777216 := by omega
  
  have hfull : K < 16777216 := by rw [← hK]; exact rnd_quot n hn p d (by omega)
  rw [if_neg (by omega)] at hr
  obtain ⟨t0, t1, t2, t3, he⟩ := encD_form (heldD single s K k)
  rw [hr.2, he]
  have hheld := fun W => held_any s K k W
  rw [he] at hheld
  unfold val at hheld
  have HH := Lib.hid hheld
  have HM := Lib.hid (show K % 18446744073709551616 = K from Nat.mod_eq_of_lt (by omega))
  have HN := Lib.hid hv
  obtain ⟨A, cap, xs, rfl, -, hcap, -, -, hnn, hval, hlen⟩ := hv.len
  have hl0 : 0 < xs.length := by
    refine List.length_pos_iff.2 fun e => ?_
    have := (norm_zero xs hnn).2 e
    omega
  have hlx : xs.length ≤ 9223372036854775807 := by omega
  have hl : ((xs.length : Int) == 0) = false := by rw [beq_eq_false_iff_ne]; omega
  have HK := Lib.hid hK
  have HCM := Lib.hid hc
  have bK : bsize K ≤ 10000 := by rw [← hK]; have := bsize_div n d; omega
  have bKd : bsize (K * 2 ^ d) ≤ 30000 := by have := bsize_shift K d; omega
  have hKle : K * 2 ^ d ≤ n := by rw [← hK]; exact Nat.div_mul_le_self n (2 ^ d)
  have hsubR : n - K * 2 ^ d = R := by rw [← hK, ← hR]; have := Nat.div_add_mod n (2 ^ d); rw [Nat.mul_comm] at this; omega
  have HSR := Lib.hid hsubR
  have HLE := Lib.hid hKle
  have bR : bsize R ≤ 10000 := by have := bsize_mono (show R ≤ n by rw [← hR]; exact Nat.mod_le _ _); omega
  have hkv : k = -149 := by unfold lastP at hk; omega
  have HD := Lib.hid (show (-149 - p).toNat = d from by rw [← hkv]; omega)
  have HD1 := Lib.hid (show (-149 - p - 1).toNat = d - 1 from by rw [← hkv]; omega)
  have hsum : IntKind.i64.wrap (p + (bsize n : Nat)) = p + (bsize n : Nat) := IntWalk.i64_in _ (by omega)
  have hsum2 : IntKind.i64.wrap (p + (bsize n : Nat) - 24) = p + (bsize n : Nat) - 24 := IntWalk.i64_in _ (by omega)
  subst hkv
  have hkp : p < -149 := by omega
  have hdd : -149 - p ≤ (bsize n : Nat) + 1 := by omega
  have hq : ((K : Int) == 16777216) = false := by rw [beq_eq_false_iff_ne]; omega
  clear hr he hheld hv hval hk hK hR hc hd hpow hsubR hKle hcR hfull hfar
  unfold frm
  go_enter Try.func55, Try.ntmps55
  go_wp2_with fail
  go_region_held3 (fun w' => w'.cell? ⟨w.heap.size, 0, none⟩ = some (.int .i64 24) ∧ w'.cell? ⟨w.heap.size, 1, none⟩ = some (.int .i64 (-149)) ∧ w'.cell? ⟨w.heap.size, 2, none⟩ = some (.int .i64 104)) (first | go_keep | (go_split_ands; exact ⟨keepc hb1 (by assumption), keepc hb1 (by assumption), keepc hb1 (by assumption)⟩))
    (first | (go_at_call 80; refine (size_any _ n _ (HN.out.below (by repeat (first | exact Below.refl _ _ | refine bs_alloc ?_ _ | refine bs_drew ?_ | refine bs_drewN ?_ _ | (refine bs_step ?_ (by assumption))))) (by omega)).mono ?_; rintro e w' ⟨rfl, rfl⟩))
  go_wp2_with fail
  refine (size_any _ n _ (HN.out.below (by repeat (first | exact Below.refl _ _ | refine bs_alloc ?_ _ | refine bs_drew ?_ | refine bs_drewN ?_ _ | (refine bs_step ?_ (by assumption))))) (by omega)).mono ?_
  rintro e w' ⟨rfl, rfl⟩
  go_wp2_with fail
  refine (down_is _ n K _ _ (HN.out.below (by repeat (first | exact Below.refl _ _ | refine bs_alloc ?_ _ | refine bs_drew ?_ | refine bs_drewN ?_ _ | (refine bs_step ?_ (by assumption))))) (by omega) (by omega) (by omega) (by rw [HD.out]; exact HK.out)).mono ?_
  rintro e w1 ⟨v1, rfl, hv1, hb1⟩
  have hB : Below ((w.alloc (.cells #[.int .i64 24, .int .i64 (-149), .int .i64 104] 54)).alloc (.cells #[.int .u8 0, .bool false, .int .u64 0, .int .i64 0] 51)).heap.size ((w.alloc (.cells #[.int .i64 24, .int .i64 (-149), .int .i64 104] 54)).alloc (.cells #[.int .u8 0, .bool false, .int .u64 0, .int .i64 0] 51)) w1 := (by repeat (first | exact Below.refl _ _ | refine bs_alloc ?_ _ | refine bs_drew ?_ | refine bs_drewN ?_ _ | (refine bs_step ?_ (by assumption))))
  have HB := Lib.hid hB
  clear hB hb1
  go_wp2_with fail
  refine (low_any _ _ _ hv1).mono ?_
  rintro e w' ⟨rfl, rfl⟩
  rw [HM.out]
  clear hv1
  go_wp2_with fail
  have hNw := HN.out.below (bel_two _ _ _ HB.out)
  refine (down_is _ n K _ _ hNw (by omega) (by omega) (by omega) (by rw [HD.out]; exact HK.out)).mono ?_
  rintro e w2 ⟨v2, rfl, hv2, hb1⟩
  replace HB := Lib.hid (HB.out.trans (hb1.mono HB.out.size)); replace hNw := hNw.below hb1
  clear hb1
  go_wp2_with fail
  refine (up_is _ K (K * 2 ^ d) _ _ hv2 (by omega) (by omega) (by omega) (by rw [HD.out])).mono ?_
  rintro e w3 ⟨v3, rfl, hv3, hb1⟩
  replace HB := Lib.hid (HB.out.trans (hb1.mono HB.out.size)); replace hNw := hNw.below hb1
  clear hb1 hv2
  go_wp2_with fail
  refine (less_any _ _ n (K * 2 ^ d) _ hNw hv3 (by omega) HLE.out).mono ?_
  rintro e w4 ⟨v4, rfl, hv4, hb1⟩
  replace HB := Lib.hid (HB.out.trans (hb1.mono HB.out.size))
  clear hb1 hv3 hNw
  go_wp2_with fail
  refine (nat_one _).mono ?_
  rintro e w5 ⟨v5, rfl, hv5, hb1⟩
  replace HB := Lib.hid (HB.out.trans (hb1.mono HB.out.size)); replace hv4 := hv4.below hb1
  clear hb1
  go_wp2_with fail
  refine (up_is _ 1 (2 ^ (d - 1)) _ _ hv5 (by have : bsize 1 ≤ 1 := by decide
                                              omega) (by omega) (by omega) (by rw [HD1.out, Nat.one_mul])).mono ?_
  rintro e w6 ⟨v6, rfl, hv6, hb1⟩
  replace HB := Lib.hid (HB.out.trans (hb1.mono HB.out.size)); replace hv4 := hv4.below hb1
  clear hb1 hv5
  rw [HSR.out] at hv4
  go_wp2_with fail
  refine (against_is _ _ R (2 ^ (d - 1)) (-1) _ hv4 hv6 (by omega) HCM.out).mono ?_
  rintro e _ ⟨rfl, n1, rfl⟩
  replace HB := Lib.hid (bel_drewN HB.out n1)
  clear hv4 hv6
  have hB := HB.out
  obtain ⟨hc, hf⟩ := bel_cells hB
  clear hB
  go_wp2_with fail
  refine (HH.out _).mono ?_
  rintro e w7 ⟨rfl, hb1⟩
  have hB := HB.out.trans (hb1.mono HB.out.size)
  clear hc hf
  obtain ⟨hc, hf⟩ := bel_cells hB
  go_wp2
  exact bodyPost_ret (v := val t0 t1 t2 t3) (by simp [results, Try.results55, go_sem, hc, val]) rfl ⟨rfl, bel_set4 (bel_two _ _ _ hB) (by simp) _ _ _ _⟩
end Go.Proofs.Ytdihbpfoalmlcaa
