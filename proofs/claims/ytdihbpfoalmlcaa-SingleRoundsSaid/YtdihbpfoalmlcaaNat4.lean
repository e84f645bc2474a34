/- Contracts of the reference's numbers, fourth part: nat, up. -/
import Derived.Test.YtdihbpfoalmlcaaNat3
namespace Go.Proofs.Ytdihbpfoalmlcaa
open Go.RowKit

theorem nat_two (x : Nat) (h : x < 18446744073709551616) : dval [x % 4294967296, x / 4294967296] = x ∧ Small [x % 4294967296, x / 4294967296] := by
  constructor
  · simp only [dval, Bw]; omega
  · intro d hd
    simp at hd
    unfold Bw
    omega

theorem nat_any (x : Nat) (w : World) (h : x ≤ 18446744073709551615) :
    Calls Try.prog 56 #[.int .u64 x] w (RetN w x) := by
  have HN := Lib.hid (nat_two x (by omega))
  go_enter Try.func56, Try.ntmps56
  go_wp2_with fail
  have e1 : ((x : Int) % 4294967296) = ((x % 4294967296 : Nat) : Int) := by omega
  have e2 : ((x : Int) / 4294967296) = ((x / 4294967296 : Nat) : Int) := by omega
  have hd : Dg (w.alloc (.cells #[.int .u32 ((x : Int) % 4294967296), .int .u32 ((x : Int) / 4294967296)] 22)) (w.heap.size + 1) (some ⟨w.heap.size, 0, none⟩) [x % 4294967296, x / 4294967296] := by
    rw [e1, e2]
    intro _
    refine ⟨w.heap.size, rfl, by omega, fun j hj => ?_⟩
    match j, hj with
    | 0, _ => simp [dg]
    | 1, _ => simp [dg]
  clear e1 e2
  refine (cut_any _ 2 [x % 4294967296, x / 4294967296] _ (by simp) (by omega) (by simpa using hd) HN.out.2).mono ?_
  rintro e w' ⟨v, rfl, hv, rfl⟩
  go_wp2
  go_ret
  refine ⟨_, rfl, ?_, (Below.refl _ _).alloc (Nat.le_refl _) _⟩
  rw [HN.out.1] at hv
  exact hv

theorem u32_eq {x y : Int} (h : x = y) : Value.int .u32 x = .int .u32 y := by rw [h]
theorem pow_split {s : Nat} (hs : s < 32) : ∃ t, 0 < t ∧ Bw = 2 ^ s * t := ⟨2 ^ (32 - s), Nat.two_pow_pos _, by rw [← Nat.pow_add, Bw_two]; congr 1; omega⟩
theorem up_bound (d s : Nat) (hd : d ≤ 4294967295) (hs : s < 32) : d * 2 ^ s ≤ 9223372036854775807 := by
  have h1 : 2 ^ s ≤ 2 ^ 31 := Nat.pow_le_pow_right (by omega) (by omega)
  have h2 : d * 2 ^ s ≤ 4294967295 * 2 ^ 31 := Nat.mul_le_mul hd h1
  omega
theorem up_wrap (d s : Nat) (hd : d ≤ 4294967295) (hs : s < 32) : IntKind.u64.wrap ((d : Int) * 2 ^ s) = ((d * 2 ^ s : Nat) : Int) := by
  have h1 := up_bound d s hd hs
  have h2 : ((d : Int) * 2 ^ s) = ((d * 2 ^ s : Nat) : Int) := by push_cast; rfl
  rw [h2]
  exact IntWalk.u64_in _ (by omega)
theorem up_mod (X d s : Nat) (hs : s < 32) (hX : X = d * 2 ^ s) : X % Bw % 2 ^ s = 0 := by
  obtain ⟨t, _, ht⟩ := pow_split hs
  rw [ht, Nat.mod_mul_right_mod, hX, Nat.mul_mod_left]
theorem up_small (X d c s : Nat) (hs : s < 32) (hX : X = d * 2 ^ s) (hc : c < 2 ^ s) : X % Bw + c < Bw := by
  obtain ⟨t, ht0, ht⟩ := pow_split hs
  have h1 := up_mod X d s hs hX
  have h2 : X % Bw < Bw := Nat.mod_lt _ Bw_pos
  have h3 := Nat.div_add_mod (X % Bw) (2 ^ s)
  rw [h1, Nat.add_zero] at h3
  have h4 : X % Bw / 2 ^ s < t := by
    refine Nat.lt_of_mul_lt_mul_left (a := 2 ^ s) ?_
    rw [h3, ← ht]; exact h2
  have h5 : 2 ^ s * (X % Bw / 2 ^ s + 1) ≤ 2 ^ s * t := Nat.mul_le_mul_left _ h4
  rw [Nat.mul_add, h3, Nat.mul_one, ← ht] at h5
  omega
theorem up_or (X d c s : Nat) (hs : s < 32) (hX : X = d * 2 ^ s) (hc : c < 2 ^ s) : bits .or .u32 ((X : Int) % 4294967296) (c : Int) = ((X % Bw + c : Nat) : Int) := by
  have h1 : ((X : Int) % 4294967296) = ((X % Bw : Nat) : Int) := by unfold Bw; omega
  have h2 : X % Bw < Bw := Nat.mod_lt _ Bw_pos
  have h3 : c < Bw := by have := up_small X d c s hs hX hc; omega
  unfold Bw at h2 h3
  rw [h1, u32_or_nat _ _ (by unfold Bw; omega) h3, nat_join s _ _ (up_mod X d s hs hX) hc]
theorem up_carry (d s : Nat) (hd : d ≤ 4294967295) : d * 2 ^ s / Bw < 2 ^ s := by
  refine (Nat.div_lt_iff_lt_mul Bw_pos).2 ?_
  rw [Nat.mul_comm]
  exact Nat.mul_lt_mul_of_pos_left (by unfold Bw; omega) (Nat.two_pow_pos _)

set_option maxHeartbeats 1000000 in
theorem up_raw (A : Option Addr) (ca : Nat) (xa : List Nat) (n : Nat) (w : World) (hda : Dg w w.heap.size A xa) (hsa : Small xa)
    (hna : xa.length ≤ 100000) (hn : n ≤ 1000000) :
    Calls Try.prog 73 #[.slice A xa.length ca, .int .i64 n] w (RetN w (dval xa * 2 ^ n)) := by
  go_enter Try.func73, Try.ntmps73
  go_wp2
  go_loopw [5, 6] (fun o i wr => ∃ (k : Nat) (out : List Nat), k ≤ n / 32 ∧ i = .int .i64 k ∧ out = List.replicate k 0 ∧ Own wr w.heap.size o out ∧ Below w.heap.size w wr)
    (fun _ i _ => n / 32 - (intOf i).toNat)
  case atStart => exact ⟨0, [], by omega, rfl, rfl, Own.none_ _ _, Below.refl _ _⟩
  case round =>
    obtain ⟨k, out, hk, rfl, hrep, hown, hbel⟩ := hrel
    have HREP := Lib.hid hrep
    have HOWN := Lib.hid hown
    have HBEL := Lib.hid hbel
    have hbase := hbel.size
    have HLE := Lib.hid (show out.length ≤ 1000000 by rw [hrep]; simp; omega)
    clear hrep hown hbel
    by_cases h1 : k < n / 32
    · go_wp2_with (at_builtin; refine push rfl (.tmp 17) (.tmp 18) rfl w.heap.size _ out rfl HOWN.out _ 0 rfl (by rfl) HLE.out hbase ?_; intro v' w1 ys HY hown1 hb1')
      go_roundw
      case rel => exact ⟨k + 1, ys, by omega, by go_num, by rw [HY.out, HREP.out, List.replicate_succ'], hown1, HBEL.out.trans hb1'⟩
      case measure => simp [intOf]; omega
    · go_wp2
      obtain ⟨wo, rfl⟩ : ∃ wo : World, wo = wr := ⟨_, rfl⟩
      go_loopw [5, 7, 9] (fun o c i wr => ∃ (j c' : Nat) (ys : List Nat), j ≤ xa.length ∧ i = .int .i64 j ∧ c = .int .u32 c' ∧ c' < 2 ^ (n % 32) ∧ ys.length = n / 32 + j ∧ Small ys ∧ dval ys + Bw ^ (n / 32 + j) * c' = Bw ^ (n / 32) * (dval (xa.take j) * 2 ^ (n % 32)) ∧ Own wr w.heap.size o ys ∧ Below w.heap.size w wr)
        (fun _ _ i _ => xa.length - (intOf i).toNat)
      case atStart =>
        have hkk : k = n / 32 := by omega
        exact ⟨0, 0, out, by omega, rfl, rfl, Nat.two_pow_pos _, by rw [HREP.out]; simp [hkk], by rw [HREP.out]; intro d hd; rw [List.eq_of_mem_replicate hd]; exact Bw_pos, by rw [HREP.out, dval_replicate_zero]; simp [dval], HOWN.out, HBEL.out⟩
      case round =>
        obtain ⟨j, c, ys, hj, rfl, rfl, hc, hlen, hso, hval, hown, hbel⟩ := hrel
        have HVAL := Lib.hid hval
        have HLEN := Lib.hid hlen
        have HLE2 := Lib.hid (show ys.length ≤ 1000000 by omega)
        have HOWN2 := Lib.hid hown
        have HBEL2 := Lib.hid hbel
        have hbase2 := hbel.size
        clear hval hlen hown
        by_cases h2 : j < xa.length
        · obtain ⟨b1, rfl, hb1, hcell1⟩ := hda.at_ hbel h2
          have hd1 := small_dg hsa j
          clear hbel
          obtain ⟨X, hX, hX2⟩ : ∃ X : Nat, IntKind.u64.wrap ((dg xa j : Int) * 2 ^ (n % 32)) = (X : Int) ∧ X = dg xa j * 2 ^ (n % 32) := ⟨_, up_wrap _ _ hd1 (Nat.mod_lt _ (by omega)), rfl⟩
          have hX3 : X ≤ 9223372036854775807 := by rw [hX2]; exact up_bound _ _ hd1 (Nat.mod_lt _ (by omega))
          have HX2 := Lib.hid hX2
          have HC := Lib.hid hc
          clear hX2 hc
          go_wp2_with (at_builtin; refine push rfl (.tmp 36) (.tmp 41) rfl w.heap.size _ ys rfl HOWN2.out _ (X % Bw + c) rfl (up_or X (dg xa j) c (n % 32) (Nat.mod_lt _ (by omega)) HX2.out HC.out) HLE2.out hbase2 ?_; intro v' w1 zs HY hown1 hb1')
          go_roundw
          case rel =>
            refine ⟨j + 1, X / Bw, zs, by omega, by go_num, ?_, ?_, ?_, ?_, ?_, hown1, HBEL2.out.trans hb1'⟩
            · exact u32_eq (quo_eq _ _ rfl)
            · rw [HX2.out]; exact up_carry _ _ hd1
            · rw [HY.out]; simp [HLEN.out]; omega
            · rw [HY.out]; exact small_snoc hso (up_small X (dg xa j) c (n % 32) (Nat.mod_lt _ (by omega)) HX2.out HC.out)
            · rw [HY.out, HX2.out]; exact up_round HLEN.out HVAL.out
          case measure => simp [intOf]; omega
        · have hjj : j = xa.length := by omega
          have HJ := Lib.hid hjj
          clear hjj hbel
          go_wp2_with (first
            | (at_builtin; refine push rfl (.tmp 46) (.tmp 48) rfl w.heap.size _ ys rfl HOWN2.out _ c rfl rfl HLE2.out hbase2 ?_; intro v' w1 zs HY hown1 hb1'; obtain ⟨A1, c1, rfl, hl1, hc1, hd1'⟩ := hown1.isN)
            | (go_at_call 81; refine (cut_any _ _ _ _ hl1 hc1 hd1' (by rw [HY.out]; exact small_snoc hso (Nat.lt_of_lt_of_le hc (by rw [Bw_two]; exact Nat.pow_le_pow_right (by omega) (by omega))))).mono ?_; rintro e w' ⟨v, rfl, hv, rfl⟩))
          go_ret
          refine ⟨_, rfl, ?_, HBEL2.out.trans hb1'⟩
          have e1 : dval zs = dval xa * 2 ^ n := by
            have h5 := HVAL.out
            rw [HJ.out, dval_take_all _ _ (Nat.le_refl _)] at h5
            rw [HY.out, dval_snoc, HLEN.out, HJ.out, h5, Bwpow_two]
            have e3 : n = 32 * (n / 32) + n % 32 := (Nat.div_add_mod n 32).symm
            conv => rhs; rw [e3, Nat.pow_add]
            rw [← Nat.mul_assoc, Nat.mul_comm (2 ^ (32 * (n / 32))) (dval xa), Nat.mul_assoc]
          rw [← e1]
          exact hv
theorem up_any (va : Value) (a n : Nat) (w : World) (ha : IsN w va a) (ba : bsize a ≤ 1000000) (hn : n ≤ 1000000) :
    Calls Try.prog 73 #[va, .int .i64 n] w (RetN w (a * 2 ^ n)) := by
  obtain ⟨A, ca, xa, rfl, -, -, hda, hsa, -, hva, hna⟩ := ha.len
  rw [← hva]
  exact up_raw A ca xa n w hda hsa (by omega) hn
theorem up_raw_is (A : Option Addr) (ca : Nat) (xa : List Nat) (n : Int) (r : Nat) (w : World) (hda : Dg w w.heap.size A xa) (hsa : Small xa)
    (hna : xa.length ≤ 100000) (h0 : 0 ≤ n) (hn : n ≤ 1000000) (hr : dval xa * 2 ^ n.toNat = r) :
    Calls Try.prog 73 #[.slice A xa.length ca, .int .i64 n] w (RetN w r) := by
  obtain ⟨k, rfl⟩ := Int.eq_ofNat_of_zero_le h0
  subst hr
  exact up_raw A ca xa k w hda hsa hna (by omega)
theorem up_is (va : Value) (a r : Nat) (n : Int) (w : World) (ha : IsN w va a) (ba : bsize a ≤ 1000000) (h0 : 0 ≤ n) (hn : n ≤ 1000000) (hr : a * 2 ^ n.toNat = r) :
    Calls Try.prog 73 #[va, .int .i64 n] w (RetN w r) := by
  obtain ⟨k, rfl⟩ := Int.eq_ofNat_of_zero_le h0
  subst hr
  exact up_any va a k w ha ba (by omega)
end Go.Proofs.Ytdihbpfoalmlcaa
