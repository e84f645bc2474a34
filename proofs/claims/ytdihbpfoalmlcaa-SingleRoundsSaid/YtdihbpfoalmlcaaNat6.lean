/- Contracts of the reference's numbers, sixth part: times. -/
import Derived.Test.YtdihbpfoalmlcaaNat5
import Derived.Test.YtdihbpfoalmlcaaBel
namespace Go.Proofs.Ytdihbpfoalmlcaa
open Go.RowKit

theorem IsN.drewN {w : World} {v : Value} {n : Nat} (h : IsN w v n) (k : Nat) : IsN (w.drewN k) v n := h.below (bel_drewN (Below.refl _ _) k)
theorem own_drewN {w : World} {base : Nat} {v : Value} {xs : List Nat} (h : Own w base v xs) (n : Nat) : Own (w.drewN n) base v xs := h

theorem bsize_mono {a b : Nat} (h : a ≤ b) : bsize a ≤ bsize b := by
  by_cases h0 : a = 0
  · subst h0; rw [bsize_zero]; exact Nat.zero_le _
  · have h1 := bsize_le (n := a) (by omega)
    have h2 := lt_bsize b
    have h3 : 2 ^ (bsize a - 1) < 2 ^ bsize b := by omega
    have := (Nat.pow_lt_pow_iff_right (by omega : 1 < 2)).1 h3
    omega
theorem bsize_of_lt {a k : Nat} (h : a < 2 ^ k) : bsize a ≤ k := by
  by_cases h0 : a = 0
  · subst h0; rw [bsize_zero]; exact Nat.zero_le _
  · have h1 := bsize_le (n := a) (by omega)
    have h3 : 2 ^ (bsize a - 1) < 2 ^ k := by omega
    have := (Nat.pow_lt_pow_iff_right (by omega : 1 < 2)).1 h3
    omega
theorem bsize_mul (a b : Nat) : bsize (a * b) ≤ bsize a + bsize b := by
  refine bsize_of_lt ?_
  rw [Nat.pow_add]
  exact Nat.mul_lt_mul'' (lt_bsize a) (lt_bsize b)
theorem bsize_shift (a n : Nat) : bsize (a * 2 ^ n) ≤ bsize a + n := by
  refine bsize_of_lt ?_
  rw [Nat.pow_add]
  exact Nat.mul_lt_mul_of_pos_right (lt_bsize a) (Nat.two_pow_pos n)
theorem bsize_add (a b k : Nat) (ha : bsize a ≤ k) (hb : bsize b ≤ k) : bsize (a + b) ≤ k + 1 := by
  refine bsize_of_lt ?_
  have h1 := lt_bsize a
  have h2 := lt_bsize b
  have h3 : 2 ^ bsize a ≤ 2 ^ k := Nat.pow_le_pow_right (by omega) ha
  have h4 : 2 ^ bsize b ≤ 2 ^ k := Nat.pow_le_pow_right (by omega) hb
  rw [Nat.pow_succ]
  omega
theorem bsize_div (a n : Nat) : bsize (a / 2 ^ n) ≤ bsize a := bsize_mono (Nat.div_le_self _ _)

theorem mul_bound (d e : Nat) (hd : d ≤ 4294967295) (he : e ≤ 4294967295) : d * e ≤ 18446744065119617025 := by
  have : d * e ≤ 4294967295 * 4294967295 := Nat.mul_le_mul hd he
  omega
theorem dval_take_le (xs : List Nat) (k : Nat) : dval (xs.take k) ≤ dval xs := by
  conv => rhs; rw [dval_split xs k]
  exact Nat.le_add_right _ _

set_option maxHeartbeats 1000000 in
theorem times_any (va vb : Value) (a b : Nat) (w : World) (ha : IsN w va a) (hb : IsN w vb b) (ba : bsize a ≤ 100000) (bb : bsize b ≤ 100000) :
    Calls Try.prog 69 #[va, vb] w (RetN w (a * b)) := by
  obtain ⟨A, ca, xa, rfl, hla, hca, hda, hsa, -, hva, hna⟩ := ha.len
  obtain ⟨B, cb, xb, rfl, hlb, hcb, hdb, hsb, -, hvb, hnb⟩ := hb.len
  clear ha hb
  have HVA := Lib.hid hva
  have HVB := Lib.hid hvb
  clear hva hvb
  have hla2 : xa.length ≤ 9223372036854775807 := by omega
  have hlb2 : xb.length ≤ 9223372036854775807 := by omega
  go_enter Try.func69, Try.ntmps69
  go_wp2
  go_loopw [5, 6] (fun o i wr => ∃ (k : Nat), k ≤ xb.length ∧ i = .int .i64 k ∧ IsN wr o (a * dval (xb.take k)) ∧ Below w.heap.size w wr)
    (fun _ i _ => xb.length - (intOf i).toNat)
  case atStart => exact ⟨0, by omega, rfl, ⟨_, 0, [], rfl, by simp, by omega, Dg.nil_ _ _ _, small_nil, norm_nil, by simp [dval]⟩, (Below.refl _ _).alloc (Nat.le_refl _) _⟩
  case round =>
    obtain ⟨k, hk, rfl, hon, hbel⟩ := hrel
    have HON := Lib.hid hon
    have HBEL := Lib.hid hbel
    have hbase := hbel.size
    clear hon hbel
    by_cases h1 : k < xb.length
    · have hdec : decide ((k : Int) < (xb.length : Int)) = true := by simp; omega
      go_wp2
      obtain ⟨wo, rfl⟩ : ∃ wo : World, wo = wr := ⟨_, rfl⟩
      go_loopw [7, 8, 9] (fun r c j wr => ∃ (i c' : Nat) (row : List Nat), i ≤ xa.length ∧ c' ≤ 4294967295 ∧ c = .int .u64 c' ∧ j = .int .i64 i ∧ row.length = i ∧ Small row ∧ dval row + Bw ^ i * c' = dval (xa.take i) * dg xb k ∧ Own wr wo.heap.size r row ∧ Below wo.heap.size wo wr)
        (fun _ _ j _ => xa.length - (intOf j).toNat)
      case atStart =>
        refine ⟨0, 0, [], by omega, by omega, rfl, rfl, rfl, small_nil, by simp [dval], ?_, (Below.refl _ _).alloc (Nat.le_refl _) _⟩
        refine ⟨by simp, .inr ⟨wo.heap.size, 0, #[], rfl, Nat.le_refl _, ?_, by simp, by simp [maxLen], by simp, by simp⟩⟩
        exact heap_alloc_new _ _
      case round =>
        obtain ⟨i, c, row, hi, hc, rfl, rfl, hlen, hso, hval, hown, hbel2⟩ := hrel
        have HVAL := Lib.hid hval
        have HLEN := Lib.hid hlen
        have HLE := Lib.hid (show row.length ≤ 1000000 by omega)
        have HOWN := Lib.hid hown
        have HBEL2 := Lib.hid hbel2
        have hbase2 := hbel2.size
        clear hval hlen hown
        have hbw := HBEL.out.trans (hbel2.mono hbase)
        have hd2 := small_dg hsb k
        by_cases h2 : i < xa.length
        · obtain ⟨b1, rfl, hb1, hcell1⟩ := hda.at_ hbw h2
          obtain ⟨b2, rfl, hb2, hcell2⟩ := hdb.at_ hbw h1
          have hd1 := small_dg hsa i
          clear hbel2 hbw
          obtain ⟨P, hP⟩ : ∃ P : Nat, P = dg xa i * dg xb k := ⟨_, rfl⟩
          have hP2 : P ≤ 18446744065119617025 := by rw [hP]; exact mul_bound _ _ hd1 hd2
          have hP3 : IntKind.u64.wrap ((dg xa i : Int) * (dg xb k : Int)) = (P : Int) := by
            rw [← Int.natCast_mul, ← hP]; exact IntWalk.u64_in _ (by omega)
          have HP := Lib.hid hP
          clear hP
          have hx : IntKind.u64.wrap ((P : Int) + (c : Int)) = (P : Int) + (c : Int) := IntWalk.u64_in _ (by omega)
          have hw1 : IntKind.u64.wrap (dg xa i : Int) = (dg xa i : Int) := IntWalk.u64_in _ (by omega)
          have hw2 : IntKind.u64.wrap (dg xb k : Int) = (dg xb k : Int) := IntWalk.u64_in _ (by omega)
          have i0 : (0 : Int) ≤ (i : Int) := by omega
          have i1 : (i : Int) < (xa.length : Int) := by omega
          have i2 : (0 : Int) ≤ (k : Int) := by omega
          have i3 : (k : Int) < (xb.length : Int) := by omega
          go_wp2
          go_quiet (fail)
          clear hx hw1 hw2 hP3
          go_wp2_with (at_builtin; refine push rfl (.tmp 38) (.tmp 41) rfl wo.heap.size _ row rfl (own_drewN HOWN.out _) _ ((dg xa i * dg xb k + c) % Bw) rfl (rem_eq _ _ (by rw [← HP.out]; omega)) HLE.out hbase2 ?_; intro v' w1 ys HY hown1 hb1')
          go_roundw
          case rel =>
            refine ⟨i + 1, (dg xa i * dg xb k + c) / Bw, ys, by omega, ?_, u64_eq (quo_eq _ _ (by rw [← HP.out]; omega)), by go_num, by rw [HY.out]; simp [HLEN.out], by rw [HY.out]; exact small_snoc hso (Nat.mod_lt _ Bw_pos), ?_, hown1, HBEL2.out.trans ⟨hb1'.os, hb1'.tape, hb1'.output, hb1'.size, hb1'.block⟩⟩
            · rw [← HP.out]; unfold Bw; omega
            · rw [HY.out]; exact row_round HLEN.out HVAL.out
          case measure => simp [intOf]; omega
        · have hii : i = xa.length := by omega
          have HI := Lib.hid hii
          clear hii hbel2 hbw
          have HROW := Lib.hid (show ∀ ys : List Nat, ys = row ++ [c] → dval ys = a * dg xb k from by
            intro ys hy
            have h5 := HVAL.out
            rw [HI.out, dval_take_all _ _ (Nat.le_refl _), HVA.out] at h5
            rw [hy, dval_snoc, HLEN.out, HI.out, h5])
          have HSUM := Lib.hid (show a * dval (xb.take k) + a * dg xb k * 2 ^ (32 * k) = a * dval (xb.take (k + 1)) from by
            rw [dval_take_dg, Bwpow_two, Nat.mul_add, Nat.mul_comm (2 ^ (32 * k)) (dg xb k), Nat.mul_assoc])
          have hb1 : bsize (a * dval (xb.take k)) ≤ 200000 := by
            have h6 := bsize_mul a (dval (xb.take k))
            have h7 := bsize_mono (dval_take_le xb k)
            rw [HVB.out] at h7
            omega
          have hb2 : bsize (a * dg xb k * 2 ^ (32 * k)) ≤ 300000 := by
            have h6 := bsize_mono (show a * dg xb k * 2 ^ (32 * k) ≤ a * b from by
              have h8 := HSUM.out
              have h9 : a * dval (xb.take (k + 1)) ≤ a * b := Nat.mul_le_mul_left _ (by rw [← HVB.out]; exact dval_take_le xb (k + 1))
              omega)
            have h7 := bsize_mul a b
            omega
          go_wp2_with (first
            | (at_builtin; refine push rfl (.tmp 45) (.tmp 48) rfl wo.heap.size _ row rfl HOWN.out _ c rfl (by omega) HLE.out hbase2 ?_; intro v' w1 ys HY hown1 hb1'; obtain ⟨A1, c1, rfl, hl1, hc1, hd1'⟩ := hown1.isN)
            | (go_at_call 73; refine (up_raw_is _ _ _ _ (a * dg xb k * 2 ^ (32 * k)) _ hd1' (by rw [HY.out]; exact small_snoc hso (by unfold Bw; omega)) (by rw [HY.out]; simp; have := HLEN.out; omega) (by omega) (by omega) (by rw [HROW.out _ HY.out, show (32 * (k : Int)).toNat = 32 * k from by omega])).mono ?_; rintro e w2 ⟨v2, rfl, hv2, hb2'⟩)
            | (go_at_call 74; refine (plus_any _ _ _ _ _ (HON.out.below ((HBEL2.out.trans hb1').trans (hb2'.mono (by have := hb1'.size; omega)))) hv2 (by omega) (by omega)).mono ?_; rintro e w3 ⟨v3, rfl, hv3, hb3'⟩))
          go_roundw
          case rel =>
            refine ⟨k + 1, by omega, by go_num, ?_, ?_⟩
            · rw [← HSUM.out]; exact hv3
            · have hx := (HBEL2.out.trans hb1').mono hbase
              have hs1 := hb1'.size
              have hs2 := hb2'.size
              exact ((HBEL.out.trans hx).trans (hb2'.mono (by omega))).trans (hb3'.mono (by omega))
          case measure => simp [intOf]; omega
    · have hkk : k = xb.length := by omega
      have HK := Lib.hid hkk
      clear hkk
      obtain ⟨A1, c1, xs1, rfl, hl1, hc1, hd1', hs1, hn1, hv1, -⟩ := HON.out.len
      have HV1 := Lib.hid hv1
      clear hv1
      go_wp2_with (go_at_call 81; refine (cut_any _ _ _ _ hl1 hc1 hd1' hs1).mono ?_; rintro e w' ⟨v, rfl, hv, rfl⟩)
      go_ret
      refine ⟨_, rfl, ?_, HBEL.out⟩
      have e1 : dval xs1 = a * b := by
        rw [HV1.out, HK.out, dval_take_all _ _ (Nat.le_refl _), HVB.out]
      rw [← e1]
      exact hv
end Go.Proofs.Ytdihbpfoalmlcaa
