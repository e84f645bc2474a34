/- Contracts of the reference's numbers, third part: less, against. -/
import Derived.Test.YtdihbpfoalmlcaaNat2
import Derived.RegionTactic
import Derived.BigQuiet
import Derived.Deep.QuietTactic
namespace Go.Proofs.Ytdihbpfoalmlcaa
open Go.RowKit

theorem less_more_no {xa xb out ys : List Nat} {k l : Nat} (hs : Small out) (hl : out.length = k) (h : dval out + dval (xb.take k) = dval (xa.take k) + Bw ^ k * l)
    (ha : dg xa k ≤ 4294967295) (hd : l + dg xb k ≤ dg xa k) (hy : ys = out ++ [dg xa k - (l + dg xb k)]) :
    ys.length = k + 1 ∧ Small ys ∧ dval ys + dval (xb.take (k + 1)) = dval (xa.take (k + 1)) + Bw ^ (k + 1) * 0 := by
  subst hy
  refine ⟨by simp [hl], small_snoc hs ?_, less_round_no hl h hd⟩
  unfold Bw; omega
theorem less_more_yes {xa xb out ys : List Nat} {k l : Nat} (hs : Small out) (hl : out.length = k) (h : dval out + dval (xb.take k) = dval (xa.take k) + Bw ^ k * l)
    (hb : dg xb k ≤ 4294967295) (h1 : l ≤ 1) (hd : dg xa k < l + dg xb k) (hy : ys = out ++ [dg xa k + Bw - (l + dg xb k)]) :
    ys.length = k + 1 ∧ Small ys ∧ dval ys + dval (xb.take (k + 1)) = dval (xa.take (k + 1)) + Bw ^ (k + 1) * 1 := by
  subst hy
  refine ⟨by simp [hl], small_snoc hs ?_, less_round_yes hl h ?_⟩
  · unfold Bw; omega
  · unfold Bw; omega

set_option maxHeartbeats 1000000 in
theorem less_any (va vb : Value) (a b : Nat) (w : World) (ha : IsN w va a) (hb : IsN w vb b) (ba : bsize a ≤ 1000000) (hab : b ≤ a) :
    Calls Try.prog 76 #[va, vb] w (RetN w (a - b)) := by
  obtain ⟨A, ca, xa, rfl, hla, hca, hda, hsa, hnna, hva, hna⟩ := ha.len
  obtain ⟨B, cb, xb, rfl, hlb, hcb, hdb, hsb, hnnb, hvb, -⟩ := hb.len
  have hlen2 : xb.length ≤ xa.length := by
    refine Nat.le_of_not_lt fun hlt => ?_
    have := norm_len_lt xa xb hsa hnnb hlt
    omega
  clear ha hb
  have HVA := Lib.hid hva
  have HVB := Lib.hid hvb
  clear hva hvb
  go_enter Try.func76, Try.ntmps76
  go_wp2
  go_loopw [5, 6, 7] (fun o c i wr => ∃ (k c' : Nat) (out : List Nat), k ≤ xa.length ∧ c' ≤ 1 ∧ c = .int .u64 c' ∧ i = .int .i64 k ∧ out.length = k ∧ Small out ∧ dval out + dval (xb.take k) = dval (xa.take k) + Bw ^ k * c' ∧ Own wr w.heap.size o out ∧ Below w.heap.size w wr)
    (fun _ _ i _ => xa.length - (intOf i).toNat)
  case atStart => exact ⟨0, 0, [], by omega, by omega, rfl, rfl, rfl, small_nil, by simp [dval], Own.none_ _ _, Below.refl _ _⟩
  case round =>
    obtain ⟨k, c, out, hk, hc, rfl, rfl, hlen, hso, hval, hown, hbel⟩ := hrel
    have HVAL := Lib.hid hval
    have HLEN := Lib.hid hlen
    have HLE := Lib.hid (show out.length ≤ 1000000 by omega)
    have HOWN := Lib.hid hown
    have HBEL := Lib.hid hbel
    have hbase := hbel.size
    have hd1 := small_dg hsa k
    have hd2 := small_dg hsb k
    have HMN := fun ys => less_more_no (ys := ys) hso hlen hval hd1
    have HNO := Lib.hid HMN
    have HMY := fun ys => less_more_yes (ys := ys) hso hlen hval hd2 hc
    have HYES := Lib.hid HMY
    clear hval hlen hown HMN HMY
    by_cases h1 : k < xa.length
    · obtain ⟨b1, rfl, hb1, hcell1⟩ := hda.at_ hbel h1
      by_cases h2 : k < xb.length
      · obtain ⟨b2, rfl, hb2, hcell2⟩ := hdb.at_ hbel h2
        clear hbel
        by_cases hlt : dg xa k < c + dg xb k
        · go_wp2_with (at_builtin; refine push rfl (.tmp 38) (.tmp 43) rfl w.heap.size _ out rfl HOWN.out _ (dg xa k + Bw - (c + dg xb k)) rfl (by unfold Bw; omega) HLE.out hbase ?_; intro v' w1 ys HY hown1 hb1')
          go_roundw
          case rel =>
            obtain ⟨m2, m3, m4⟩ := HYES.out ys hlt HY.out
            exact ⟨k + 1, 1, ys, by omega, by omega, rfl, by go_num, m2, m3, m4, hown1, HBEL.out.trans hb1'⟩
          case measure => simp [intOf]; omega
        · go_wp2_with (at_builtin; refine push rfl (.tmp 38) (.tmp 43) rfl w.heap.size _ out rfl HOWN.out _ (dg xa k - (c + dg xb k)) rfl (by omega) HLE.out hbase ?_; intro v' w1 ys HY hown1 hb1')
          go_roundw
          case rel =>
            obtain ⟨m2, m3, m4⟩ := HNO.out ys (by omega) HY.out
            exact ⟨k + 1, 0, ys, by omega, by omega, rfl, by go_num, m2, m3, m4, hown1, HBEL.out.trans hb1'⟩
          case measure => simp [intOf]; omega
      · have hz2 := dg_out (xs := xb) (k := k) (by omega)
        have HZ := Lib.hid hz2
        clear hbel hz2
        by_cases hlt : dg xa k < c
        · go_wp2_with (at_builtin; refine push rfl (.tmp 38) (.tmp 43) rfl w.heap.size _ out rfl HOWN.out _ (dg xa k + Bw - (c + dg xb k)) rfl (by have := HZ.out; unfold Bw; omega) HLE.out hbase ?_; intro v' w1 ys HY hown1 hb1')
          go_roundw
          case rel =>
            obtain ⟨m2, m3, m4⟩ := HYES.out ys (by omega) HY.out
            exact ⟨k + 1, 1, ys, by omega, by omega, rfl, by go_num, m2, m3, m4, hown1, HBEL.out.trans hb1'⟩
          case measure => simp [intOf]; omega
        · go_wp2_with (at_builtin; refine push rfl (.tmp 38) (.tmp 43) rfl w.heap.size _ out rfl HOWN.out _ (dg xa k - (c + dg xb k)) rfl (by have := HZ.out; omega) HLE.out hbase ?_; intro v' w1 ys HY hown1 hb1')
          go_roundw
          case rel =>
            obtain ⟨m2, m3, m4⟩ := HNO.out ys (by have := HZ.out; omega) HY.out
            exact ⟨k + 1, 0, ys, by omega, by omega, rfl, by go_num, m2, m3, m4, hown1, HBEL.out.trans hb1'⟩
          case measure => simp [intOf]; omega
    · obtain ⟨A1, c1, rfl, hl1, hc1, hd1'⟩ := HOWN.out.isN
      have hkk : k = xa.length := by omega
      have HK := Lib.hid hkk
      clear hbel hkk
      go_wp2_with (go_at_call 81; refine (cut_any _ _ _ _ hl1 hc1 hd1' hso).mono ?_; rintro e w' ⟨v, rfl, hv, rfl⟩)
      go_ret
      refine ⟨_, rfl, ?_, HBEL.out⟩
      have e1 : dval out = a - b := by
        have h5 := HVAL.out
        rw [HK.out] at h5
        rw [less_end hso (by rw [HLEN.out, HK.out]) hlen2 (by rw [HVA.out, HVB.out]; exact hab) h5, HVA.out, HVB.out]
      rw [← e1]
      exact hv

/-- -1, 0, 1, as a number stands to another. -/
def cmpI (a b : Nat) : Int := if a < b then -1 else if a = b then 0 else 1

theorem dg_cmp {xa xb : List Nat} (hsa : Small xa) (hsb : Small xb) (hl : xa.length = xb.length) {k : Nat} (hk : k < xa.length) (hsame : xa.drop (k + 1) = xb.drop (k + 1)) :
    (dg xa k < dg xb k → dval xa < dval xb) ∧ (dg xb k < dg xa k → dval xb < dval xa) ∧ (dg xa k = dg xb k → xa.drop k = xb.drop k) := by
  rw [dg_in hk, dg_in (by omega : k < xb.length)]
  refine ⟨fun h => dval_cmp xa xb hsa hl k hk (by rw [hsame]) h, fun h => dval_cmp xb xa hsb hl.symm k (by omega) (by rw [hsame]) h, fun h => ?_⟩
  rw [List.drop_eq_getElem_cons hk, List.drop_eq_getElem_cons (by omega : k < xb.length), h, hsame]

set_option maxHeartbeats 1000000 in
theorem against_any (va vb : Value) (a b : Nat) (w : World) (ha : IsN w va a) (hb : IsN w vb b) (ba : bsize a ≤ 1000000) :
    Calls Try.prog 75 #[va, vb] w (Got w (.int .i64 (cmpI a b))) := by
  obtain ⟨A, ca, xa, rfl, hla, hca, hda, hsa, hnna, hva, hna⟩ := ha.len
  obtain ⟨B, cb, xb, rfl, hlb, hcb, hdb, hsb, hnnb, hvb, hnb⟩ := hb.len
  clear ha hb
  have HVA := Lib.hid hva
  have HVB := Lib.hid hvb
  by_cases hl : xa.length = xb.length
  · have hne : (((xa.length : Nat) : Int) != (xb.length : Nat)) = false := by rw [hl]; simp
    clear hva hvb
    have hcb2 : xb.length ≤ 9223372036854775807 := by omega
    have HL := Lib.hid hl
    clear hl
    go_enter Try.func75, Try.ntmps75
    go_wp2
    go_loopw [5] (fun i wr => ∃ m n : Nat, m ≤ xa.length ∧ i = .int .i64 ((m : Int) - 1) ∧ xa.drop m = xb.drop m ∧ wr = w.drewN n) (fun i _ => (intOf i + 1).toNat)
    case atStart => exact ⟨xa.length, 0, Nat.le_refl _, rfl, by rw [List.drop_of_length_le (Nat.le_refl _), List.drop_of_length_le (by rw [HL.out]; exact Nat.le_refl _)], rfl⟩
    case round =>
      obtain ⟨m, n, hm, rfl, hdrop, rfl⟩ := hrel
      have HD := Lib.hid hdrop
      clear hdrop
      match m with
      | 0 =>
        have HR := Lib.hid (show cmpI a b = 0 from by
          have e : xa = xb := by simpa using HD.out
          have e2 : a = b := by rw [← HVA.out, ← HVB.out, e]
          unfold cmpI
          rw [if_neg (by omega), if_pos e2])
        go_wp2
        go_ret
        exact ⟨by rw [HR.out]; rfl, n, rfl⟩
      | k + 1 =>
        have hk1 : k < xa.length := by omega
        have hk2 : k < xb.length := by rw [← HL.out]; exact hk1
        have e0 : (((k + 1 : Nat) : Int) - 1) = (k : Int) := by omega
        rw [e0]
        obtain ⟨b1, rfl, hb1, hcell1⟩ := hda.at_ (Below.refl _ _) hk1
        obtain ⟨b2, rfl, hb2, hcell2⟩ := hdb.at_ (Below.refl _ _) hk2
        have hC := dg_cmp hsa hsb HL.out hk1 HD.out
        have HC := Lib.hid hC
        clear hC e0
        have i0 : (0 : Int) ≤ (k : Int) := by omega
        have i1 : (k : Int) < (xa.length : Int) := by omega
        have i2 : (k : Int) < (xb.length : Int) := by omega
        rcases Nat.lt_trichotomy (dg xa k) (dg xb k) with hlt | heq | hgt
        · have HR := Lib.hid (show cmpI a b = -1 from by
            have := HC.out.1 hlt
            rw [HVA.out, HVB.out] at this
            unfold cmpI; rw [if_pos this])
          go_wp2
          go_quiet (fail)
          go_wp2
          go_ret
          exact ⟨by rw [HR.out]; rfl, _, by rw [World.drewN_drewN]⟩
        · have HE := Lib.hid heq
          have hx1 : ¬ dg xa k < dg xb k := by omega
          have hx2 : ¬ dg xb k < dg xa k := by omega
          clear heq
          go_wp2
          go_quiet (fail)
          go_wp2
          go_quiet (fail)
          go_wp2
          go_roundw
          case rel => exact ⟨k, _, by omega, rfl, HC.out.2.2 HE.out, rfl⟩
          case measure => simp [intOf]
        · have HR := Lib.hid (show cmpI a b = 1 from by
            have := HC.out.2.1 hgt
            rw [HVA.out, HVB.out] at this
            unfold cmpI; rw [if_neg (by omega), if_neg (by omega)])
          have hx1 : ¬ dg xa k < dg xb k := by omega
          go_wp2
          go_quiet (fail)
          go_wp2
          go_quiet (fail)
          go_wp2
          go_ret
          exact ⟨by rw [HR.out]; rfl, _, by rw [World.drewN_drewN, World.drewN_drewN]⟩
  · have hne : (((xa.length : Nat) : Int) != (xb.length : Nat)) = true := by rw [bne_iff_ne]; omega
    by_cases hlt : xa.length < xb.length
    · have h1 := norm_len_lt xa xb hsa hnnb hlt
      have HR := Lib.hid (show cmpI a b = -1 from by unfold cmpI; rw [if_pos (by omega)])
      clear hva hvb h1
      go_enter Try.func75, Try.ntmps75
      go_wp2
      go_ret
      exact ⟨by rw [HR.out]; rfl, 0, rfl⟩
    · have h1 := norm_len_lt xb xa hsb hnna (by omega)
      have HR := Lib.hid (show cmpI a b = 1 from by unfold cmpI; rw [if_neg (by omega), if_neg (by omega)])
      clear hva hvb h1
      go_enter Try.func75, Try.ntmps75
      go_wp2
      go_ret
      exact ⟨by rw [HR.out]; rfl, 0, rfl⟩
end Go.Proofs.Ytdihbpfoalmlcaa
