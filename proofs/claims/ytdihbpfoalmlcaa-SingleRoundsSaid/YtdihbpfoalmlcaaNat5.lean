/- Contracts of the reference's numbers, fifth part: down. -/
import Derived.Test.YtdihbpfoalmlcaaNat4
namespace Go.Proofs.Ytdihbpfoalmlcaa
open Go.RowKit

theorem pow_mod32 (k : Nat) (h : k < 32) : (2 : Int) ^ k % 4294967296 = ((2 ^ k : Nat) : Int) := by
  have h1 : 2 ^ k ≤ 2 ^ 31 := Nat.pow_le_pow_right (by omega) (by omega)
  rw [show (2 : Int) ^ k = ((2 ^ k : Nat) : Int) from by push_cast; rfl]
  generalize 2 ^ k = p at *
  omega
theorem down_bit (m x j : Nat) (hx : x = m % 2 ^ j) : m % 2 ^ (j + 1) = x + 2 ^ j * (m / 2 ^ j % 2) := by
  subst hx; exact Nat.mod_pow_succ
theorem down_or (x j : Nat) (hj : j < 32) (hx : x < 2 ^ j) : bits .or .u32 (x : Int) ((2 ^ j : Nat) : Int) = ((x + 2 ^ j : Nat) : Int) := by
  have h1 : 2 ^ j ≤ 2 ^ 31 := Nat.pow_le_pow_right (by omega) (by omega)
  rw [u32_or_nat _ _ (by omega) (by omega), Nat.or_comm, nat_join j _ _ (by simp) hx, Nat.add_comm]

set_option maxHeartbeats 1000000 in
theorem down_any (va : Value) (a n : Nat) (w : World) (ha : IsN w va a) (ba : bsize a ≤ 100000) (hn : n ≤ 100000) :
    Calls Try.prog 58 #[va, .int .i64 n] w (RetN w (a / 2 ^ n)) := by
  have HA := Lib.hid ha
  obtain ⟨A, ca, xa, rfl, hla, hca, -, hsa, -, hva, hna⟩ := ha.len
  have HVA := Lib.hid hva
  clear hva ha
  go_enter Try.func58, Try.ntmps58
  go_wp2
  go_loopw [5, 6] (fun o i wr => ∃ (t : Nat) (out : List Nat), t ≤ 10000 ∧ i = .int .i64 ((n : Int) + 32 * t) ∧ out.length = t ∧ Small out ∧ dval out = a / 2 ^ n % 2 ^ (32 * t) ∧ Own wr w.heap.size o out ∧ Below w.heap.size w wr)
    (fun _ i _ => 320000 + n - (intOf i).toNat)
  case atStart => exact ⟨0, [], by omega, by go_num, rfl, small_nil, by simp [dval, Nat.mod_one], Own.none_ _ _, Below.refl _ _⟩
  case round =>
    obtain ⟨t, out, ht, rfl, hlen, hso, hval, hown, hbel⟩ := hrel
    have HVAL := Lib.hid hval
    have HLEN := Lib.hid hlen
    have HLE := Lib.hid (show out.length ≤ 1000000 by omega)
    have HOWN := Lib.hid hown
    have HBEL := Lib.hid hbel
    have hbase := hbel.size
    clear hval hlen hown hbel
    by_cases h1 : n + 32 * t < 32 * xa.length
    · have hdec : decide ((n : Int) + 32 * (t : Int) < 32 * (xa.length : Int)) = true := by simp; omega
      go_wp2
      obtain ⟨wo, rfl⟩ : ∃ wo : World, wo = wr := ⟨_, rfl⟩
      go_loop [7, 8] (fun x j => ∃ (k x' : Nat), k ≤ 32 ∧ x = .int .u32 x' ∧ j = .int .i64 k ∧ x' ≤ 4294967295 ∧ x' = a / 2 ^ (n + 32 * t) % 2 ^ k) (fun _ j => 32 - (intOf j).toNat)
      case atStart => exact ⟨0, 0, by omega, rfl, rfl, by omega, by simp [Nat.mod_one]⟩
      case round =>
        obtain ⟨k, x, hk, rfl, rfl, hx, hxv⟩ := hrel
        have HX := Lib.hid hxv
        clear hxv
        by_cases h2 : k < 32
        · have hbits : a / 2 ^ (n + 32 * t + k) % 2 = a / 2 ^ (n + 32 * t) / 2 ^ k % 2 := by rw [Nat.pow_add, Nat.div_div_eq_div_mul]
          have HB := Lib.hid hbits
          clear hbits
          by_cases hb : a / 2 ^ (n + 32 * t + k) % 2 = 1
          · go_wp2_with (go_at_call 82; refine (bit_is _ a _ true _ (HA.out.below HBEL.out) (by omega) (by omega) (by omega) (by rw [show ((n : Int) + 32 * t + k).toNat = n + 32 * t + k from by omega, hb]; rfl)).mono ?_; rintro e w' ⟨rfl, rfl⟩)
            go_round
            case rel =>
              have hp : 2 ^ k ≤ 2 ^ 31 := Nat.pow_le_pow_right (by omega) (by omega)
              have hxl : x < 2 ^ k := by rw [HX.out]; exact Nat.mod_lt _ (Nat.two_pow_pos _)
              have hx2 : x + 2 ^ k ≤ 4294967295 := by omega
              refine ⟨k + 1, x + 2 ^ k, by omega, u32_eq ?_, by go_num, hx2, ?_⟩
              · rw [pow_mod32 k h2, down_or x k h2 hxl]
              · rw [down_bit _ x k HX.out, ← HB.out, hb]; simp
            case measure => simp [intOf]; omega
          · go_wp2_with (go_at_call 82; refine (bit_is _ a _ false _ (HA.out.below HBEL.out) (by omega) (by omega) (by omega) (by rw [show ((n : Int) + 32 * t + k).toNat = n + 32 * t + k from by omega]; simpa using hb)).mono ?_; rintro e w' ⟨rfl, rfl⟩)
            go_round
            case rel =>
              refine ⟨k + 1, x, by omega, rfl, by go_num, hx, ?_⟩
              rw [down_bit _ x k HX.out, ← HB.out]
              have : a / 2 ^ (n + 32 * t + k) % 2 = 0 := by omega
              rw [this]; simp
            case measure => simp [intOf]; omega
        · have hk32 : k = 32 := by omega
          go_wp2_with (at_builtin; refine push rfl (.tmp 31) (.tmp 33) rfl w.heap.size _ out rfl HOWN.out _ x rfl rfl HLE.out hbase ?_; intro v' w1 ys HY hown1 hb1')
          go_roundw
          case rel =>
            subst hk32
            refine ⟨t + 1, ys, by omega, by go_num, by rw [HY.out]; simp [HLEN.out], by rw [HY.out]; exact small_snoc hso (by unfold Bw; omega), ?_, hown1, HBEL.out.trans hb1'⟩
            rw [HY.out, dval_snoc, HLEN.out, HVAL.out, HX.out, Bwpow_two, Nat.pow_add, ← Nat.div_div_eq_div_mul, show 32 * (t + 1) = 32 * t + 32 from by omega, Nat.pow_add, Nat.mod_mul]
          case measure => simp [intOf]; omega
    · obtain ⟨A1, c1, rfl, hl1, hc1, hd1'⟩ := HOWN.out.isN
      go_wp2_with (go_at_call 81; refine (cut_any _ _ _ _ hl1 hc1 hd1' hso).mono ?_; rintro e w' ⟨v, rfl, hv, rfl⟩)
      go_ret
      refine ⟨_, rfl, ?_, HBEL.out⟩
      have e1 : dval out = a / 2 ^ n := by
        rw [HVAL.out]
        refine Nat.mod_eq_of_lt ?_
        have h5 := dval_lt xa hsa
        rw [HVA.out, Bwpow_two] at h5
        refine (Nat.div_lt_iff_lt_mul (Nat.two_pow_pos n)).2 ?_
        rw [← Nat.pow_add]
        exact Nat.lt_of_lt_of_le h5 (Nat.pow_le_pow_right (by omega) (by omega))
      rw [← e1]
      exact hv
end Go.Proofs.Ytdihbpfoalmlcaa
