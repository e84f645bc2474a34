/- Contracts of the reference's numbers, seventh part: over. -/
import Derived.Test.YtdihbpfoalmlcaaNat6
namespace Go.Proofs.Ytdihbpfoalmlcaa
open Go.RowKit

theorem against_is (va vb : Value) (a b : Nat) (c : Int) (w : World) (ha : IsN w va a) (hb : IsN w vb b) (ba : bsize a ≤ 1000000) (hc : cmpI a b = c) :
    Calls Try.prog 75 #[va, vb] w (Got w (.int .i64 c)) := by
  subst hc
  exact against_any va vb a b w ha hb ba

theorem over_step {a b k t R Q : Nat} (hR : a / 2 ^ (k + 1) % b = R) (hQ : a / 2 ^ (k + 1) / b = Q) (ht : a / 2 ^ k % 2 = t) (hb : 0 < b) :
    (b ≤ 2 * R + t → a / 2 ^ k % b = 2 * R + t - b ∧ a / 2 ^ k / b = 2 * Q + 1) ∧ (2 * R + t < b → a / 2 ^ k % b = 2 * R + t ∧ a / 2 ^ k / b = 2 * Q) := by
  have e1 : a / 2 ^ (k + 1) = a / 2 ^ k / 2 := by rw [Nat.pow_succ, Nat.div_div_eq_div_mul]
  rw [e1] at hR hQ
  generalize a / 2 ^ k = A at *
  have h1 := Nat.div_add_mod (A / 2) b
  rw [hR, hQ] at h1
  have h2 : A = 2 * (A / 2) + t := by omega
  have hRb : R < b := by rw [← hR]; exact Nat.mod_lt _ hb
  have e2 : b * (2 * Q + 1) = 2 * (b * Q) + b := by rw [Nat.mul_add, Nat.mul_one, ← Nat.mul_assoc, Nat.mul_comm b 2, Nat.mul_assoc]
  have e3 : b * (2 * Q) = 2 * (b * Q) := by rw [← Nat.mul_assoc, Nat.mul_comm b 2, Nat.mul_assoc]
  constructor
  · intro h
    have h3 : A = b * (2 * Q + 1) + (2 * R + t - b) := by rw [e2]; omega
    have h4 : 2 * R + t - b < b := by omega
    constructor
    · rw [h3, Nat.mul_add_mod, Nat.mod_eq_of_lt h4]
    · rw [h3, Nat.mul_add_div hb, Nat.div_eq_of_lt h4, Nat.add_zero]
  · intro h
    have h3 : A = b * (2 * Q) + (2 * R + t) := by rw [e3]; omega
    constructor
    · rw [h3, Nat.mul_add_mod, Nat.mod_eq_of_lt h]
    · rw [h3, Nat.mul_add_div hb, Nat.div_eq_of_lt h, Nat.add_zero]

theorem bsize_double (a : Nat) : bsize (2 * a) ≤ bsize a + 1 := by
  have h := bsize_shift a 1
  rw [show a * 2 ^ 1 = 2 * a by omega] at h
  exact h

/-- Two results: a number, and whether. -/
def RetNB (w : World) (n : Nat) (t : Bool) (e : Ending) (w' : World) : Prop := ∃ v, e = .returned (.tuple #[v, .bool t]) ∧ IsN w' v n ∧ Below w.heap.size w w'

theorem up_one (va : Value) (a : Nat) (w : World) (ha : IsN w va a) (ba : bsize a ≤ 1000000) :
    Calls Try.prog 73 #[va, .int .i64 1] w (RetN w (2 * a)) :=
  up_is va a (2 * a) 1 w ha ba (by omega) (by omega) (by rw [show (1 : Int).toNat = 1 from rfl]; omega)
theorem nat_one (w : World) : Calls Try.prog 56 #[.int .u64 1] w (RetN w 1) := nat_any 1 w (by omega)

set_option maxHeartbeats 2000000 in
theorem over_any (va vb : Value) (a b : Nat) (w : World) (ha : IsN w va a) (hb : IsN w vb b) (ba : bsize a ≤ 100000) (bb : bsize b ≤ 100000) (hb0 : 0 < b) :
    Calls Try.prog 72 #[va, vb] w (RetNB w (a / b) (decide (0 < a % b))) := by
  have HA := Lib.hid ha
  have HB := Lib.hid hb
  clear ha hb
  go_enter Try.func72, Try.ntmps72
  go_wp2_with fail
  refine (size_any _ _ _ HA.out (by omega)).mono ?_
  rintro e w1 ⟨rfl, rfl⟩
  go_wp2
  go_loopw [6, 7, 8] (fun r o i wr => ∃ (m : Nat), m ≤ 100000 ∧ i = .int .i64 ((m : Int) - 1) ∧ IsN wr r (a / 2 ^ m % b) ∧ IsN wr o (a / 2 ^ m / b) ∧ Below w.heap.size w wr)
    (fun _ _ i _ => (intOf i + 1).toNat)
  case atStart =>
    have h0 : a / 2 ^ bsize a = 0 := Nat.div_eq_of_lt (lt_bsize a)
    exact ⟨bsize a, ba, rfl, by rw [h0, Nat.zero_mod]; exact IsN.nil_ _, by rw [h0, Nat.zero_div]; exact IsN.nil_ _, Below.refl _ _⟩
  case round =>
    obtain ⟨m, hm, rfl, hr, ho, hbel⟩ := hrel
    match m with
    | 0 =>
      rw [Nat.pow_zero, Nat.div_one] at hr ho
      obtain ⟨A1, c1, xs1, rfl, hl1, hc1, -, -, hn1, hv1, -⟩ := hr.len
      have hx : decide (0 < a % b) = decide (0 < xs1.length) := by
        have h1 := norm_zero xs1 hn1
        rw [hv1] at h1
        have h2 : 0 < a % b ↔ 0 < xs1.length := by
          constructor
          · intro h
            have : xs1 ≠ [] := fun e => by have := h1.2 e; omega
            exact List.length_pos_iff.2 this
          · intro h
            have : xs1 ≠ [] := fun e => by subst e; simp at h
            have h3 : a % b ≠ 0 := fun e => this (h1.1 e)
            omega
        exact decide_eq_decide.2 h2
      have HX := Lib.hid hx
      clear hx hv1 hr
      go_wp2
      go_ret2
      exact ⟨_, by rw [HX.out]; rfl, ho, hbel⟩
    | k + 1 =>
      have e0 : (((k + 1 : Nat) : Int) - 1) = (k : Int) := by omega
      rw [e0]
      clear e0
      obtain ⟨R, hR⟩ : ∃ R, a / 2 ^ (k + 1) % b = R := ⟨_, rfl⟩
      obtain ⟨Q, hQ⟩ : ∃ Q, a / 2 ^ (k + 1) / b = Q := ⟨_, rfl⟩
      obtain ⟨t, ht⟩ : ∃ t, a / 2 ^ k % 2 = t := ⟨_, rfl⟩
      have hstep := over_step hR hQ ht hb0
      have ht2 : t ≤ 1 := by omega
      have hRb : R < b := by rw [← hR]; exact Nat.mod_lt _ hb0
      have hQa : Q ≤ a := by rw [← hQ]; exact Nat.le_trans (Nat.div_le_self _ _) (Nat.div_le_self _ _)
      rw [hR] at hr
      rw [hQ] at ho
      have bR : bsize R ≤ 100000 := by have := bsize_mono (Nat.le_of_lt hRb); omega
      have bR2 : bsize (2 * R) ≤ 100001 := by have := bsize_double R; omega
      have bR3 : bsize (2 * R + 1) ≤ 100001 := by have := bsize_mono (show 2 * R + 1 ≤ 2 * b by omega); have := bsize_double b; omega
      have bQ : bsize Q ≤ 100000 := by have := bsize_mono hQa; omega
      have bQ2 : bsize (2 * Q) ≤ 100001 := by have := bsize_double Q; omega
      have b1 : bsize 1 ≤ 1 := by decide
      have HT := Lib.hid (show ∀ s : Bool, (t == 1) = s → (a / 2 ^ (k : Int).toNat % 2 == 1) = s from by rw [Int.toNat_natCast, ht]; exact fun s h => h)
      have hA := HA.out.below hbel
      have hB := HB.out.below hbel
      have hw := hbel
      clear hbel hR hQ ht
      have ht01 : t = 1 ∨ t = 0 := by omega
      rcases ht01 with ht1 | ht1
      · -- the bit is 1
        obtain rfl : t = 1 := by omega
        by_cases hge : b ≤ 2 * R + 1
        · have hs := hstep.1 (by omega)
          have HS := Lib.hid hs
          obtain ⟨c, hc, hc0⟩ : ∃ c, cmpI (2 * R + 1) b = c ∧ 0 ≤ c := ⟨_, rfl, by unfold cmpI; rw [if_neg (by omega)]; split <;> omega⟩
          have HCMP := Lib.hid hc
          clear hc hs hstep
          go_wp2_with fail
          refine (up_one _ R _ hr (by omega)).mono ?_
          rintro e w2 ⟨v2, rfl, h2, hb2⟩
          replace hA := hA.below hb2
          replace hB := hB.below hb2
          replace ho := ho.below hb2
          replace hw := hw.trans (hb2.mono hw.size)
          clear hb2
          go_wp2_with fail
          refine (bit_is _ a _ true _ hA (by omega) (by omega) (by omega) (HT.out true rfl)).mono ?_
          rintro e _ ⟨rfl, rfl⟩
          go_wp2_with fail
          refine (nat_one _).mono ?_
          rintro e w3 ⟨v3, rfl, h3, hb3⟩
          replace hA := hA.below hb3
          replace hB := hB.below hb3
          replace ho := ho.below hb3
          replace h2 := h2.below hb3
          replace hw := hw.trans (hb3.mono hw.size)
          clear hb3
          go_wp2_with fail
          refine (plus_any _ _ (2 * R) 1 _ h2 h3 (by omega) (by omega)).mono ?_
          rintro e w4 ⟨v4, rfl, h4, hb4⟩
          replace hA := hA.below hb4
          replace hB := hB.below hb4
          replace ho := ho.below hb4
          replace hw := hw.trans (hb4.mono hw.size)
          clear hb4
          go_wp2_with fail
          refine (up_one _ Q _ ho (by omega)).mono ?_
          rintro e w5 ⟨v5, rfl, h5, hb5⟩
          replace hA := hA.below hb5
          replace hB := hB.below hb5
          replace h4 := h4.below hb5
          replace hw := hw.trans (hb5.mono hw.size)
          clear hb5
          go_wp2_with fail
          refine (against_is _ _ (2 * R + 1) b c _ h4 hB (by omega) (HCMP.out)).mono ?_
          rintro e _ ⟨rfl, n1, rfl⟩
          replace hA := hA.drewN n1
          replace hB := hB.drewN n1
          replace h4 := h4.drewN n1
          replace h5 := h5.drewN n1
          replace hw := bel_drewN hw n1
          go_wp2_with fail
          refine (less_any _ _ (2 * R + 1) b _ h4 hB (by omega) (by omega)).mono ?_
          rintro e w6 ⟨v6, rfl, h6, hb6⟩
          replace hA := hA.below hb6
          replace hB := hB.below hb6
          replace h5 := h5.below hb6
          replace hw := hw.trans (hb6.mono hw.size)
          clear hb6
          go_wp2_with fail
          refine (nat_one _).mono ?_
          rintro e w7 ⟨v7, rfl, h7, hb7⟩
          replace hA := hA.below hb7
          replace hB := hB.below hb7
          replace h5 := h5.below hb7
          replace h6 := h6.below hb7
          replace hw := hw.trans (hb7.mono hw.size)
          clear hb7
          go_wp2_with fail
          refine (plus_any _ _ (2 * Q) 1 _ h5 h7 (by omega) (by omega)).mono ?_
          rintro e w8 ⟨v8, rfl, h8, hb8⟩
          replace hA := hA.below hb8
          replace hB := hB.below hb8
          replace h6 := h6.below hb8
          replace hw := hw.trans (hb8.mono hw.size)
          clear hb8
          go_wp2
          go_roundw
          case rel => exact ⟨k, by omega, rfl, by rw [HS.out.1]; exact h6, by rw [HS.out.2]; exact h8, hw⟩
          case measure => simp [intOf]
        · have hs := hstep.2 (by omega)
          have HS := Lib.hid hs
          have HCMP := Lib.hid (show cmpI (2 * R + 1) b = -1 from by unfold cmpI; rw [if_pos (by omega)])
          clear hs hstep
          go_wp2_with fail
          refine (up_one _ R _ hr (by omega)).mono ?_
          rintro e w2 ⟨v2, rfl, h2, hb2⟩
          replace hA := hA.below hb2
          replace hB := hB.below hb2
          replace ho := ho.below hb2
          replace hw := hw.trans (hb2.mono hw.size)
          clear hb2
          go_wp2_with fail
          refine (bit_is _ a _ true _ hA (by omega) (by omega) (by omega) (HT.out true rfl)).mono ?_
          rintro e _ ⟨rfl, rfl⟩
          go_wp2_with fail
          refine (nat_one _).mono ?_
          rintro e w3 ⟨v3, rfl, h3, hb3⟩
          replace hA := hA.below hb3
          replace hB := hB.below hb3
          replace ho := ho.below hb3
          replace h2 := h2.below hb3
          replace hw := hw.trans (hb3.mono hw.size)
          clear hb3
          go_wp2_with fail
          refine (plus_any _ _ (2 * R) 1 _ h2 h3 (by omega) (by omega)).mono ?_
          rintro e w4 ⟨v4, rfl, h4, hb4⟩
          replace hA := hA.below hb4
          replace hB := hB.below hb4
          replace ho := ho.below hb4
          replace hw := hw.trans (hb4.mono hw.size)
          clear hb4
          go_wp2_with fail
          refine (up_one _ Q _ ho (by omega)).mono ?_
          rintro e w5 ⟨v5, rfl, h5, hb5⟩
          replace hA := hA.below hb5
          replace hB := hB.below hb5
          replace h4 := h4.below hb5
          replace hw := hw.trans (hb5.mono hw.size)
          clear hb5
          go_wp2_with fail
          refine (against_is _ _ (2 * R + 1) b (-1) _ h4 hB (by omega) (HCMP.out)).mono ?_
          rintro e _ ⟨rfl, n1, rfl⟩
          replace hA := hA.drewN n1
          replace hB := hB.drewN n1
          replace h4 := h4.drewN n1
          replace h5 := h5.drewN n1
          replace hw := bel_drewN hw n1
          go_wp2
          go_roundw
          case rel => exact ⟨k, by omega, rfl, by rw [HS.out.1]; exact h4, by rw [HS.out.2]; exact h5, hw⟩
          case measure => simp [intOf]
      · -- the bit is 0
        obtain rfl : t = 0 := by omega
        by_cases hge : b ≤ 2 * R
        · have hs := hstep.1 (by omega)
          have HS := Lib.hid hs
          obtain ⟨c, hc, hc0⟩ : ∃ c, cmpI (2 * R) b = c ∧ 0 ≤ c := ⟨_, rfl, by unfold cmpI; rw [if_neg (by omega)]; split <;> omega⟩
          have HCMP := Lib.hid hc
          clear hc hs hstep
          go_wp2_with fail
          refine (up_one _ R _ hr (by omega)).mono ?_
          rintro e w2 ⟨v2, rfl, h2, hb2⟩
          replace hA := hA.below hb2
          replace hB := hB.below hb2
          replace ho := ho.below hb2
          replace hw := hw.trans (hb2.mono hw.size)
          clear hb2
          go_wp2_with fail
          refine (bit_is _ a _ false _ hA (by omega) (by omega) (by omega) (HT.out false rfl)).mono ?_
          rintro e _ ⟨rfl, rfl⟩
          go_wp2_with fail
          refine (up_one _ Q _ ho (by omega)).mono ?_
          rintro e w3 ⟨v3, rfl, h5, hb3⟩
          replace hA := hA.below hb3
          replace hB := hB.below hb3
          replace h2 := h2.below hb3
          replace hw := hw.trans (hb3.mono hw.size)
          clear hb3
          go_wp2_with fail
          refine (against_is _ _ (2 * R) b c _ h2 hB (by omega) (HCMP.out)).mono ?_
          rintro e _ ⟨rfl, n1, rfl⟩
          replace hA := hA.drewN n1
          replace hB := hB.drewN n1
          replace h2 := h2.drewN n1
          replace h5 := h5.drewN n1
          replace hw := bel_drewN hw n1
          go_wp2_with fail
          refine (less_any _ _ (2 * R) b _ h2 hB (by omega) (by omega)).mono ?_
          rintro e w4 ⟨v4, rfl, h6, hb4⟩
          replace hA := hA.below hb4
          replace hB := hB.below hb4
          replace h5 := h5.below hb4
          replace hw := hw.trans (hb4.mono hw.size)
          clear hb4
          go_wp2_with fail
          refine (nat_one _).mono ?_
          rintro e w5 ⟨v5, rfl, h7, hb5⟩
          replace hA := hA.below hb5
          replace hB := hB.below hb5
          replace h5 := h5.below hb5
          replace h6 := h6.below hb5
          replace hw := hw.trans (hb5.mono hw.size)
          clear hb5
          go_wp2_with fail
          refine (plus_any _ _ (2 * Q) 1 _ h5 h7 (by omega) (by omega)).mono ?_
          rintro e w6 ⟨v6, rfl, h8, hb6⟩
          replace hA := hA.below hb6
          replace hB := hB.below hb6
          replace h6 := h6.below hb6
          replace hw := hw.trans (hb6.mono hw.size)
          clear hb6
          go_wp2
          go_roundw
          case rel => exact ⟨k, by omega, rfl, by rw [HS.out.1]; exact h6, by rw [HS.out.2]; exact h8, hw⟩
          case measure => simp [intOf]
        · have hs := hstep.2 (by omega)
          have HS := Lib.hid hs
          have HCMP := Lib.hid (show cmpI (2 * R) b = -1 from by unfold cmpI; rw [if_pos (by omega)])
          clear hs hstep
          go_wp2_with fail
          refine (up_one _ R _ hr (by omega)).mono ?_
          rintro e w2 ⟨v2, rfl, h2, hb2⟩
          replace hA := hA.below hb2
          replace hB := hB.below hb2
          replace ho := ho.below hb2
          replace hw := hw.trans (hb2.mono hw.size)
          clear hb2
          go_wp2_with fail
          refine (bit_is _ a _ false _ hA (by omega) (by omega) (by omega) (HT.out false rfl)).mono ?_
          rintro e _ ⟨rfl, rfl⟩
          go_wp2_with fail
          refine (up_one _ Q _ ho (by omega)).mono ?_
          rintro e w3 ⟨v3, rfl, h5, hb3⟩
          replace hA := hA.below hb3
          replace hB := hB.below hb3
          replace h2 := h2.below hb3
          replace hw := hw.trans (hb3.mono hw.size)
          clear hb3
          go_wp2_with fail
          refine (against_is _ _ (2 * R) b (-1) _ h2 hB (by omega) (HCMP.out)).mono ?_
          rintro e _ ⟨rfl, n1, rfl⟩
          replace hA := hA.drewN n1
          replace hB := hB.drewN n1
          replace h2 := h2.drewN n1
          replace h5 := h5.drewN n1
          replace hw := bel_drewN hw n1
          go_wp2
          go_roundw
          case rel => exact ⟨k, by omega, rfl, by rw [HS.out.1]; exact h2, by rw [HS.out.2]; exact h5, hw⟩
          case measure => simp [intOf]
end Go.Proofs.Ytdihbpfoalmlcaa
