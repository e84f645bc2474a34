/- The program's Round: the nearest word (printed by a program of ours). -/
import Derived.Test.YtdihbpfoalmlcaaRoundW
namespace Go.Proofs.Ytdihbpfoalmlcaa
open Go.RowKit Ieee
set_option linter.unusedVariables false

theorem pow_half (n : Nat) (hn : 0 < n) : 2 ^ n = 2 * 2 ^ (n - 1) := by
  obtain ⟨e, rfl⟩ : ∃ e, n = e + 1 := ⟨n - 1, by omega⟩
  rw [Nat.pow_succ, Nat.add_sub_cancel]; omega
theorem kept_low (s : Bool) (M : Nat) (hM : 0 < M) (p k : Int) (hk : lastP M p = k) (kept : Nat) (h : kept = Toward.even.cut s (M <<< (p - k).toNat) (k - p).toNat) : -149 < k → 8388608 ≤ kept := by
  have := (kept_bounds single s M hM p k (by rw [← hk]; exact lastP_eq hM p) kept h).2
  rw [s_bin, s_least] at this
  exact this
theorem spec_up (s : Bool) (M K q : Nat) (p k : Int) (hM : 0 < M) (hk : lastP M p = k) (hq : p - k = q) (hK : M * 2 ^ q = K) :
    K < 16777216 ∧ single.read (single.nearest s M p) = heldD single s K k ∧ (-149 < k → 8388608 ≤ K) := by
  have hr := rnd_up s M hM p (by omega)
  rw [hk, show (p - k).toNat = q from by omega, hK] at hr
  refine ⟨hr.1, hr.2, kept_low s M hM p k hk K ?_⟩
  rw [show (k - p).toNat = 0 from by omega, cut_zero, Nat.shiftLeft_eq, show (p - k).toNat = q from by omega, hK]
theorem spec_AB (s : Bool) (M n K T H : Nat) (p k : Int) (hM : 0 < M) (hk : lastP M p = k) (hn : k - p = n) (hn0 : 0 < n) (hK : M / 2 ^ n = K) (hT : M % 2 ^ n = T) (hH : 2 ^ (n - 1) = H)
    (kept : Nat) (h : kept = K + if H < T ∨ (T = H ∧ K % 2 = 1) then 1 else 0) :
    kept ≤ 16777216 ∧ single.read (single.nearest s M p) = (if kept = 16777216 then heldD single s 8388608 (k + 1) else heldD single s kept k) ∧ (-149 < k → 8388608 ≤ kept) := by
  have hp := pow_half n hn0
  rw [hH] at hp
  have hkd : kept = M / 2 ^ n + (if 2 ^ n < 2 * (M % 2 ^ n) ∨ (2 ^ n = 2 * (M % 2 ^ n) ∧ M / 2 ^ n % 2 = 1) then 1 else 0) := by
    rw [hK, hT, hp, h]
    congr 1
    by_cases hc : H < T ∨ (T = H ∧ K % 2 = 1)
    · rw [if_pos hc, if_pos (by omega)]
    · rw [if_neg hc, if_neg (by omega)]
  have hr := rnd_down s M hM p n (by omega) kept hkd
  rw [hk] at hr
  refine ⟨hr.1, hr.2, kept_low s M hM p k hk kept ?_⟩
  rw [show (p - k).toNat = 0 from by omega, show (k - p).toNat = n from by omega, Nat.shiftLeft_zero, cut_eval]
  exact hkd
theorem spec_C (s : Bool) (M n K T H : Nat) (p k : Int) (hM : 0 < M) (hk : lastP M p = k) (hn : k - p = n) (hn0 : 0 < n) (hK : M / 2 ^ n = K) (hT : M % 2 ^ n = T) (hH : 2 ^ (n - 1) = H)
    (kept : Nat) (h : kept = K + if H < T ∨ T = H then 1 else 0) :
    kept ≤ 16777216 ∧ single.read (single.nearest s (2 * M + 1) (p - 1)) = (if kept = 16777216 then heldD single s 8388608 (k + 1) else heldD single s kept k) ∧ (-149 < k → 8388608 ≤ kept) := by
  have hp := pow_half n hn0
  rw [hH] at hp
  have hb : bsize (2 * M + 1) = bsize M + 1 := by
    rw [bsize_half (show 0 < 2 * M + 1 by omega), show (2 * M + 1) / 2 = M from by omega]
  have hk2 : lastP (2 * M + 1) (p - 1) = k := by rw [← hk]; unfold lastP; rw [hb]; omega
  have hpp : 2 ^ (n + 1) = 2 ^ n * 2 := Nat.pow_succ 2 n
  have hP0 : 0 < 2 ^ n := Nat.two_pow_pos n
  have e0 := Nat.div_add_mod M (2 ^ n)
  have hTl := Nat.mod_lt M hP0
  rw [hK, hT] at e0
  rw [hT] at hTl
  have e1 : 2 * M + 1 = 2 ^ (n + 1) * K + (2 * T + 1) := by
    rw [hpp, ← e0, Nat.mul_add, Nat.mul_comm (2 ^ n) 2, Nat.mul_assoc]; omega
  have e2 : 2 * T + 1 < 2 ^ (n + 1) := by omega
  have eK : (2 * M + 1) / 2 ^ (n + 1) = K := by
    rw [e1, Nat.mul_add_div (by omega), Nat.div_eq_of_lt e2, Nat.add_zero]
  have eT : (2 * M + 1) % 2 ^ (n + 1) = 2 * T + 1 := by
    rw [e1, Nat.mul_add_mod, Nat.mod_eq_of_lt e2]
  have hkd : kept = (2 * M + 1) / 2 ^ (n + 1) + (if 2 ^ (n + 1) < 2 * ((2 * M + 1) % 2 ^ (n + 1)) ∨ (2 ^ (n + 1) = 2 * ((2 * M + 1) % 2 ^ (n + 1)) ∧ (2 * M + 1) / 2 ^ (n + 1) % 2 = 1) then 1 else 0) := by
    rw [eK, eT, hpp, hp, h]
    congr 1
    by_cases hc : H < T ∨ T = H
    · rw [if_pos hc, if_pos (by omega)]
    · rw [if_neg hc, if_neg (by omega)]
  have hr := rnd_down s (2 * M + 1) (by omega) (p - 1) (n + 1) (by omega) kept hkd
  rw [hk2] at hr
  refine ⟨hr.1, hr.2, kept_low s (2 * M + 1) (by omega) (p - 1) k hk2 kept ?_⟩
  rw [show (p - 1 - k).toNat = 0 from by omega, show (k - (p - 1)).toNat = n + 1 from by omega, Nat.shiftLeft_zero, cut_eval]
  exact hkd
theorem wrap_shl (M q K : Nat) (hq : q ≤ 64) (h : M * 2 ^ q = K) (hK : K < 18446744073709551616) : IntKind.u64.wrap ((M : Int) * 2 ^ min q 64) = (K : Int) := by
  rw [Nat.min_eq_left hq, show (M : Int) * 2 ^ q = ((M * 2 ^ q : Nat) : Int) from by rw [Int.natCast_mul, Int.natCast_pow]; rfl, h, IntKind.wrap_u64]; omega
theorem wrap_pow (q K : Nat) (hq : q ≤ 64) (h : 2 ^ q = K) (hK : K < 18446744073709551616) : IntKind.u64.wrap (2 ^ min q 64) = (K : Int) := by
  have := wrap_shl 1 q K hq (by rw [Nat.one_mul]; exact h) hK
  rwa [show ((1 : Nat) : Int) = 1 from rfl, Int.one_mul] at this
theorem div_shr (M q K : Nat) (hq : q ≤ 64) (h : M / 2 ^ q = K) : (M : Int) / 2 ^ min q 64 = (K : Int) := by
  rw [Nat.min_eq_left hq, ← h, Int.natCast_ediv, Int.natCast_pow]; rfl
theorem and_one (K : Nat) (hK : K < 18446744073709551616) : bits .and .u64 (K : Int) 1 = ((K % 2 : Nat) : Int) := by
  have h := u64_and_nat K 1 hK (by omega)
  rw [show K &&& 1 = K % 2 from Nat.and_one_is_mod K] at h
  exact h
theorem word_zero (s : Bool) : wordD (heldD single s 0 (-149)) = sgB s + 0 := by
  unfold heldD
  rw [s_high, if_neg (by omega), sgB_eq]
  simp only [wordD]
  rw [if_pos (show 0 < 8388608 by omega)]

theorem join_A (s : Bool) (m M : Nat) (p0 p1 p2 p : Int) (hmx : max p0 (-2000) = p1) (hmn : min p1 2000 = p2) (hM : m = M) (hp : p2 = p) (hMp : 0 < M) (hMl : M ≤ 18446744073709551615) (hp0 : -3000 ≤ p) (hp1 : p ≤ 3000) (w : World) :
    Calls Try.prog 37 #[.bool s, .int .u64 (m : Int), .int .i64 p0, .bool false] w (Rd w (wordD (single.read (single.nearest s M p)))) := by
  obtain ⟨B, hB⟩ : ∃ B, bsize M = B := ⟨_, rfl⟩
  have hBl : B ≤ 64 := hB ▸ bsize_of_lt (k := 64) (by omega)
  have hl := fun W => Len64_raw M hMl W
  rw [hB] at hl
  have hM0 : ((M : Int) == 0) = false := by rw [beq_eq_false_iff_ne]; omega
  have w1 : IntKind.i64.wrap (p + (B : Int)) = p + B := IntWalk.i64_in _ (by omega)
  have w2 : IntKind.i64.wrap (p + (B : Int) - 24) = p + B - 24 := IntWalk.i64_in _ (by omega)
  obtain ⟨k, hk⟩ : ∃ k, max (p + (B : Int) - 24) (-149) = k := ⟨_, rfl⟩
  have hkv : lastP M p = k := by unfold lastP; rw [hB]; exact hk
  by_cases hkp : k ≤ p
  · obtain ⟨q, hq⟩ : ∃ q : Nat, p - k = q := Int.eq_ofNat_of_zero_le (by omega)
    obtain ⟨K, hK⟩ : ∃ K, M * 2 ^ q = K := ⟨_, rfl⟩
    obtain ⟨r1, r2, r3⟩ := spec_up s M K q p k hMp hkv hq hK
    rw [r2]
    by_cases hbig : 128 < p + B
    · have hw : wordD (heldD single s K k) = sgB s + 2139095040 := by
        unfold heldD
        rw [s_high, if_pos (by omega), sgB_eq]; rfl
      rw [hw]
      exact rw_A_upinf s m M B p0 p1 p2 p k hmx hmn hM hp _ hl hM0 w1 w2 hk (decide_eq_true hkp) (decide_eq_true hbig) (fun W => signed_any s 2139095040 (by omega) W) w
    · obtain ⟨L, l1, l2, l3⟩ := laid_word s K k r1 r3 (by omega) (by omega)
      rw [l2]
      have hq64 : q ≤ 64 := by
        refine Nat.le_of_not_lt fun hc => ?_
        have : 2 ^ 64 ≤ 2 ^ q := Nat.pow_le_pow_right (by omega) (by omega)
        have h2 : 2 ^ q ≤ M * 2 ^ q := Nat.le_mul_of_pos_left _ hMp
        omega
      exact rw_A_up s m M B p0 p1 p2 p k hmx hmn hM hp _ L K q hl hM0 w1 w2 hk (decide_eq_true hkp) (decide_eq_false hbig) (by rw [hq]; exact IntWalk.i64_in _ (by omega)) (wrap_shl M q K hq64 hK (by omega)) (by omega) l3 (fun W => signed_any s L l1 W) w
  · have hkp2 : p < k := by omega
    obtain ⟨n, hn⟩ : ∃ n : Nat, k - p = n := Int.eq_ofNat_of_zero_le (by omega)
    have hn0 : 0 < n := by omega
    obtain ⟨K, hK⟩ : ∃ K, M / 2 ^ n = K := ⟨_, rfl⟩
    obtain ⟨T, hT⟩ : ∃ T, M % 2 ^ n = T := ⟨_, rfl⟩
    obtain ⟨H, hH⟩ : ∃ H, 2 ^ (n - 1) = H := ⟨_, rfl⟩
    have hpw2 := pow_half n hn0
    rw [hH] at hpw2
    have sp := fun kept h => spec_AB s M n K T H p k hMp hkv hn hn0 hK hT hH kept h
    have hd1 : decide (k ≤ p) = false := decide_eq_false hkp
    have hnw : IntKind.i64.wrap (k - p) = (n : Int) := by rw [hn]; exact IntWalk.i64_in _ (by omega)
    by_cases hfar : 64 < n
    · have h64 : 2 ^ 64 ≤ 2 ^ (n - 1) := Nat.pow_le_pow_right (by omega) (by omega)
      rw [hH] at h64
      have eK : K = 0 := by rw [← hK]; exact Nat.div_eq_of_lt (by omega)
      have eT : T = M := by rw [← hT]; exact Nat.mod_eq_of_lt (by omega)
      obtain ⟨-, r2, -⟩ := sp 0 (by rw [eK, if_neg (by omega)] <;> rfl)
      have hk149 : k = -149 := by omega
      rw [r2, if_neg (by omega), hk149, word_zero]
      exact rw_A_far s m M B p0 p1 p2 p k hmx hmn hM hp _ n hl hM0 w1 w2 hk hd1 hnw (decide_eq_true (by omega)) (fun W => signed_any s 0 (by omega) W) w
    · have hn2 : decide ((64 : Int) < (n : Int)) = false := decide_eq_false (by omega)
      obtain ⟨n1, hn1⟩ : ∃ n1, n - 1 = n1 := ⟨_, rfl⟩
      have hn1w : IntKind.i64.wrap ((n : Int) - 1) = (n1 : Int) := by rw [show (n : Int) - 1 = (n1 : Int) from by omega]; exact IntWalk.i64_in _ (by omega)
      have hHl : H < 18446744073709551616 := by
        have : 2 ^ (n - 1) ≤ 2 ^ 63 := Nat.pow_le_pow_right (by omega) (by omega)
        omega
      rw [hn1] at hH
      have hh := fun W => sh_l 1 H n1 (by omega) (by rw [Nat.one_mul]; exact hH) hHl W
      have hh2 := wrap_pow n1 H (by omega) hH hHl
      have hKM : K ≤ M := by rw [← hK]; exact Nat.div_le_self _ _
      have hTM : T ≤ M := by rw [← hT]; exact Nat.mod_le _ _
      have fin : ∀ (kept : Nat) (z : Int), z = (kept : Int) → kept = K + (if H < T ∨ (T = H ∧ K % 2 = 1) then 1 else 0) → kept ≠ 16777216 → ∃ L : Nat, L < 2147483648 ∧ wordD (single.read (single.nearest s M p)) = sgB s + L ∧ kept < 16777216 ∧ ∀ W, Calls Try.prog 60 #[.int .u32 z, .int .i64 k] W fun e w' => e = .returned (.int .u32 (L : Nat)) ∧ W = w' := by
        intro kept z hz h hne
        subst hz
        obtain ⟨r1, r2, r3⟩ := sp kept h
        rw [if_neg hne] at r2
        obtain ⟨L, l1, l2, l3⟩ := laid_word s kept k (by omega) r3 (by omega) (by omega)
        exact ⟨L, l1, by rw [r2, l2], by omega, l3⟩
      have full : K + (if H < T ∨ (T = H ∧ K % 2 = 1) then 1 else 0) = 16777216 → ∃ L : Nat, L < 2147483648 ∧ wordD (single.read (single.nearest s M p)) = sgB s + L ∧ ∀ W, Calls Try.prog 60 #[.int .u32 (8388608 : Nat), .int .i64 (k + 1)] W fun e w' => e = .returned (.int .u32 (L : Nat)) ∧ W = w' := by
        intro h
        obtain ⟨r1, r2, r3⟩ := sp 16777216 h.symm
        rw [if_pos rfl] at r2
        obtain ⟨L, l1, l2, l3⟩ := laid_word s 8388608 (k + 1) (by omega) (fun _ => Nat.le_refl _) (by omega) (by omega)
        exact ⟨L, l1, by rw [r2, l2], l3⟩
      have hk1 : IntKind.i64.wrap (k + 1) = k + 1 := IntWalk.i64_in _ (by omega)
      by_cases h64 : n = 64
      · have eK : K = 0 := by
          rw [← hK, h64]; exact Nat.div_eq_of_lt (by omega)
        have eT : T = M := by rw [← hT, h64]; exact Nat.mod_eq_of_lt (by omega)
        have hd64 : decide ((n : Int) < 64) = false := decide_eq_false (by omega)
        have he64 : ((n : Int) == 64) = true := by rw [beq_iff_eq]; omega
        rw [eT, eK] at fin
        rcases Nat.lt_trichotomy H M with g | g | g
        · obtain ⟨L, l1, l2, -, l3⟩ := fin 1 1 rfl (by rw [if_pos (by omega)] <;> rfl) (by omega)
          rw [l2]
          exact rw_A_down64_above s m M B p0 p1 p2 p k hmx hmn hM hp _ L H n n1 hl hM0 w1 w2 hk hd1 hnw hn2 hn1w hh hh2 hd64 he64 (decide_eq_true (by omega)) g (by decide) (by decide) (by decide) l3 (fun W => signed_any s L l1 W) w
        · obtain ⟨L, l1, l2, -, l3⟩ := fin 0 0 rfl (by rw [if_neg (by omega)] <;> rfl) (by omega)
          rw [l2]
          exact rw_A_down64_tie_even s m M B p0 p1 p2 p k hmx hmn hM hp _ L H n n1 hl hM0 w1 w2 hk hd1 hnw hn2 hn1w hh hh2 hd64 he64 (decide_eq_false (by omega)) (by omega) (by rw [beq_iff_eq]; omega) (by decide) (by decide) (by decide) l3 (fun W => signed_any s L l1 W) w
        · obtain ⟨L, l1, l2, -, l3⟩ := fin 0 0 rfl (by rw [if_neg (by omega)] <;> rfl) (by omega)
          rw [l2]
          exact rw_A_down64_below s m M B p0 p1 p2 p k hmx hmn hM hp _ L H n n1 hl hM0 w1 w2 hk hd1 hnw hn2 hn1w hh hh2 hd64 he64 (decide_eq_false (by omega)) (by omega) (by rw [beq_eq_false_iff_ne]; omega) (by decide) (by decide) l3 (fun W => signed_any s L l1 W) w
      · have hd64 : decide ((n : Int) < 64) = true := decide_eq_true (by omega)
        have he64 : ((n : Int) == 64) = false := by rw [beq_eq_false_iff_ne]; omega
        have hr := div_shr M n K (by omega) hK
        have hsum := Nat.div_add_mod M (2 ^ n)
        rw [hK, hT, Nat.mul_comm] at hsum
        obtain ⟨Y, hY⟩ : ∃ Y, K * 2 ^ n = Y := ⟨_, rfl⟩
        rw [hY] at hsum
        have hl2 := wrap_shl K n Y (by omega) hY (by omega)
        have hTw : IntKind.u64.wrap ((M : Int) - (Y : Int)) = (T : Int) := by rw [show (M : Int) - (Y : Int) = (T : Int) from by omega, IntKind.wrap_u64]; omega
        have hod := and_one K (by omega)
        rcases Nat.lt_trichotomy H T with g | g | g
        · skip
          by_cases hov : K + 1 = 16777216
          · skip
            obtain ⟨L, l1, l2, l3⟩ := full (by rw [if_pos (by omega)]; exact hov)
            rw [l2]
            exact rw_A_down_above_full s m M B p0 p1 p2 p k hmx hmn hM hp _ L K H Y T n n1 hl hM0 w1 w2 hk hd1 hnw hn2 hn1w hh hh2 hd64 he64 hr hl2 hTw (decide_eq_true (by omega)) g (by rw [IntKind.wrap_u64]; omega) (by rw [beq_iff_eq]; omega) (by omega) hk1 (by omega) l3 (fun W => signed_any s L l1 W) w
          · skip
            obtain ⟨L, l1, l2, l4, l3⟩ := fin (K + 1) ((K : Int) + 1) (by omega) (by rw [if_pos (by omega)] <;> rfl) (by omega)
            rw [l2]
            exact rw_A_down_above s m M B p0 p1 p2 p k hmx hmn hM hp _ L K H Y T n n1 hl hM0 w1 w2 hk hd1 hnw hn2 hn1w hh hh2 hd64 he64 hr hl2 hTw (decide_eq_true (by omega)) g (by rw [IntKind.wrap_u64]; omega) (by rw [beq_eq_false_iff_ne]; omega) (by omega) l3 (fun W => signed_any s L l1 W) w
        · rcases (show K % 2 = 1 ∨ K % 2 = 0 by omega) with ho | ho
          · skip
            by_cases hov : K + 1 = 16777216
            · skip
              obtain ⟨L, l1, l2, l3⟩ := full (by rw [if_pos (by omega)]; exact hov)
              rw [l2]
              exact rw_A_down_tie_odd_full s m M B p0 p1 p2 p k hmx hmn hM hp _ L K H Y T n n1 hl hM0 w1 w2 hk hd1 hnw hn2 hn1w hh hh2 hd64 he64 hr hl2 hTw (decide_eq_false (by omega)) (by omega) (by rw [beq_iff_eq]; omega) (by rw [hod, ho]; rfl) (by rw [IntKind.wrap_u64]; omega) (by rw [beq_iff_eq]; omega) (by omega) hk1 (by omega) l3 (fun W => signed_any s L l1 W) w
            · skip
              obtain ⟨L, l1, l2, l4, l3⟩ := fin (K + 1) ((K : Int) + 1) (by omega) (by rw [if_pos (by omega)] <;> rfl) (by omega)
              rw [l2]
              exact rw_A_down_tie_odd s m M B p0 p1 p2 p k hmx hmn hM hp _ L K H Y T n n1 hl hM0 w1 w2 hk hd1 hnw hn2 hn1w hh hh2 hd64 he64 hr hl2 hTw (decide_eq_false (by omega)) (by omega) (by rw [beq_iff_eq]; omega) (by rw [hod, ho]; rfl) (by rw [IntKind.wrap_u64]; omega) (by rw [beq_eq_false_iff_ne]; omega) (by omega) l3 (fun W => signed_any s L l1 W) w
          · skip
            have hKl : K < 16777216 := by rw [← hK]; exact rnd_quot M hMp p n (by omega)
            obtain ⟨L, l1, l2, l4, l3⟩ := fin K (K : Int) rfl (by rw [if_neg (by omega)] <;> rfl) (by omega)
            rw [l2]
            exact rw_A_down_tie_even s m M B p0 p1 p2 p k hmx hmn hM hp _ L K H Y T n n1 hl hM0 w1 w2 hk hd1 hnw hn2 hn1w hh hh2 hd64 he64 hr hl2 hTw (decide_eq_false (by omega)) (by omega) (by rw [beq_iff_eq]; omega) (by rw [hod, ho]; rfl) (by rw [beq_eq_false_iff_ne]; omega) (by omega) l3 (fun W => signed_any s L l1 W) w
        · skip
          have hKl : K < 16777216 := by rw [← hK]; exact rnd_quot M hMp p n (by omega)
          obtain ⟨L, l1, l2, l4, l3⟩ := fin K (K : Int) rfl (by rw [if_neg (by omega)] <;> rfl) (by omega)
          rw [l2]
          exact rw_A_down_below s m M B p0 p1 p2 p k hmx hmn hM hp _ L K H Y T n n1 hl hM0 w1 w2 hk hd1 hnw hn2 hn1w hh hh2 hd64 he64 hr hl2 hTw (decide_eq_false (by omega)) (by omega) (by rw [beq_eq_false_iff_ne]; omega) (by rw [beq_eq_false_iff_ne]; omega) (by omega) l3 (fun W => signed_any s L l1 W) w

theorem join_B (s : Bool) (m M : Nat) (p0 p1 p2 p : Int) (hmx : max p0 (-2000) = p1) (hmn : min p1 2000 = p2) (h63 : decide ((m : Int) < 9223372036854775808) = true) (hw2 : IntKind.u64.wrap ((m : Int) * 2) = (m : Int) * 2) (hor : bits .or .u64 ((m : Int) * 2) 1 = (M : Int)) (hpw : IntKind.i64.wrap (p2 - 1) = p) (hMp : 0 < M) (hMl : M ≤ 18446744073709551615) (hp0 : -3000 ≤ p) (hp1 : p ≤ 3000) (w : World) :
    Calls Try.prog 37 #[.bool s, .int .u64 (m : Int), .int .i64 p0, .bool true] w (Rd w (wordD (single.read (single.nearest s M p)))) := by
  obtain ⟨B, hB⟩ : ∃ B, bsize M = B := ⟨_, rfl⟩
  have hBl : B ≤ 64 := hB ▸ bsize_of_lt (k := 64) (by omega)
  have hl := fun W => Len64_raw M hMl W
  rw [hB] at hl
  have hM0 : ((M : Int) == 0) = false := by rw [beq_eq_false_iff_ne]; omega
  have w1 : IntKind.i64.wrap (p + (B : Int)) = p + B := IntWalk.i64_in _ (by omega)
  have w2 : IntKind.i64.wrap (p + (B : Int) - 24) = p + B - 24 := IntWalk.i64_in _ (by omega)
  obtain ⟨k, hk⟩ : ∃ k, max (p + (B : Int) - 24) (-149) = k := ⟨_, rfl⟩
  have hkv : lastP M p = k := by unfold lastP; rw [hB]; exact hk
  by_cases hkp : k ≤ p
  · obtain ⟨q, hq⟩ : ∃ q : Nat, p - k = q := Int.eq_ofNat_of_zero_le (by omega)
    obtain ⟨K, hK⟩ : ∃ K, M * 2 ^ q = K := ⟨_, rfl⟩
    obtain ⟨r1, r2, r3⟩ := spec_up s M K q p k hMp hkv hq hK
    rw [r2]
    by_cases hbig : 128 < p + B
    · have hw : wordD (heldD single s K k) = sgB s + 2139095040 := by
        unfold heldD
        rw [s_high, if_pos (by omega), sgB_eq]; rfl
      rw [hw]
      exact rw_B_upinf s m M B p0 p1 p2 p k hmx hmn h63 hw2 hor hpw _ hl hM0 w1 w2 hk (decide_eq_true hkp) (decide_eq_true hbig) (fun W => signed_any s 2139095040 (by omega) W) w
    · obtain ⟨L, l1, l2, l3⟩ := laid_word s K k r1 r3 (by omega) (by omega)
      rw [l2]
      have hq64 : q ≤ 64 := by
        refine Nat.le_of_not_lt fun hc => ?_
        have : 2 ^ 64 ≤ 2 ^ q := Nat.pow_le_pow_right (by omega) (by omega)
        have h2 : 2 ^ q ≤ M * 2 ^ q := Nat.le_mul_of_pos_left _ hMp
        omega
      exact rw_B_up s m M B p0 p1 p2 p k hmx hmn h63 hw2 hor hpw _ L K q hl hM0 w1 w2 hk (decide_eq_true hkp) (decide_eq_false hbig) (by rw [hq]; exact IntWalk.i64_in _ (by omega)) (wrap_shl M q K hq64 hK (by omega)) (by omega) l3 (fun W => signed_any s L l1 W) w
  · have hkp2 : p < k := by omega
    obtain ⟨n, hn⟩ : ∃ n : Nat, k - p = n := Int.eq_ofNat_of_zero_le (by omega)
    have hn0 : 0 < n := by omega
    obtain ⟨K, hK⟩ : ∃ K, M / 2 ^ n = K := ⟨_, rfl⟩
    obtain ⟨T, hT⟩ : ∃ T, M % 2 ^ n = T := ⟨_, rfl⟩
    obtain ⟨H, hH⟩ : ∃ H, 2 ^ (n - 1) = H := ⟨_, rfl⟩
    have hpw2 := pow_half n hn0
    rw [hH] at hpw2
    have sp := fun kept h => spec_AB s M n K T H p k hMp hkv hn hn0 hK hT hH kept h
    have hd1 : decide (k ≤ p) = false := decide_eq_false hkp
    have hnw : IntKind.i64.wrap (k - p) = (n : Int) := by rw [hn]; exact IntWalk.i64_in _ (by omega)
    by_cases hfar : 64 < n
    · have h64 : 2 ^ 64 ≤ 2 ^ (n - 1) := Nat.pow_le_pow_right (by omega) (by omega)
      rw [hH] at h64
      have eK : K = 0 := by rw [← hK]; exact Nat.div_eq_of_lt (by omega)
      have eT : T = M := by rw [← hT]; exact Nat.mod_eq_of_lt (by omega)
      obtain ⟨-, r2, -⟩ := sp 0 (by rw [eK, if_neg (by omega)] <;> rfl)
      have hk149 : k = -149 := by omega
      rw [r2, if_neg (by omega), hk149, word_zero]
      exact rw_B_far s m M B p0 p1 p2 p k hmx hmn h63 hw2 hor hpw _ n hl hM0 w1 w2 hk hd1 hnw (decide_eq_true (by omega)) (fun W => signed_any s 0 (by omega) W) w
    · have hn2 : decide ((64 : Int) < (n : Int)) = false := decide_eq_false (by omega)
      obtain ⟨n1, hn1⟩ : ∃ n1, n - 1 = n1 := ⟨_, rfl⟩
      have hn1w : IntKind.i64.wrap ((n : Int) - 1) = (n1 : Int) := by rw [show (n : Int) - 1 = (n1 : Int) from by omega]; exact IntWalk.i64_in _ (by omega)
      have hHl : H < 18446744073709551616 := by
        have : 2 ^ (n - 1) ≤ 2 ^ 63 := Nat.pow_le_pow_right (by omega) (by omega)
        omega
      rw [hn1] at hH
      have hh := fun W => sh_l 1 H n1 (by omega) (by rw [Nat.one_mul]; exact hH) hHl W
      have hh2 := wrap_pow n1 H (by omega) hH hHl
      have hKM : K ≤ M := by rw [← hK]; exact Nat.div_le_self _ _
      have hTM : T ≤ M := by rw [← hT]; exact Nat.mod_le _ _
      have fin : ∀ (kept : Nat) (z : Int), z = (kept : Int) → kept = K + (if H < T ∨ (T = H ∧ K % 2 = 1) then 1 else 0) → kept ≠ 16777216 → ∃ L : Nat, L < 2147483648 ∧ wordD (single.read (single.nearest s M p)) = sgB s + L ∧ kept < 16777216 ∧ ∀ W, Calls Try.prog 60 #[.int .u32 z, .int .i64 k] W fun e w' => e = .returned (.int .u32 (L : Nat)) ∧ W = w' := by
        intro kept z hz h hne
        subst hz
        obtain ⟨r1, r2, r3⟩ := sp kept h
        rw [if_neg hne] at r2
        obtain ⟨L, l1, l2, l3⟩ := laid_word s kept k (by omega) r3 (by omega) (by omega)
        exact ⟨L, l1, by rw [r2, l2], by omega, l3⟩
      have full : K + (if H < T ∨ (T = H ∧ K % 2 = 1) then 1 else 0) = 16777216 → ∃ L : Nat, L < 2147483648 ∧ wordD (single.read (single.nearest s M p)) = sgB s + L ∧ ∀ W, Calls Try.prog 60 #[.int .u32 (8388608 : Nat), .int .i64 (k + 1)] W fun e w' => e = .returned (.int .u32 (L : Nat)) ∧ W = w' := by
        intro h
        obtain ⟨r1, r2, r3⟩ := sp 16777216 h.symm
        rw [if_pos rfl] at r2
        obtain ⟨L, l1, l2, l3⟩ := laid_word s 8388608 (k + 1) (by omega) (fun _ => Nat.le_refl _) (by omega) (by omega)
        exact ⟨L, l1, by rw [r2, l2], l3⟩
      have hk1 : IntKind.i64.wrap (k + 1) = k + 1 := IntWalk.i64_in _ (by omega)
      by_cases h64 : n = 64
      · have eK : K = 0 := by
          rw [← hK, h64]; exact Nat.div_eq_of_lt (by omega)
        have eT : T = M := by rw [← hT, h64]; exact Nat.mod_eq_of_lt (by omega)
        have hd64 : decide ((n : Int) < 64) = false := decide_eq_false (by omega)
        have he64 : ((n : Int) == 64) = true := by rw [beq_iff_eq]; omega
        rw [eT, eK] at fin
        rcases Nat.lt_trichotomy H M with g | g | g
        · obtain ⟨L, l1, l2, -, l3⟩ := fin 1 1 rfl (by rw [if_pos (by omega)] <;> rfl) (by omega)
          rw [l2]
          exact rw_B_down64_above s m M B p0 p1 p2 p k hmx hmn h63 hw2 hor hpw _ L H n n1 hl hM0 w1 w2 hk hd1 hnw hn2 hn1w hh hh2 hd64 he64 (decide_eq_true (by omega)) g (by decide) (by decide) (by decide) l3 (fun W => signed_any s L l1 W) w
        · obtain ⟨L, l1, l2, -, l3⟩ := fin 0 0 rfl (by rw [if_neg (by omega)] <;> rfl) (by omega)
          rw [l2]
          exact rw_B_down64_tie_even s m M B p0 p1 p2 p k hmx hmn h63 hw2 hor hpw _ L H n n1 hl hM0 w1 w2 hk hd1 hnw hn2 hn1w hh hh2 hd64 he64 (decide_eq_false (by omega)) (by omega) (by rw [beq_iff_eq]; omega) (by decide) (by decide) (by decide) l3 (fun W => signed_any s L l1 W) w
        · obtain ⟨L, l1, l2, -, l3⟩ := fin 0 0 rfl (by rw [if_neg (by omega)] <;> rfl) (by omega)
          rw [l2]
          exact rw_B_down64_below s m M B p0 p1 p2 p k hmx hmn h63 hw2 hor hpw _ L H n n1 hl hM0 w1 w2 hk hd1 hnw hn2 hn1w hh hh2 hd64 he64 (decide_eq_false (by omega)) (by omega) (by rw [beq_eq_false_iff_ne]; omega) (by decide) (by decide) l3 (fun W => signed_any s L l1 W) w
      · have hd64 : decide ((n : Int) < 64) = true := decide_eq_true (by omega)
        have he64 : ((n : Int) == 64) = false := by rw [beq_eq_false_iff_ne]; omega
        have hr := div_shr M n K (by omega) hK
        have hsum := Nat.div_add_mod M (2 ^ n)
        rw [hK, hT, Nat.mul_comm] at hsum
        obtain ⟨Y, hY⟩ : ∃ Y, K * 2 ^ n = Y := ⟨_, rfl⟩
        rw [hY] at hsum
        have hl2 := wrap_shl K n Y (by omega) hY (by omega)
        have hTw : IntKind.u64.wrap ((M : Int) - (Y : Int)) = (T : Int) := by rw [show (M : Int) - (Y : Int) = (T : Int) from by omega, IntKind.wrap_u64]; omega
        have hod := and_one K (by omega)
        rcases Nat.lt_trichotomy H T with g | g | g
        · skip
          by_cases hov : K + 1 = 16777216
          · skip
            obtain ⟨L, l1, l2, l3⟩ := full (by rw [if_pos (by omega)]; exact hov)
            rw [l2]
            exact rw_B_down_above_full s m M B p0 p1 p2 p k hmx hmn h63 hw2 hor hpw _ L K H Y T n n1 hl hM0 w1 w2 hk hd1 hnw hn2 hn1w hh hh2 hd64 he64 hr hl2 hTw (decide_eq_true (by omega)) g (by rw [IntKind.wrap_u64]; omega) (by rw [beq_iff_eq]; omega) (by omega) hk1 (by omega) l3 (fun W => signed_any s L l1 W) w
          · skip
            obtain ⟨L, l1, l2, l4, l3⟩ := fin (K + 1) ((K : Int) + 1) (by omega) (by rw [if_pos (by omega)] <;> rfl) (by omega)
            rw [l2]
            exact rw_B_down_above s m M B p0 p1 p2 p k hmx hmn h63 hw2 hor hpw _ L K H Y T n n1 hl hM0 w1 w2 hk hd1 hnw hn2 hn1w hh hh2 hd64 he64 hr hl2 hTw (decide_eq_true (by omega)) g (by rw [IntKind.wrap_u64]; omega) (by rw [beq_eq_false_iff_ne]; omega) (by omega) l3 (fun W => signed_any s L l1 W) w
        · rcases (show K % 2 = 1 ∨ K % 2 = 0 by omega) with ho | ho
          · skip
            by_cases hov : K + 1 = 16777216
            · skip
              obtain ⟨L, l1, l2, l3⟩ := full (by rw [if_pos (by omega)]; exact hov)
              rw [l2]
              exact rw_B_down_tie_odd_full s m M B p0 p1 p2 p k hmx hmn h63 hw2 hor hpw _ L K H Y T n n1 hl hM0 w1 w2 hk hd1 hnw hn2 hn1w hh hh2 hd64 he64 hr hl2 hTw (decide_eq_false (by omega)) (by omega) (by rw [beq_iff_eq]; omega) (by rw [hod, ho]; rfl) (by rw [IntKind.wrap_u64]; omega) (by rw [beq_iff_eq]; omega) (by omega) hk1 (by omega) l3 (fun W => signed_any s L l1 W) w
            · skip
              obtain ⟨L, l1, l2, l4, l3⟩ := fin (K + 1) ((K : Int) + 1) (by omega) (by rw [if_pos (by omega)] <;> rfl) (by omega)
              rw [l2]
              exact rw_B_down_tie_odd s m M B p0 p1 p2 p k hmx hmn h63 hw2 hor hpw _ L K H Y T n n1 hl hM0 w1 w2 hk hd1 hnw hn2 hn1w hh hh2 hd64 he64 hr hl2 hTw (decide_eq_false (by omega)) (by omega) (by rw [beq_iff_eq]; omega) (by rw [hod, ho]; rfl) (by rw [IntKind.wrap_u64]; omega) (by rw [beq_eq_false_iff_ne]; omega) (by omega) l3 (fun W => signed_any s L l1 W) w
          · skip
            have hKl : K < 16777216 := by rw [← hK]; exact rnd_quot M hMp p n (by omega)
            obtain ⟨L, l1, l2, l4, l3⟩ := fin K (K : Int) rfl (by rw [if_neg (by omega)] <;> rfl) (by omega)
            rw [l2]
            exact rw_B_down_tie_even s m M B p0 p1 p2 p k hmx hmn h63 hw2 hor hpw _ L K H Y T n n1 hl hM0 w1 w2 hk hd1 hnw hn2 hn1w hh hh2 hd64 he64 hr hl2 hTw (decide_eq_false (by omega)) (by omega) (by rw [beq_iff_eq]; omega) (by rw [hod, ho]; rfl) (by rw [beq_eq_false_iff_ne]; omega) (by omega) l3 (fun W => signed_any s L l1 W) w
        · skip
          have hKl : K < 16777216 := by rw [← hK]; exact rnd_quot M hMp p n (by omega)
          obtain ⟨L, l1, l2, l4, l3⟩ := fin K (K : Int) rfl (by rw [if_neg (by omega)] <;> rfl) (by omega)
          rw [l2]
          exact rw_B_down_below s m M B p0 p1 p2 p k hmx hmn h63 hw2 hor hpw _ L K H Y T n n1 hl hM0 w1 w2 hk hd1 hnw hn2 hn1w hh hh2 hd64 he64 hr hl2 hTw (decide_eq_false (by omega)) (by omega) (by rw [beq_eq_false_iff_ne]; omega) (by rw [beq_eq_false_iff_ne]; omega) (by omega) l3 (fun W => signed_any s L l1 W) w

theorem join_C (s : Bool) (m M : Nat) (p0 p1 p2 p : Int) (hmx : max p0 (-2000) = p1) (hmn : min p1 2000 = p2) (h63 : decide ((m : Int) < 9223372036854775808) = false) (hM : m = M) (hp : p2 = p) (hMp : 0 < M) (hMl : M ≤ 18446744073709551615) (hbig : 9223372036854775808 ≤ M) (hp0 : -3000 ≤ p) (hp1 : p ≤ 3000) (w : World) :
    Calls Try.prog 37 #[.bool s, .int .u64 (m : Int), .int .i64 p0, .bool true] w (Rd w (wordD (single.read (single.nearest s (2 * M + 1) (p - 1))))) := by
  obtain ⟨B, hB⟩ : ∃ B, bsize M = B := ⟨_, rfl⟩
  have hBl : B ≤ 64 := hB ▸ bsize_of_lt (k := 64) (by omega)
  have hl := fun W => Len64_raw M hMl W
  rw [hB] at hl
  have hM0 : ((M : Int) == 0) = false := by rw [beq_eq_false_iff_ne]; omega
  have w1 : IntKind.i64.wrap (p + (B : Int)) = p + B := IntWalk.i64_in _ (by omega)
  have w2 : IntKind.i64.wrap (p + (B : Int) - 24) = p + B - 24 := IntWalk.i64_in _ (by omega)
  obtain ⟨k, hk⟩ : ∃ k, max (p + (B : Int) - 24) (-149) = k := ⟨_, rfl⟩
  have hkv : lastP M p = k := by unfold lastP; rw [hB]; exact hk
  have hB64 : B = 64 := by
    have h1 : bsize M = 63 + 1 := bsize_unique (k := 63) (by omega) (by omega)
    omega
  have hkp : ¬ k ≤ p := by omega
  · have hkp2 : p < k := by omega
    obtain ⟨n, hn⟩ : ∃ n : Nat, k - p = n := Int.eq_ofNat_of_zero_le (by omega)
    have hn0 : 0 < n := by omega
    obtain ⟨K, hK⟩ : ∃ K, M / 2 ^ n = K := ⟨_, rfl⟩
    obtain ⟨T, hT⟩ : ∃ T, M % 2 ^ n = T := ⟨_, rfl⟩
    obtain ⟨H, hH⟩ : ∃ H, 2 ^ (n - 1) = H := ⟨_, rfl⟩
    have hpw2 := pow_half n hn0
    rw [hH] at hpw2
    have sp := fun kept h => spec_C s M n K T H p k hMp hkv hn hn0 hK hT hH kept h
    have hd1 : decide (k ≤ p) = false := decide_eq_false hkp
    have hnw : IntKind.i64.wrap (k - p) = (n : Int) := by rw [hn]; exact IntWalk.i64_in _ (by omega)
    by_cases hfar : 64 < n
    · have h64 : 2 ^ 64 ≤ 2 ^ (n - 1) := Nat.pow_le_pow_right (by omega) (by omega)
      rw [hH] at h64
      have eK : K = 0 := by rw [← hK]; exact Nat.div_eq_of_lt (by omega)
      have eT : T = M := by rw [← hT]; exact Nat.mod_eq_of_lt (by omega)
      obtain ⟨-, r2, -⟩ := sp 0 (by rw [eK, if_neg (by omega)] <;> rfl)
      have hk149 : k = -149 := by omega
      rw [r2, if_neg (by omega), hk149, word_zero]
      exact rw_C_far s m M B p0 p1 p2 p k hmx hmn h63 hM hp _ n hl hM0 w1 w2 hk hd1 hnw (decide_eq_true (by omega)) (fun W => signed_any s 0 (by omega) W) w
    · have hn2 : decide ((64 : Int) < (n : Int)) = false := decide_eq_false (by omega)
      obtain ⟨n1, hn1⟩ : ∃ n1, n - 1 = n1 := ⟨_, rfl⟩
      have hn1w : IntKind.i64.wrap ((n : Int) - 1) = (n1 : Int) := by rw [show (n : Int) - 1 = (n1 : Int) from by omega]; exact IntWalk.i64_in _ (by omega)
      have hHl : H < 18446744073709551616 := by
        have : 2 ^ (n - 1) ≤ 2 ^ 63 := Nat.pow_le_pow_right (by omega) (by omega)
        omega
      rw [hn1] at hH
      have hh := fun W => sh_l 1 H n1 (by omega) (by rw [Nat.one_mul]; exact hH) hHl W
      have hh2 := wrap_pow n1 H (by omega) hH hHl
      have hKM : K ≤ M := by rw [← hK]; exact Nat.div_le_self _ _
      have hTM : T ≤ M := by rw [← hT]; exact Nat.mod_le _ _
      have fin : ∀ (kept : Nat) (z : Int), z = (kept : Int) → kept = K + (if H < T ∨ T = H then 1 else 0) → kept ≠ 16777216 → ∃ L : Nat, L < 2147483648 ∧ wordD (single.read (single.nearest s (2 * M + 1) (p - 1))) = sgB s + L ∧ kept < 16777216 ∧ ∀ W, Calls Try.prog 60 #[.int .u32 z, .int .i64 k] W fun e w' => e = .returned (.int .u32 (L : Nat)) ∧ W = w' := by
        intro kept z hz h hne
        subst hz
        obtain ⟨r1, r2, r3⟩ := sp kept h
        rw [if_neg hne] at r2
        obtain ⟨L, l1, l2, l3⟩ := laid_word s kept k (by omega) r3 (by omega) (by omega)
        exact ⟨L, l1, by rw [r2, l2], by omega, l3⟩
      have full : K + (if H < T ∨ T = H then 1 else 0) = 16777216 → ∃ L : Nat, L < 2147483648 ∧ wordD (single.read (single.nearest s (2 * M + 1) (p - 1))) = sgB s + L ∧ ∀ W, Calls Try.prog 60 #[.int .u32 (8388608 : Nat), .int .i64 (k + 1)] W fun e w' => e = .returned (.int .u32 (L : Nat)) ∧ W = w' := by
        intro h
        obtain ⟨r1, r2, r3⟩ := sp 16777216 h.symm
        rw [if_pos rfl] at r2
        obtain ⟨L, l1, l2, l3⟩ := laid_word s 8388608 (k + 1) (by omega) (fun _ => Nat.le_refl _) (by omega) (by omega)
        exact ⟨L, l1, by rw [r2, l2], l3⟩
      have hk1 : IntKind.i64.wrap (k + 1) = k + 1 := IntWalk.i64_in _ (by omega)
      by_cases h64 : n = 64
      · have eK : K = 0 := by
          rw [← hK, h64]; exact Nat.div_eq_of_lt (by omega)
        have eT : T = M := by rw [← hT, h64]; exact Nat.mod_eq_of_lt (by omega)
        have hd64 : decide ((n : Int) < 64) = false := decide_eq_false (by omega)
        have he64 : ((n : Int) == 64) = true := by rw [beq_iff_eq]; omega
        rw [eT, eK] at fin
        rcases Nat.lt_trichotomy H M with g | g | g
        · obtain ⟨L, l1, l2, -, l3⟩ := fin 1 1 rfl (by rw [if_pos (by omega)] <;> rfl) (by omega)
          rw [l2]
          exact rw_C_down64_above s m M B p0 p1 p2 p k hmx hmn h63 hM hp _ L H n n1 hl hM0 w1 w2 hk hd1 hnw hn2 hn1w hh hh2 hd64 he64 (decide_eq_true (by omega)) g (by decide) (by decide) (by decide) l3 (fun W => signed_any s L l1 W) w
        · obtain ⟨L, l1, l2, -, l3⟩ := fin 1 1 rfl (by rw [if_pos (by omega)] <;> rfl) (by omega)
          rw [l2]
          exact rw_C_down64_tie s m M B p0 p1 p2 p k hmx hmn h63 hM hp _ L H n n1 hl hM0 w1 w2 hk hd1 hnw hn2 hn1w hh hh2 hd64 he64 (decide_eq_false (by omega)) (by omega) (by rw [beq_iff_eq]; omega) (by decide) (by decide) (by decide) l3 (fun W => signed_any s L l1 W) w
        · obtain ⟨L, l1, l2, -, l3⟩ := fin 0 0 rfl (by rw [if_neg (by omega)] <;> rfl) (by omega)
          rw [l2]
          exact rw_C_down64_below s m M B p0 p1 p2 p k hmx hmn h63 hM hp _ L H n n1 hl hM0 w1 w2 hk hd1 hnw hn2 hn1w hh hh2 hd64 he64 (decide_eq_false (by omega)) (by omega) (by rw [beq_eq_false_iff_ne]; omega) (by decide) (by decide) l3 (fun W => signed_any s L l1 W) w
      · have hd64 : decide ((n : Int) < 64) = true := decide_eq_true (by omega)
        have he64 : ((n : Int) == 64) = false := by rw [beq_eq_false_iff_ne]; omega
        have hr := div_shr M n K (by omega) hK
        have hsum := Nat.div_add_mod M (2 ^ n)
        rw [hK, hT, Nat.mul_comm] at hsum
        obtain ⟨Y, hY⟩ : ∃ Y, K * 2 ^ n = Y := ⟨_, rfl⟩
        rw [hY] at hsum
        have hl2 := wrap_shl K n Y (by omega) hY (by omega)
        have hTw : IntKind.u64.wrap ((M : Int) - (Y : Int)) = (T : Int) := by rw [show (M : Int) - (Y : Int) = (T : Int) from by omega, IntKind.wrap_u64]; omega
        have hod := and_one K (by omega)
        rcases Nat.lt_trichotomy H T with g | g | g
        · skip
          by_cases hov : K + 1 = 16777216
          · skip
            obtain ⟨L, l1, l2, l3⟩ := full (by rw [if_pos (by omega)]; exact hov)
            rw [l2]
            exact rw_C_down_above_full s m M B p0 p1 p2 p k hmx hmn h63 hM hp _ L K H Y T n n1 hl hM0 w1 w2 hk hd1 hnw hn2 hn1w hh hh2 hd64 he64 hr hl2 hTw (decide_eq_true (by omega)) g (by rw [IntKind.wrap_u64]; omega) (by rw [beq_iff_eq]; omega) (by omega) hk1 (by omega) l3 (fun W => signed_any s L l1 W) w
          · skip
            obtain ⟨L, l1, l2, l4, l3⟩ := fin (K + 1) ((K : Int) + 1) (by omega) (by rw [if_pos (by omega)] <;> rfl) (by omega)
            rw [l2]
            exact rw_C_down_above s m M B p0 p1 p2 p k hmx hmn h63 hM hp _ L K H Y T n n1 hl hM0 w1 w2 hk hd1 hnw hn2 hn1w hh hh2 hd64 he64 hr hl2 hTw (decide_eq_true (by omega)) g (by rw [IntKind.wrap_u64]; omega) (by rw [beq_eq_false_iff_ne]; omega) (by omega) l3 (fun W => signed_any s L l1 W) w
        · skip
          by_cases hov : K + 1 = 16777216
          · skip
            obtain ⟨L, l1, l2, l3⟩ := full (by rw [if_pos (by omega)]; exact hov)
            rw [l2]
            exact rw_C_down_tie_full s m M B p0 p1 p2 p k hmx hmn h63 hM hp _ L K H Y T n n1 hl hM0 w1 w2 hk hd1 hnw hn2 hn1w hh hh2 hd64 he64 hr hl2 hTw (decide_eq_false (by omega)) (by omega) (by rw [beq_iff_eq]; omega) (by rw [IntKind.wrap_u64]; omega) (by rw [beq_iff_eq]; omega) (by omega) hk1 (by omega) l3 (fun W => signed_any s L l1 W) w
          · skip
            obtain ⟨L, l1, l2, l4, l3⟩ := fin (K + 1) ((K : Int) + 1) (by omega) (by rw [if_pos (by omega)] <;> rfl) (by omega)
            rw [l2]
            exact rw_C_down_tie s m M B p0 p1 p2 p k hmx hmn h63 hM hp _ L K H Y T n n1 hl hM0 w1 w2 hk hd1 hnw hn2 hn1w hh hh2 hd64 he64 hr hl2 hTw (decide_eq_false (by omega)) (by omega) (by rw [beq_iff_eq]; omega) (by rw [IntKind.wrap_u64]; omega) (by rw [beq_eq_false_iff_ne]; omega) (by omega) l3 (fun W => signed_any s L l1 W) w
        · skip
          have hKl : K < 16777216 := by rw [← hK]; exact rnd_quot M hMp p n (by omega)
          obtain ⟨L, l1, l2, l4, l3⟩ := fin K (K : Int) rfl (by rw [if_neg (by omega)] <;> rfl) (by omega)
          rw [l2]
          exact rw_C_down_below s m M B p0 p1 p2 p k hmx hmn h63 hM hp _ L K H Y T n n1 hl hM0 w1 w2 hk hd1 hnw hn2 hn1w hh hh2 hd64 he64 hr hl2 hTw (decide_eq_false (by omega)) (by omega) (by rw [beq_eq_false_iff_ne]; omega) (by rw [beq_eq_false_iff_ne]; omega) (by omega) l3 (fun W => signed_any s L l1 W) w
end Go.Proofs.Ytdihbpfoalmlcaa
