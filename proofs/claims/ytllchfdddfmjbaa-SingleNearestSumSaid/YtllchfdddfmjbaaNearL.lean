/- SingleNearestSum, joined (printed by a program of ours). -/
import Derived.Test.YtllchfdddfmjbaaNearW
namespace Go.Proofs.Ytllchfdddfmjbaa
open Go.RowKit Ieee
set_option linter.unusedVariables false

theorem svn_abs (a n : Nat) : (svn a n).natAbs = rm a * 2 ^ n := by unfold svn; split <;> omega
theorem svn_big (a n : Nat) (hn : n ≤ 38) : (svn a n).natAbs ≤ 4611685743549480960 := by
  rw [svn_abs]
  have h1 : 2 ^ n ≤ 2 ^ 38 := Nat.pow_le_pow_right (by omega) hn
  have h2 : rm a * 2 ^ n ≤ 16777215 * 2 ^ 38 := Nat.mul_le_mul (by have := rm_lt a; omega) h1
  omega
theorem svn_small (a : Nat) : (svn a 0).natAbs ≤ 16777215 := by
  rw [svn_abs, Nat.pow_zero, Nat.mul_one]
  have := rm_lt a
  omega
theorem key_zero (S : Nat) (h : keyW S = 0) : S % 2147483648 = 0 := by unfold keyW at h; split at h <;> omega
theorem key_plus (S : Nat) (hS : S ≤ 4294967295) (r : Nat) (hr : 0 < r) (h : keyW S = r) : S < 2147483648 ∧ S % 2147483648 = r := by unfold keyW at h; split at h <;> omega
theorem key_minus (S : Nat) (hS : S ≤ 4294967295) (r : Nat) (hr : 0 < r) (h : keyW S = -(r : Int)) : ¬ S < 2147483648 ∧ S % 2147483648 = r := by unfold keyW at h; split at h <;> omega
/-- What is told of a finite sum. -/
theorem fine_facts (S x : Nat) (p : Int) (hS : S ≤ 4294967295) (hx : 0 < x) (hxl : x < 4611686018427387904) (hp : -149 ≤ p) (hp1 : p ≤ 104) (r : Nat) (hr : rungOf single x p = r) (hr0 : 0 < r) (hz : S % 2147483648 = r) (hfin : r < 2139095040) (W : World) :
    Calls Try.prog 28 #[.int .u64 (x : Int), .int .i64 p, .int .u64 (hlo S : Int), .int .u64 ((4 * rm S + 2 : Nat) : Int), .int .i64 (rp S - 2), .bool (rm S % 2 == 0)] W fun e w' => e = .returned (.bool true) ∧ W = w' := by
  obtain ⟨A, hA⟩ : ∃ A : Nat, p + 151 = A := Int.eq_ofNat_of_zero_le (by omega)
  have hf : Fin32 S := by unfold Fin32; omega
  have hrp := rp_fin S hf
  obtain ⟨g1, g2⟩ := near_mid S x A hf (by omega) hx p (by omega) hA
  have hm := rm_lt S
  have hl : hlo S ≤ 4 * rm S := by unfold hlo; split <;> omega
  exact bet x (hlo S) (4 * rm S + 2) (rp S + 149).toNat A p (rp S - 2) _ hxl (by omega) (by omega) hA (by omega) (by omega) (by omega) g1 g2 W

set_option maxHeartbeats 1000000 in
theorem near_A (a b : Nat) (ha : a ≤ 4294967295) (hb : b ≤ 4294967295) (fa : Fin32 a) (fb : Fin32 b) (n : Nat) (hn : rp b - rp a = n) (hn38 : n ≤ 38) (hlt : ¬ rp b < rp a) (w : World) :
    Calls Try.prog 6 #[.int .u32 (a : Int), .int .u32 (b : Int)] w (Ret w (.bool true)) := by
  have pa := rp_fin a fa
  have pb := rp_fin b fb
  have f1 := fun W => finite_any a ha true (decide_eq_true fa) W
  have f2 := fun W => finite_any b hb true (decide_eq_true fb) W
  have r1 := fun W => read_any a ha W
  have r2 := fun W => read_any b hb W
  obtain ⟨S, hS⟩ : ∃ S, sumW a b = S := ⟨_, rfl⟩
  have hSl : S ≤ 4294967295 := hS ▸ sumW_le a b
  have hSc := fun W => Sum_is a b S hS W
  have s1 := fun W => signed_any' a 0 ha (by omega) W
  have s2 := fun W => signed_any' b n hb (by omega) W
  have x1 := svn_small a
  have x2 := svn_big b n (by omega)
  obtain ⟨sum, hsum⟩ : ∃ s, svn a 0 + svn b n = s := ⟨_, rfl⟩
  obtain ⟨k1, k2⟩ := sum_near a b 0 n (rp a) sum ha hb fa fb (by omega) (by omega) hn hsum
  rw [hS] at k1 k2
  have hlow := bits_low S hSl
  rcases Int.lt_trichotomy sum 0 with hneg | hzero | hpos
  · obtain ⟨x, hx⟩ : ∃ x : Nat, sum = -(x : Int) := ⟨sum.natAbs, by omega⟩
    have hsx : svn a 0 + svn b n = -(x : Int) := by rw [hsum, hx]
    obtain ⟨r, hr⟩ : ∃ r, rungOf single x (rp a) = r := ⟨_, rfl⟩
    have hr0 : 0 < r := hr ▸ rung_pos x (rp a) (by omega) (by omega)
    have hk : keyW S = -(r : Int) := by
      rw [k2]; unfold keyR
      rw [if_pos hneg, show sum.natAbs = x from by omega, hr]
    have hzr := key_minus S hSl r hr0 hk
    have hzb : bits .and .u32 (S : Int) 2147483647 = (r : Int) := by rw [hlow, hzr.2]
    have hg := rung_great x (rp a) (by omega) (by omega)
    rw [hr] at hg
    have hri : r ≤ 2139095040 := hr ▸ rung_inf x (rp a)
    by_cases hgr : r = 2139095040
    · have tg := fun W => tooGreat_any x 0 (rp a) (by omega) (by omega) (by omega) true (decide_eq_true (hg.2 hgr)) W
      exact ns_mgreatA a b S (rm a) (rm b) (rp a) (rp b) f1 f2 r1 r2 hSc _ n (IntWalk.i64_in _ (by omega)) (decide_eq_false (by omega)) (by rw [hn]; exact IntWalk.i64_in _ (by omega)) (decide_eq_false (by omega)) (by omega) (decide_eq_false hlt) (svn a 0) (svn b n) s1 s2 x r (by rw [hsx]; exact IntWalk.i64_in _ (by omega)) (by rw [beq_eq_false_iff_ne]; omega) (by omega) (by omega) (decide_eq_true (by omega)) hzb (by rw [bne_iff_ne]; have := hzr.1; have := hzr.2; omega) (IntWalk.i64_in _ (by omega)) (by rw [IntKind.wrap_u64]; omega) tg (by rw [beq_iff_eq]; omega) w
    · have tg := fun W => tooGreat_any x 0 (rp a) (by omega) (by omega) (by omega) false (decide_eq_false (fun h => hgr (hg.1 h))) W
      exact ns_mfineA a b S (rm a) (rm b) (rp a) (rp b) f1 f2 r1 r2 hSc _ n (IntWalk.i64_in _ (by omega)) (decide_eq_false (by omega)) (by rw [hn]; exact IntWalk.i64_in _ (by omega)) (decide_eq_false (by omega)) (by omega) (decide_eq_false hlt) (svn a 0) (svn b n) s1 s2 x r (by rw [hsx]; exact IntWalk.i64_in _ (by omega)) (by rw [beq_eq_false_iff_ne]; omega) (by omega) (by omega) (decide_eq_true (by omega)) hzb (by rw [bne_iff_ne]; have := hzr.1; have := hzr.2; omega) (IntWalk.i64_in _ (by omega)) (by rw [IntKind.wrap_u64]; omega) tg (by rw [beq_eq_false_iff_ne]; omega) (fun W => finite_any S hSl true (decide_eq_true (by omega)) W) (hlo S) (4 * rm S + 2) (rp S - 2) (rm S % 2 == 0)
        (fun W => halves_any S hSl (rm_pos S (by omega)) W) (fun W => fine_facts S x (rp a) hSl (by omega) (by omega) (by omega) (by omega) r hr hr0 hzr.2 (by omega) W) w
  · subst hzero
    have hk : keyW S = 0 := by rw [k2]; rfl
    have hz := key_zero S hk
    exact ns_zeroA a b S (rm a) (rm b) (rp a) (rp b) f1 f2 r1 r2 hSc _ n (IntWalk.i64_in _ (by omega)) (decide_eq_false (by omega)) (by rw [hn]; exact IntWalk.i64_in _ (by omega)) (decide_eq_false (by omega)) (by omega) (decide_eq_false hlt) (svn a 0) (svn b n) s1 s2 (by rw [hsum]; rfl) (by rw [hlow, hz]; rfl) w
  · obtain ⟨x, hx⟩ : ∃ x : Nat, sum = (x : Int) := ⟨sum.natAbs, by omega⟩
    have hsx : svn a 0 + svn b n = (x : Int) := by rw [hsum, hx]
    obtain ⟨r, hr⟩ : ∃ r, rungOf single x (rp a) = r := ⟨_, rfl⟩
    have hr0 : 0 < r := hr ▸ rung_pos x (rp a) (by omega) (by omega)
    have hk : keyW S = (r : Int) := by
      rw [k2]; unfold keyR
      rw [if_neg (by omega), show sum.natAbs = x from by omega, hr]
    have hzr := key_plus S hSl r hr0 hk
    have hzb : bits .and .u32 (S : Int) 2147483647 = (r : Int) := by rw [hlow, hzr.2]
    have hg := rung_great x (rp a) (by omega) (by omega)
    rw [hr] at hg
    have hri : r ≤ 2139095040 := hr ▸ rung_inf x (rp a)
    by_cases hgr : r = 2139095040
    · have tg := fun W => tooGreat_any x 0 (rp a) (by omega) (by omega) (by omega) true (decide_eq_true (hg.2 hgr)) W
      exact ns_pgreatA a b S (rm a) (rm b) (rp a) (rp b) f1 f2 r1 r2 hSc _ n (IntWalk.i64_in _ (by omega)) (decide_eq_false (by omega)) (by rw [hn]; exact IntWalk.i64_in _ (by omega)) (decide_eq_false (by omega)) (by omega) (decide_eq_false hlt) (svn a 0) (svn b n) s1 s2 x r (by rw [hsx]; exact IntWalk.i64_in _ (by omega)) (by rw [beq_eq_false_iff_ne]; omega) (by omega) (decide_eq_false (by omega)) hzb (by rw [show r = S from by have := hzr.1; have := hzr.2; omega]; simp) (by rw [IntKind.wrap_u64]; omega) tg (by rw [beq_iff_eq]; omega) w
    · have tg := fun W => tooGreat_any x 0 (rp a) (by omega) (by omega) (by omega) false (decide_eq_false (fun h => hgr (hg.1 h))) W
      exact ns_pfineA a b S (rm a) (rm b) (rp a) (rp b) f1 f2 r1 r2 hSc _ n (IntWalk.i64_in _ (by omega)) (decide_eq_false (by omega)) (by rw [hn]; exact IntWalk.i64_in _ (by omega)) (decide_eq_false (by omega)) (by omega) (decide_eq_false hlt) (svn a 0) (svn b n) s1 s2 x r (by rw [hsx]; exact IntWalk.i64_in _ (by omega)) (by rw [beq_eq_false_iff_ne]; omega) (by omega) (decide_eq_false (by omega)) hzb (by rw [show r = S from by have := hzr.1; have := hzr.2; omega]; simp) (by rw [IntKind.wrap_u64]; omega) tg (by rw [beq_eq_false_iff_ne]; omega) (fun W => finite_any S hSl true (decide_eq_true (by omega)) W) (hlo S) (4 * rm S + 2) (rp S - 2) (rm S % 2 == 0)
        (fun W => halves_any S hSl (rm_pos S (by omega)) W) (fun W => fine_facts S x (rp a) hSl (by omega) (by omega) (by omega) (by omega) r hr hr0 hzr.2 (by omega) W) w

set_option maxHeartbeats 1000000 in
theorem near_B (a b : Nat) (ha : a ≤ 4294967295) (hb : b ≤ 4294967295) (fa : Fin32 a) (fb : Fin32 b) (n : Nat) (hn : rp a - rp b = n) (hn38 : n ≤ 38) (hlt : rp b < rp a) (w : World) :
    Calls Try.prog 6 #[.int .u32 (a : Int), .int .u32 (b : Int)] w (Ret w (.bool true)) := by
  have pa := rp_fin a fa
  have pb := rp_fin b fb
  have f1 := fun W => finite_any a ha true (decide_eq_true fa) W
  have f2 := fun W => finite_any b hb true (decide_eq_true fb) W
  have r1 := fun W => read_any a ha W
  have r2 := fun W => read_any b hb W
  obtain ⟨S, hS⟩ : ∃ S, sumW a b = S := ⟨_, rfl⟩
  have hSl : S ≤ 4294967295 := hS ▸ sumW_le a b
  have hSc := fun W => Sum_is a b S hS W
  have s1 := fun W => signed_any' a n ha (by omega) W
  have s2 := fun W => signed_any' b 0 hb (by omega) W
  have x1 := svn_big a n (by omega)
  have x2 := svn_small b
  obtain ⟨sum, hsum⟩ : ∃ s, svn a n + svn b 0 = s := ⟨_, rfl⟩
  obtain ⟨k1, k2⟩ := sum_near a b n 0 (rp b) sum ha hb fa fb (by omega) hn (by omega) hsum
  rw [hS] at k1 k2
  have hlow := bits_low S hSl
  rcases Int.lt_trichotomy sum 0 with hneg | hzero | hpos
  · obtain ⟨x, hx⟩ : ∃ x : Nat, sum = -(x : Int) := ⟨sum.natAbs, by omega⟩
    have hsx : svn a n + svn b 0 = -(x : Int) := by rw [hsum, hx]
    obtain ⟨r, hr⟩ : ∃ r, rungOf single x (rp b) = r := ⟨_, rfl⟩
    have hr0 : 0 < r := hr ▸ rung_pos x (rp b) (by omega) (by omega)
    have hk : keyW S = -(r : Int) := by
      rw [k2]; unfold keyR
      rw [if_pos hneg, show sum.natAbs = x from by omega, hr]
    have hzr := key_minus S hSl r hr0 hk
    have hzb : bits .and .u32 (S : Int) 2147483647 = (r : Int) := by rw [hlow, hzr.2]
    have hg := rung_great x (rp b) (by omega) (by omega)
    rw [hr] at hg
    have hri : r ≤ 2139095040 := hr ▸ rung_inf x (rp b)
    by_cases hgr : r = 2139095040
    · have tg := fun W => tooGreat_any x 0 (rp b) (by omega) (by omega) (by omega) true (decide_eq_true (hg.2 hgr)) W
      exact ns_mgreatB a b S (rm a) (rm b) (rp a) (rp b) f1 f2 r1 r2 hSc _ n (by rw [hn]; exact IntWalk.i64_in _ (by omega)) (decide_eq_false (by omega)) (by omega) (IntWalk.i64_in _ (by omega)) (decide_eq_false (by omega)) (decide_eq_true hlt) (svn a n) (svn b 0) s1 s2 x r (by rw [hsx]; exact IntWalk.i64_in _ (by omega)) (by rw [beq_eq_false_iff_ne]; omega) (by omega) (by omega) (decide_eq_true (by omega)) hzb (by rw [bne_iff_ne]; have := hzr.1; have := hzr.2; omega) (IntWalk.i64_in _ (by omega)) (by rw [IntKind.wrap_u64]; omega) tg (by rw [beq_iff_eq]; omega) w
    · have tg := fun W => tooGreat_any x 0 (rp b) (by omega) (by omega) (by omega) false (decide_eq_false (fun h => hgr (hg.1 h))) W
      exact ns_mfineB a b S (rm a) (rm b) (rp a) (rp b) f1 f2 r1 r2 hSc _ n (by rw [hn]; exact IntWalk.i64_in _ (by omega)) (decide_eq_false (by omega)) (by omega) (IntWalk.i64_in _ (by omega)) (decide_eq_false (by omega)) (decide_eq_true hlt) (svn a n) (svn b 0) s1 s2 x r (by rw [hsx]; exact IntWalk.i64_in _ (by omega)) (by rw [beq_eq_false_iff_ne]; omega) (by omega) (by omega) (decide_eq_true (by omega)) hzb (by rw [bne_iff_ne]; have := hzr.1; have := hzr.2; omega) (IntWalk.i64_in _ (by omega)) (by rw [IntKind.wrap_u64]; omega) tg (by rw [beq_eq_false_iff_ne]; omega) (fun W => finite_any S hSl true (decide_eq_true (by omega)) W) (hlo S) (4 * rm S + 2) (rp S - 2) (rm S % 2 == 0)
        (fun W => halves_any S hSl (rm_pos S (by omega)) W) (fun W => fine_facts S x (rp b) hSl (by omega) (by omega) (by omega) (by omega) r hr hr0 hzr.2 (by omega) W) w
  · subst hzero
    have hk : keyW S = 0 := by rw [k2]; rfl
    have hz := key_zero S hk
    exact ns_zeroB a b S (rm a) (rm b) (rp a) (rp b) f1 f2 r1 r2 hSc _ n (by rw [hn]; exact IntWalk.i64_in _ (by omega)) (decide_eq_false (by omega)) (by omega) (IntWalk.i64_in _ (by omega)) (decide_eq_false (by omega)) (decide_eq_true hlt) (svn a n) (svn b 0) s1 s2 (by rw [hsum]; rfl) (by rw [hlow, hz]; rfl) w
  · obtain ⟨x, hx⟩ : ∃ x : Nat, sum = (x : Int) := ⟨sum.natAbs, by omega⟩
    have hsx : svn a n + svn b 0 = (x : Int) := by rw [hsum, hx]
    obtain ⟨r, hr⟩ : ∃ r, rungOf single x (rp b) = r := ⟨_, rfl⟩
    have hr0 : 0 < r := hr ▸ rung_pos x (rp b) (by omega) (by omega)
    have hk : keyW S = (r : Int) := by
      rw [k2]; unfold keyR
      rw [if_neg (by omega), show sum.natAbs = x from by omega, hr]
    have hzr := key_plus S hSl r hr0 hk
    have hzb : bits .and .u32 (S : Int) 2147483647 = (r : Int) := by rw [hlow, hzr.2]
    have hg := rung_great x (rp b) (by omega) (by omega)
    rw [hr] at hg
    have hri : r ≤ 2139095040 := hr ▸ rung_inf x (rp b)
    by_cases hgr : r = 2139095040
    · have tg := fun W => tooGreat_any x 0 (rp b) (by omega) (by omega) (by omega) true (decide_eq_true (hg.2 hgr)) W
      exact ns_pgreatB a b S (rm a) (rm b) (rp a) (rp b) f1 f2 r1 r2 hSc _ n (by rw [hn]; exact IntWalk.i64_in _ (by omega)) (decide_eq_false (by omega)) (by omega) (IntWalk.i64_in _ (by omega)) (decide_eq_false (by omega)) (decide_eq_true hlt) (svn a n) (svn b 0) s1 s2 x r (by rw [hsx]; exact IntWalk.i64_in _ (by omega)) (by rw [beq_eq_false_iff_ne]; omega) (by omega) (decide_eq_false (by omega)) hzb (by rw [show r = S from by have := hzr.1; have := hzr.2; omega]; simp) (by rw [IntKind.wrap_u64]; omega) tg (by rw [beq_iff_eq]; omega) w
    · have tg := fun W => tooGreat_any x 0 (rp b) (by omega) (by omega) (by omega) false (decide_eq_false (fun h => hgr (hg.1 h))) W
      exact ns_pfineB a b S (rm a) (rm b) (rp a) (rp b) f1 f2 r1 r2 hSc _ n (by rw [hn]; exact IntWalk.i64_in _ (by omega)) (decide_eq_false (by omega)) (by omega) (IntWalk.i64_in _ (by omega)) (decide_eq_false (by omega)) (decide_eq_true hlt) (svn a n) (svn b 0) s1 s2 x r (by rw [hsx]; exact IntWalk.i64_in _ (by omega)) (by rw [beq_eq_false_iff_ne]; omega) (by omega) (decide_eq_false (by omega)) hzb (by rw [show r = S from by have := hzr.1; have := hzr.2; omega]; simp) (by rw [IntKind.wrap_u64]; omega) tg (by rw [beq_eq_false_iff_ne]; omega) (fun W => finite_any S hSl true (decide_eq_true (by omega)) W) (hlo S) (4 * rm S + 2) (rp S - 2) (rm S % 2 == 0)
        (fun W => halves_any S hSl (rm_pos S (by omega)) W) (fun W => fine_facts S x (rp b) hSl (by omega) (by omega) (by omega) (by omega) r hr hr0 hzr.2 (by omega) W) w

theorem nsum_law (a b : Nat) (ha : a ≤ 4294967295) (hb : b ≤ 4294967295) (w : World) :
    Calls Try.prog 6 #[.int .u32 (a : Int), .int .u32 (b : Int)] w (Ret w (.bool true)) := by
  by_cases fa : Fin32 a
  · have f1 := fun W => finite_any a ha true (decide_eq_true fa) W
    by_cases fb : Fin32 b
    · have f2 := fun W => finite_any b hb true (decide_eq_true fb) W
      have r1 := fun W => read_any a ha W
      have r2 := fun W => read_any b hb W
      have pa := rp_fin a fa
      have pb := rp_fin b fb
      by_cases h1 : 38 < rp a - rp b
      · have hs := sum_far a b ha hb fa fb h1
        exact ns_far1 a b (rm a) (rm b) (rp a) (rp b) f1 f2 r1 r2 (fun W => Sum_is a b a hs W) _ (IntWalk.i64_in _ (by omega)) (decide_eq_true h1) (fun W => Sum_is b a a (by rw [sumW_comm]; exact hs) W) w
      · by_cases h2 : 38 < rp b - rp a
        · have hs := sum_far b a hb ha fb fa h2
          exact ns_far2 a b (rm a) (rm b) (rp a) (rp b) f1 f2 r1 r2 (fun W => Sum_is a b b (by rw [sumW_comm]; exact hs) W) _ _ (IntWalk.i64_in _ (by omega)) (decide_eq_false h1) (IntWalk.i64_in _ (by omega)) (decide_eq_true h2) (fun W => Sum_is b a b hs W) w
        · by_cases hlt : rp b < rp a
          · obtain ⟨n, hn⟩ : ∃ n : Nat, rp a - rp b = n := Int.eq_ofNat_of_zero_le (by omega)
            exact near_B a b ha hb fa fb n hn (by omega) hlt w
          · obtain ⟨n, hn⟩ : ∃ n : Nat, rp b - rp a = n := Int.eq_ofNat_of_zero_le (by omega)
            exact near_A a b ha hb fa fb n hn (by omega) hlt w
    · exact ns_inf2 a b f1 (fun W => finite_any b hb false (decide_eq_false fb) W) w
  · exact ns_inf1 a b (fun W => finite_any a ha false (decide_eq_false fa) W) w
end Go.Proofs.Ytllchfdddfmjbaa
