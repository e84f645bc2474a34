/- SingleNearest, joined (printed by a program of ours). -/
import Derived.Test.YtllchfdddfmjbaaNearN1
import Derived.Test.YtllchfdddfmjbaaNearN2
import Derived.Test.YtllchfdddfmjbaaNearN3
namespace Go.Proofs.Ytllchfdddfmjbaa
open Go.RowKit Ieee
set_option linter.unusedVariables false

theorem wrap_mul (x y : Nat) (hx : x < 268435456) (hy : y < 268435456) : IntKind.u64.wrap ((x : Int) * (y : Int)) = ((x * y : Nat) : Int) := by
  have h : x * y < 268435456 * 268435456 := Nat.mul_lt_mul'' hx hy
  rw [show ((x : Int) * (y : Int)) = ((x * y : Nat) : Int) from (Int.natCast_mul x y).symm, IntKind.wrap_u64]
  generalize x * y = z at *
  omega
theorem hlo_lt (r : Nat) : hlo r < 67108864 := by
  have hm := rm_lt r
  have hl : hlo r ≤ 4 * rm r := by unfold hlo; split <;> omega
  omega
theorem sign_notlow (v : Nat) (h : v ≤ 4294967295) : bits .andNot .u32 (v : Int) 2147483647 = ((v / 2147483648 * 2147483648 : Nat) : Int) := by
  have h1 := u32_andNot_nat v 2147483647 (by omega) (by omega)
  have h2 := bits_sign v h
  have h3 := u32_and_nat v 2147483648 (by omega) (by omega)
  rw [show (4294967295 - 2147483647 : Nat) = 2147483648 from rfl] at h1
  exact h1.trans (h3.symm.trans h2)
theorem xor_high (a b : Nat) : (a ^^^ b) / 2147483648 = (a / 2147483648) ^^^ (b / 2147483648) := by
  have h := Nat.shiftRight_xor_distrib (a := a) (b := b) (i := 31)
  simp only [Nat.shiftRight_eq_div_pow] at h
  exact h
theorem sign_xor (a b S : Nat) (ha : a ≤ 4294967295) (hb : b ≤ 4294967295) (hS : S ≤ 4294967295)
    (hs : (S / 2147483648 % 2 == 1) = ((a / 2147483648 % 2 == 1) ^^ (b / 2147483648 % 2 == 1))) :
    ∃ ww vv : Nat, bits .xor .u32 (a : Int) (b : Int) = (ww : Int) ∧ bits .andNot .u32 (ww : Int) 2147483647 = (vv : Int) ∧ ((vv : Int) != 0) = ((S : Int) != ((S % 2147483648 : Nat) : Int)) := by
  have hx : (a ^^^ b) ≤ 4294967295 := by
    have := Nat.xor_lt_two_pow (x := a) (y := b) (n := 32) (by omega) (by omega)
    omega
  refine ⟨a ^^^ b, (a ^^^ b) / 2147483648 * 2147483648, u32_xor_nat a b (by omega) (by omega), sign_notlow _ hx, ?_⟩
  rw [xor_high]
  have e1 : a / 2147483648 = 0 ∨ a / 2147483648 = 1 := by omega
  have e2 : b / 2147483648 = 0 ∨ b / 2147483648 = 1 := by omega
  have e3 : S / 2147483648 = 0 ∨ S / 2147483648 = 1 := by omega
  have hd : S = S / 2147483648 * 2147483648 + S % 2147483648 := by omega
  have hr : ((S : Int) != ((S % 2147483648 : Nat) : Int)) = (S / 2147483648 % 2 == 1) := by
    rcases e3 with h | h <;> rw [h]
    · rw [show S % 2147483648 = S from by omega]; simp
    · show _ = true
      rw [bne_iff_ne]; omega
  rw [hr, hs]
  rcases e1 with h | h <;> rcases e2 with k | k <;> rw [h, k] <;> rfl

theorem sign_two (a b P Q : Nat) (ha : a ≤ 4294967295) (hb : b ≤ 4294967295) (hP : P ≤ 4294967295) (hQ : Q ≤ 4294967295)
    (hp : (P / 2147483648 % 2 == 1) = ((a / 2147483648 % 2 == 1) ^^ (b / 2147483648 % 2 == 1))) (hq : (Q / 2147483648 % 2 == 1) = ((a / 2147483648 % 2 == 1) ^^ (b / 2147483648 % 2 == 1))) :
    ((Q : Int) != ((Q % 2147483648 : Nat) : Int)) = ((P : Int) != ((P % 2147483648 : Nat) : Int)) := by
  obtain ⟨ww, vv, h1, h2, h3⟩ := sign_xor a b P ha hb hP hp
  obtain ⟨ww', vv', k1, k2, k3⟩ := sign_xor a b Q ha hb hQ hq
  have e1 : ww' = ww := by have := k1.symm.trans h1; omega
  subst e1
  have e2 : vv' = vv := by have := k2.symm.trans h2; omega
  subst e2
  exact k3.symm.trans h3

set_option maxRecDepth 100000 in
set_option maxHeartbeats 2000000 in
theorem nearest_i (a b : Nat) (ha : a ≤ 4294967295) (hb : b ≤ 4294967295) (fa : Fin32 a) (fb : Fin32 b) (hPf : ¬ Fin32 (productW a b)) (w : World) : Calls Try.prog 5 #[.int .u32 (a : Int), .int .u32 (b : Int)] w (Ret w (.bool true)) := by
  have pa := rp_fin a fa
  have pb := rp_fin b fb
  have la := rm_lt a
  have lb := rm_lt b
  have hla : rm a < 268435456 := by omega
  have hlb : rm b < 268435456 := by omega
  have f1 := fun W => finite_any a ha true (decide_eq_true fa) W
  have f2 := fun W => finite_any b hb true (decide_eq_true fb) W
  have r1 := fun W => read_any a ha W
  have r2 := fun W => read_any b hb W
  obtain ⟨P, hP⟩ : ∃ P, productW a b = P := ⟨_, rfl⟩
  have hPl : P ≤ 4294967295 := hP ▸ productW_le a b
  have hPc := fun W => Product_is a b P hP W
  obtain ⟨Q, hQ⟩ : ∃ Q, ratioW a b = Q := ⟨_, rfl⟩
  have hQl : Q ≤ 4294967295 := hQ ▸ ratioW_le a b
  have hQc := fun W => Ratio_is a b Q hQ W
  obtain ⟨R, hR⟩ : ∃ R, rootW a = R := ⟨_, rfl⟩
  have hRc := fun W => Root_is a R ha hR W
  rw [hP] at hPf
  have fp := fun W => finite_any P hPl false (decide_eq_false hPf) W
  by_cases hyn : rm b = 0
  · have hy0 : ((rm b : Int) != 0) = false := by rw [hyn]; rfl
    by_cases hxn : rm a = 0
    · have hx0 : ((rm a : Int) != 0) = false := by rw [hxn]; rfl
      exact nr_iyx a b P Q R (rm a) (rm b) (rp a) (rp b) f1 f2 r1 r2 hPc hQc hRc fp hy0 hx0 w
    · have hx1 : ((rm a : Int) != 0) = true := by rw [bne_iff_ne]; omega
      have hza := bits_low a ha
      by_cases hm : 2147483648 ≤ a
      · have hae : ((a : Int) == ((a % 2147483648 : Nat) : Int)) = false := by rw [beq_eq_false_iff_ne]; omega
        exact nr_iym a b P Q R (rm a) (rm b) (rp a) (rp b) f1 f2 r1 r2 hPc hQc hRc fp hy0 hx1 hxn _ hza hae w
      · have hae : ((a : Int) == ((a % 2147483648 : Nat) : Int)) = true := by rw [beq_iff_eq]; omega
        have h0 : 0 < a % 2147483648 := by
          rcases Nat.eq_zero_or_pos (a % 2147483648) with h | h
          · exact absurd (by unfold rm; rw [if_pos (by omega)]; omega) hxn
          · exact h
        have hsa : (a / 2147483648 % 2 == 1) = false := by rw [beq_eq_false_iff_ne]; omega
        obtain ⟨hRf, hR0, hrb⟩ := root_mid a R fa hsa h0 hR
        have fr := fun W => finite_any R (by omega) true (decide_eq_true (by omega)) W
        have hzr : bits .and .u32 (R : Int) 2147483647 = (R : Int) := by rw [bits_low R (by omega), Nat.mod_eq_of_lt (by omega)]
        have hrv := fun W => halves_any R (by omega) (rm_pos R (by omega)) W
        have pR := rp_fin R (by unfold Fin32; omega)
        have lR := rm_lt R
        have hlr : hlo R < 268435456 := by have := hlo_lt R; omega
        have h4r : 4 * rm R + 2 < 268435456 := by omega
        have wrg : IntKind.i64.wrap (2 * (rp R - 2)) = 2 * (rp R - 2) := IntWalk.i64_in _ (by omega)
        exact nr_iyk a b P Q R (rm a) (rm b) (rp a) (rp b) f1 f2 r1 r2 hPc hQc hRc fp hy0 hx1 hxn _ hza hae fr (by rw [beq_eq_false_iff_ne]; omega) (by omega) hzr _ _ _ _ hrv _ _ _ (wrap_mul _ _ hlr hlr) (wrap_mul _ _ h4r h4r) wrg hrb w
  · have hy1 : ((rm b : Int) != 0) = true := by rw [bne_iff_ne]; omega
    have hzq := bits_low Q hQl
    by_cases hQf : Fin32 Q
    · have fq := fun W => finite_any Q hQl true (decide_eq_true hQf) W
      by_cases hq0 : Q % 2147483648 = 0
      · rw [hq0] at hzq
        by_cases hxn : rm a = 0
        · have hx0 : ((rm a : Int) != 0) = false := by rw [hxn]; rfl
          exact nr_izx a b P Q R (rm a) (rm b) (rp a) (rp b) f1 f2 r1 r2 hPc hQc hRc fp hy1 hyn fq hzq hx0 w
        · have hx1 : ((rm a : Int) != 0) = true := by rw [bne_iff_ne]; omega
          have hza := bits_low a ha
          by_cases hm : 2147483648 ≤ a
          · have hae : ((a : Int) == ((a % 2147483648 : Nat) : Int)) = false := by rw [beq_eq_false_iff_ne]; omega
            exact nr_izm a b P Q R (rm a) (rm b) (rp a) (rp b) f1 f2 r1 r2 hPc hQc hRc fp hy1 hyn fq hzq hx1 hxn _ hza hae w
          · have hae : ((a : Int) == ((a % 2147483648 : Nat) : Int)) = true := by rw [beq_iff_eq]; omega
            have h0 : 0 < a % 2147483648 := by
              rcases Nat.eq_zero_or_pos (a % 2147483648) with h | h
              · exact absurd (by unfold rm; rw [if_pos (by omega)]; omega) hxn
              · exact h
            have hsa : (a / 2147483648 % 2 == 1) = false := by rw [beq_eq_false_iff_ne]; omega
            obtain ⟨hRf, hR0, hrb⟩ := root_mid a R fa hsa h0 hR
            have fr := fun W => finite_any R (by omega) true (decide_eq_true (by omega)) W
            have hzr : bits .and .u32 (R : Int) 2147483647 = (R : Int) := by rw [bits_low R (by omega), Nat.mod_eq_of_lt (by omega)]
            have hrv := fun W => halves_any R (by omega) (rm_pos R (by omega)) W
            have pR := rp_fin R (by unfold Fin32; omega)
            have lR := rm_lt R
            have hlr : hlo R < 268435456 := by have := hlo_lt R; omega
            have h4r : 4 * rm R + 2 < 268435456 := by omega
            have wrg : IntKind.i64.wrap (2 * (rp R - 2)) = 2 * (rp R - 2) := IntWalk.i64_in _ (by omega)
            exact nr_izk a b P Q R (rm a) (rm b) (rp a) (rp b) f1 f2 r1 r2 hPc hQc hRc fp hy1 hyn fq hzq hx1 hxn _ hza hae fr (by rw [beq_eq_false_iff_ne]; omega) (by omega) hzr _ _ _ _ hrv _ _ _ (wrap_mul _ _ hlr hlr) (wrap_mul _ _ h4r h4r) wrg hrb w
      · have hzq0 : ((( Q % 2147483648 : Nat) : Int) != 0) = true := by rw [bne_iff_ne]; omega
        have hzqn : ¬ Q % 2147483648 = 0 := hq0
        obtain ⟨-, -, hsq⟩ := ratio_rung a b Q fa fb (by omega) hQ (by omega)
        obtain ⟨ww, vv, hxr, hnr, hvt⟩ := sign_xor a b Q ha hb hQl hsq
        have hqt : ((Q : Int) != ((Q % 2147483648 : Nat) : Int)) = ((Q : Int) != ((Q % 2147483648 : Nat) : Int)) := rfl
        have hqv := fun W => halves_any Q hQl (rm_pos Q (by omega)) W
        have hqb := fun W => ratio_mid a b Q fa fb (by omega) hQ hQf (by omega) W
        have lQ := rm_lt Q
        have hlq : hlo Q < 268435456 := by have := hlo_lt Q; omega
        have h4q : 4 * rm Q + 2 < 268435456 := by omega
        have wxd : IntKind.i64.wrap (rp a - rp b) = rp a - rp b := IntWalk.i64_in _ (by omega)
        by_cases hxn : rm a = 0
        · have hx0 : ((rm a : Int) != 0) = false := by rw [hxn]; rfl
          exact nr_ikx a b P Q R (rm a) (rm b) (rp a) (rp b) f1 f2 r1 r2 hPc hQc hRc fp hy1 hyn _ ww vv hxr hnr hvt fq _ hzq hzq0 hzqn _ _ _ _ hqv _ _ _ (wrap_mul _ _ hlq hlb) (wrap_mul _ _ h4q hlb) wxd hqb hqt hx0 w
        · have hx1 : ((rm a : Int) != 0) = true := by rw [bne_iff_ne]; omega
          have hza := bits_low a ha
          by_cases hm : 2147483648 ≤ a
          · have hae : ((a : Int) == ((a % 2147483648 : Nat) : Int)) = false := by rw [beq_eq_false_iff_ne]; omega
            exact nr_ikm a b P Q R (rm a) (rm b) (rp a) (rp b) f1 f2 r1 r2 hPc hQc hRc fp hy1 hyn _ ww vv hxr hnr hvt fq _ hzq hzq0 hzqn _ _ _ _ hqv _ _ _ (wrap_mul _ _ hlq hlb) (wrap_mul _ _ h4q hlb) wxd hqb hqt hx1 hxn _ hza hae w
          · have hae : ((a : Int) == ((a % 2147483648 : Nat) : Int)) = true := by rw [beq_iff_eq]; omega
            have h0 : 0 < a % 2147483648 := by
              rcases Nat.eq_zero_or_pos (a % 2147483648) with h | h
              · exact absurd (by unfold rm; rw [if_pos (by omega)]; omega) hxn
              · exact h
            have hsa : (a / 2147483648 % 2 == 1) = false := by rw [beq_eq_false_iff_ne]; omega
            obtain ⟨hRf, hR0, hrb⟩ := root_mid a R fa hsa h0 hR
            have fr := fun W => finite_any R (by omega) true (decide_eq_true (by omega)) W
            have hzr : bits .and .u32 (R : Int) 2147483647 = (R : Int) := by rw [bits_low R (by omega), Nat.mod_eq_of_lt (by omega)]
            have hrv := fun W => halves_any R (by omega) (rm_pos R (by omega)) W
            have pR := rp_fin R (by unfold Fin32; omega)
            have lR := rm_lt R
            have hlr : hlo R < 268435456 := by have := hlo_lt R; omega
            have h4r : 4 * rm R + 2 < 268435456 := by omega
            have wrg : IntKind.i64.wrap (2 * (rp R - 2)) = 2 * (rp R - 2) := IntWalk.i64_in _ (by omega)
            exact nr_ikk a b P Q R (rm a) (rm b) (rp a) (rp b) f1 f2 r1 r2 hPc hQc hRc fp hy1 hyn _ ww vv hxr hnr hvt fq _ hzq hzq0 hzqn _ _ _ _ hqv _ _ _ (wrap_mul _ _ hlq hlb) (wrap_mul _ _ h4q hlb) wxd hqb hqt hx1 hxn _ hza hae fr (by rw [beq_eq_false_iff_ne]; omega) (by omega) hzr _ _ _ _ hrv _ _ _ (wrap_mul _ _ hlr hlr) (wrap_mul _ _ h4r h4r) wrg hrb w
    · have fq := fun W => finite_any Q hQl false (decide_eq_false hQf) W
      by_cases hxn : rm a = 0
      · have hx0 : ((rm a : Int) != 0) = false := by rw [hxn]; rfl
        exact nr_iix a b P Q R (rm a) (rm b) (rp a) (rp b) f1 f2 r1 r2 hPc hQc hRc fp hy1 hyn fq hx0 w
      · have hx1 : ((rm a : Int) != 0) = true := by rw [bne_iff_ne]; omega
        have hza := bits_low a ha
        by_cases hm : 2147483648 ≤ a
        · have hae : ((a : Int) == ((a % 2147483648 : Nat) : Int)) = false := by rw [beq_eq_false_iff_ne]; omega
          exact nr_iim a b P Q R (rm a) (rm b) (rp a) (rp b) f1 f2 r1 r2 hPc hQc hRc fp hy1 hyn fq hx1 hxn _ hza hae w
        · have hae : ((a : Int) == ((a % 2147483648 : Nat) : Int)) = true := by rw [beq_iff_eq]; omega
          have h0 : 0 < a % 2147483648 := by
            rcases Nat.eq_zero_or_pos (a % 2147483648) with h | h
            · exact absurd (by unfold rm; rw [if_pos (by omega)]; omega) hxn
            · exact h
          have hsa : (a / 2147483648 % 2 == 1) = false := by rw [beq_eq_false_iff_ne]; omega
          obtain ⟨hRf, hR0, hrb⟩ := root_mid a R fa hsa h0 hR
          have fr := fun W => finite_any R (by omega) true (decide_eq_true (by omega)) W
          have hzr : bits .and .u32 (R : Int) 2147483647 = (R : Int) := by rw [bits_low R (by omega), Nat.mod_eq_of_lt (by omega)]
          have hrv := fun W => halves_any R (by omega) (rm_pos R (by omega)) W
          have pR := rp_fin R (by unfold Fin32; omega)
          have lR := rm_lt R
          have hlr : hlo R < 268435456 := by have := hlo_lt R; omega
          have h4r : 4 * rm R + 2 < 268435456 := by omega
          have wrg : IntKind.i64.wrap (2 * (rp R - 2)) = 2 * (rp R - 2) := IntWalk.i64_in _ (by omega)
          exact nr_iik a b P Q R (rm a) (rm b) (rp a) (rp b) f1 f2 r1 r2 hPc hQc hRc fp hy1 hyn fq hx1 hxn _ hza hae fr (by rw [beq_eq_false_iff_ne]; omega) (by omega) hzr _ _ _ _ hrv _ _ _ (wrap_mul _ _ hlr hlr) (wrap_mul _ _ h4r h4r) wrg hrb w

set_option maxRecDepth 100000 in
set_option maxHeartbeats 2000000 in
theorem nearest_z (a b : Nat) (ha : a ≤ 4294967295) (hb : b ≤ 4294967295) (fa : Fin32 a) (fb : Fin32 b) (hPf : Fin32 (productW a b)) (hP0 : productW a b % 2147483648 = 0) (w : World) : Calls Try.prog 5 #[.int .u32 (a : Int), .int .u32 (b : Int)] w (Ret w (.bool true)) := by
  have pa := rp_fin a fa
  have pb := rp_fin b fb
  have la := rm_lt a
  have lb := rm_lt b
  have hla : rm a < 268435456 := by omega
  have hlb : rm b < 268435456 := by omega
  have f1 := fun W => finite_any a ha true (decide_eq_true fa) W
  have f2 := fun W => finite_any b hb true (decide_eq_true fb) W
  have r1 := fun W => read_any a ha W
  have r2 := fun W => read_any b hb W
  obtain ⟨P, hP⟩ : ∃ P, productW a b = P := ⟨_, rfl⟩
  have hPl : P ≤ 4294967295 := hP ▸ productW_le a b
  have hPc := fun W => Product_is a b P hP W
  obtain ⟨Q, hQ⟩ : ∃ Q, ratioW a b = Q := ⟨_, rfl⟩
  have hQl : Q ≤ 4294967295 := hQ ▸ ratioW_le a b
  have hQc := fun W => Ratio_is a b Q hQ W
  obtain ⟨R, hR⟩ : ∃ R, rootW a = R := ⟨_, rfl⟩
  have hRc := fun W => Root_is a R ha hR W
  rw [hP] at hPf hP0
  have fp := fun W => finite_any P hPl true (decide_eq_true hPf) W
  have hzp := bits_low P hPl
  rw [hP0] at hzp
  by_cases hyn : rm b = 0
  · have hy0 : ((rm b : Int) != 0) = false := by rw [hyn]; rfl
    by_cases hxn : rm a = 0
    · have hx0 : ((rm a : Int) != 0) = false := by rw [hxn]; rfl
      exact nr_zyx a b P Q R (rm a) (rm b) (rp a) (rp b) f1 f2 r1 r2 hPc hQc hRc fp hzp hy0 hx0 w
    · have hx1 : ((rm a : Int) != 0) = true := by rw [bne_iff_ne]; omega
      have hza := bits_low a ha
      by_cases hm : 2147483648 ≤ a
      · have hae : ((a : Int) == ((a % 2147483648 : Nat) : Int)) = false := by rw [beq_eq_false_iff_ne]; omega
        exact nr_zym a b P Q R (rm a) (rm b) (rp a) (rp b) f1 f2 r1 r2 hPc hQc hRc fp hzp hy0 hx1 hxn _ hza hae w
      · have hae : ((a : Int) == ((a % 2147483648 : Nat) : Int)) = true := by rw [beq_iff_eq]; omega
        have h0 : 0 < a % 2147483648 := by
          rcases Nat.eq_zero_or_pos (a % 2147483648) with h | h
          · exact absurd (by unfold rm; rw [if_pos (by omega)]; omega) hxn
          · exact h
        have hsa : (a / 2147483648 % 2 == 1) = false := by rw [beq_eq_false_iff_ne]; omega
        obtain ⟨hRf, hR0, hrb⟩ := root_mid a R fa hsa h0 hR
        have fr := fun W => finite_any R (by omega) true (decide_eq_true (by omega)) W
        have hzr : bits .and .u32 (R : Int) 2147483647 = (R : Int) := by rw [bits_low R (by omega), Nat.mod_eq_of_lt (by omega)]
        have hrv := fun W => halves_any R (by omega) (rm_pos R (by omega)) W
        have pR := rp_fin R (by unfold Fin32; omega)
        have lR := rm_lt R
        have hlr : hlo R < 268435456 := by have := hlo_lt R; omega
        have h4r : 4 * rm R + 2 < 268435456 := by omega
        have wrg : IntKind.i64.wrap (2 * (rp R - 2)) = 2 * (rp R - 2) := IntWalk.i64_in _ (by omega)
        exact nr_zyk a b P Q R (rm a) (rm b) (rp a) (rp b) f1 f2 r1 r2 hPc hQc hRc fp hzp hy0 hx1 hxn _ hza hae fr (by rw [beq_eq_false_iff_ne]; omega) (by omega) hzr _ _ _ _ hrv _ _ _ (wrap_mul _ _ hlr hlr) (wrap_mul _ _ h4r h4r) wrg hrb w
  · have hy1 : ((rm b : Int) != 0) = true := by rw [bne_iff_ne]; omega
    have hzq := bits_low Q hQl
    by_cases hQf : Fin32 Q
    · have fq := fun W => finite_any Q hQl true (decide_eq_true hQf) W
      by_cases hq0 : Q % 2147483648 = 0
      · rw [hq0] at hzq
        by_cases hxn : rm a = 0
        · have hx0 : ((rm a : Int) != 0) = false := by rw [hxn]; rfl
          exact nr_zzx a b P Q R (rm a) (rm b) (rp a) (rp b) f1 f2 r1 r2 hPc hQc hRc fp hzp hy1 hyn fq hzq hx0 w
        · have hx1 : ((rm a : Int) != 0) = true := by rw [bne_iff_ne]; omega
          have hza := bits_low a ha
          by_cases hm : 2147483648 ≤ a
          · have hae : ((a : Int) == ((a % 2147483648 : Nat) : Int)) = false := by rw [beq_eq_false_iff_ne]; omega
            exact nr_zzm a b P Q R (rm a) (rm b) (rp a) (rp b) f1 f2 r1 r2 hPc hQc hRc fp hzp hy1 hyn fq hzq hx1 hxn _ hza hae w
          · have hae : ((a : Int) == ((a % 2147483648 : Nat) : Int)) = true := by rw [beq_iff_eq]; omega
            have h0 : 0 < a % 2147483648 := by
              rcases Nat.eq_zero_or_pos (a % 2147483648) with h | h
              · exact absurd (by unfold rm; rw [if_pos (by omega)]; omega) hxn
              · exact h
            have hsa : (a / 2147483648 % 2 == 1) = false := by rw [beq_eq_false_iff_ne]; omega
            obtain ⟨hRf, hR0, hrb⟩ := root_mid a R fa hsa h0 hR
            have fr := fun W => finite_any R (by omega) true (decide_eq_true (by omega)) W
            have hzr : bits .and .u32 (R : Int) 2147483647 = (R : Int) := by rw [bits_low R (by omega), Nat.mod_eq_of_lt (by omega)]
            have hrv := fun W => halves_any R (by omega) (rm_pos R (by omega)) W
            have pR := rp_fin R (by unfold Fin32; omega)
            have lR := rm_lt R
            have hlr : hlo R < 268435456 := by have := hlo_lt R; omega
            have h4r : 4 * rm R + 2 < 268435456 := by omega
            have wrg : IntKind.i64.wrap (2 * (rp R - 2)) = 2 * (rp R - 2) := IntWalk.i64_in _ (by omega)
            exact nr_zzk a b P Q R (rm a) (rm b) (rp a) (rp b) f1 f2 r1 r2 hPc hQc hRc fp hzp hy1 hyn fq hzq hx1 hxn _ hza hae fr (by rw [beq_eq_false_iff_ne]; omega) (by omega) hzr _ _ _ _ hrv _ _ _ (wrap_mul _ _ hlr hlr) (wrap_mul _ _ h4r h4r) wrg hrb w
      · have hzq0 : ((( Q % 2147483648 : Nat) : Int) != 0) = true := by rw [bne_iff_ne]; omega
        have hzqn : ¬ Q % 2147483648 = 0 := hq0
        obtain ⟨-, -, hsq⟩ := ratio_rung a b Q fa fb (by omega) hQ (by omega)
        obtain ⟨ww, vv, hxr, hnr, hvt⟩ := sign_xor a b Q ha hb hQl hsq
        have hqt : ((Q : Int) != ((Q % 2147483648 : Nat) : Int)) = ((Q : Int) != ((Q % 2147483648 : Nat) : Int)) := rfl
        have hqv := fun W => halves_any Q hQl (rm_pos Q (by omega)) W
        have hqb := fun W => ratio_mid a b Q fa fb (by omega) hQ hQf (by omega) W
        have lQ := rm_lt Q
        have hlq : hlo Q < 268435456 := by have := hlo_lt Q; omega
        have h4q : 4 * rm Q + 2 < 268435456 := by omega
        have wxd : IntKind.i64.wrap (rp a - rp b) = rp a - rp b := IntWalk.i64_in _ (by omega)
        by_cases hxn : rm a = 0
        · have hx0 : ((rm a : Int) != 0) = false := by rw [hxn]; rfl
          exact nr_zkx a b P Q R (rm a) (rm b) (rp a) (rp b) f1 f2 r1 r2 hPc hQc hRc fp hzp hy1 hyn _ ww vv hxr hnr hvt fq _ hzq hzq0 hzqn _ _ _ _ hqv _ _ _ (wrap_mul _ _ hlq hlb) (wrap_mul _ _ h4q hlb) wxd hqb hqt hx0 w
        · have hx1 : ((rm a : Int) != 0) = true := by rw [bne_iff_ne]; omega
          have hza := bits_low a ha
          by_cases hm : 2147483648 ≤ a
          · have hae : ((a : Int) == ((a % 2147483648 : Nat) : Int)) = false := by rw [beq_eq_false_iff_ne]; omega
            exact nr_zkm a b P Q R (rm a) (rm b) (rp a) (rp b) f1 f2 r1 r2 hPc hQc hRc fp hzp hy1 hyn _ ww vv hxr hnr hvt fq _ hzq hzq0 hzqn _ _ _ _ hqv _ _ _ (wrap_mul _ _ hlq hlb) (wrap_mul _ _ h4q hlb) wxd hqb hqt hx1 hxn _ hza hae w
          · have hae : ((a : Int) == ((a % 2147483648 : Nat) : Int)) = true := by rw [beq_iff_eq]; omega
            have h0 : 0 < a % 2147483648 := by
              rcases Nat.eq_zero_or_pos (a % 2147483648) with h | h
              · exact absurd (by unfold rm; rw [if_pos (by omega)]; omega) hxn
              · exact h
            have hsa : (a / 2147483648 % 2 == 1) = false := by rw [beq_eq_false_iff_ne]; omega
            obtain ⟨hRf, hR0, hrb⟩ := root_mid a R fa hsa h0 hR
            have fr := fun W => finite_any R (by omega) true (decide_eq_true (by omega)) W
            have hzr : bits .and .u32 (R : Int) 2147483647 = (R : Int) := by rw [bits_low R (by omega), Nat.mod_eq_of_lt (by omega)]
            have hrv := fun W => halves_any R (by omega) (rm_pos R (by omega)) W
            have pR := rp_fin R (by unfold Fin32; omega)
            have lR := rm_lt R
            have hlr : hlo R < 268435456 := by have := hlo_lt R; omega
            have h4r : 4 * rm R + 2 < 268435456 := by omega
            have wrg : IntKind.i64.wrap (2 * (rp R - 2)) = 2 * (rp R - 2) := IntWalk.i64_in _ (by omega)
            exact nr_zkk a b P Q R (rm a) (rm b) (rp a) (rp b) f1 f2 r1 r2 hPc hQc hRc fp hzp hy1 hyn _ ww vv hxr hnr hvt fq _ hzq hzq0 hzqn _ _ _ _ hqv _ _ _ (wrap_mul _ _ hlq hlb) (wrap_mul _ _ h4q hlb) wxd hqb hqt hx1 hxn _ hza hae fr (by rw [beq_eq_false_iff_ne]; omega) (by omega) hzr _ _ _ _ hrv _ _ _ (wrap_mul _ _ hlr hlr) (wrap_mul _ _ h4r h4r) wrg hrb w
    · have fq := fun W => finite_any Q hQl false (decide_eq_false hQf) W
      by_cases hxn : rm a = 0
      · have hx0 : ((rm a : Int) != 0) = false := by rw [hxn]; rfl
        exact nr_zix a b P Q R (rm a) (rm b) (rp a) (rp b) f1 f2 r1 r2 hPc hQc hRc fp hzp hy1 hyn fq hx0 w
      · have hx1 : ((rm a : Int) != 0) = true := by rw [bne_iff_ne]; omega
        have hza := bits_low a ha
        by_cases hm : 2147483648 ≤ a
        · have hae : ((a : Int) == ((a % 2147483648 : Nat) : Int)) = false := by rw [beq_eq_false_iff_ne]; omega
          exact nr_zim a b P Q R (rm a) (rm b) (rp a) (rp b) f1 f2 r1 r2 hPc hQc hRc fp hzp hy1 hyn fq hx1 hxn _ hza hae w
        · have hae : ((a : Int) == ((a % 2147483648 : Nat) : Int)) = true := by rw [beq_iff_eq]; omega
          have h0 : 0 < a % 2147483648 := by
            rcases Nat.eq_zero_or_pos (a % 2147483648) with h | h
            · exact absurd (by unfold rm; rw [if_pos (by omega)]; omega) hxn
            · exact h
          have hsa : (a / 2147483648 % 2 == 1) = false := by rw [beq_eq_false_iff_ne]; omega
          obtain ⟨hRf, hR0, hrb⟩ := root_mid a R fa hsa h0 hR
          have fr := fun W => finite_any R (by omega) true (decide_eq_true (by omega)) W
          have hzr : bits .and .u32 (R : Int) 2147483647 = (R : Int) := by rw [bits_low R (by omega), Nat.mod_eq_of_lt (by omega)]
          have hrv := fun W => halves_any R (by omega) (rm_pos R (by omega)) W
          have pR := rp_fin R (by unfold Fin32; omega)
          have lR := rm_lt R
          have hlr : hlo R < 268435456 := by have := hlo_lt R; omega
          have h4r : 4 * rm R + 2 < 268435456 := by omega
          have wrg : IntKind.i64.wrap (2 * (rp R - 2)) = 2 * (rp R - 2) := IntWalk.i64_in _ (by omega)
          exact nr_zik a b P Q R (rm a) (rm b) (rp a) (rp b) f1 f2 r1 r2 hPc hQc hRc fp hzp hy1 hyn fq hx1 hxn _ hza hae fr (by rw [beq_eq_false_iff_ne]; omega) (by omega) hzr _ _ _ _ hrv _ _ _ (wrap_mul _ _ hlr hlr) (wrap_mul _ _ h4r h4r) wrg hrb w

set_option maxRecDepth 100000 in
set_option maxHeartbeats 2000000 in
theorem nearest_k (a b : Nat) (ha : a ≤ 4294967295) (hb : b ≤ 4294967295) (fa : Fin32 a) (fb : Fin32 b) (hPf : Fin32 (productW a b)) (hP0 : ¬ productW a b % 2147483648 = 0) (w : World) : Calls Try.prog 5 #[.int .u32 (a : Int), .int .u32 (b : Int)] w (Ret w (.bool true)) := by
  have pa := rp_fin a fa
  have pb := rp_fin b fb
  have la := rm_lt a
  have lb := rm_lt b
  have hla : rm a < 268435456 := by omega
  have hlb : rm b < 268435456 := by omega
  have f1 := fun W => finite_any a ha true (decide_eq_true fa) W
  have f2 := fun W => finite_any b hb true (decide_eq_true fb) W
  have r1 := fun W => read_any a ha W
  have r2 := fun W => read_any b hb W
  obtain ⟨P, hP⟩ : ∃ P, productW a b = P := ⟨_, rfl⟩
  have hPl : P ≤ 4294967295 := hP ▸ productW_le a b
  have hPc := fun W => Product_is a b P hP W
  obtain ⟨Q, hQ⟩ : ∃ Q, ratioW a b = Q := ⟨_, rfl⟩
  have hQl : Q ≤ 4294967295 := hQ ▸ ratioW_le a b
  have hQc := fun W => Ratio_is a b Q hQ W
  obtain ⟨R, hR⟩ : ∃ R, rootW a = R := ⟨_, rfl⟩
  have hRc := fun W => Root_is a R ha hR W
  rw [hP] at hPf hP0
  have fp := fun W => finite_any P hPl true (decide_eq_true hPf) W
  have hzp := bits_low P hPl
  have hzp0 : ((( P % 2147483648 : Nat) : Int) != 0) = true := by rw [bne_iff_ne]; omega
  have hzpn : ¬ P % 2147483648 = 0 := hP0
  obtain ⟨-, hsp⟩ := product_rung a b P ha hb fa fb hP hPl (by omega)
  obtain ⟨ww, vv, hxr, hnr, hvt⟩ := sign_xor a b P ha hb hPl hsp
  have hpt : ((P : Int) != ((P % 2147483648 : Nat) : Int)) = ((P : Int) != ((P % 2147483648 : Nat) : Int)) := rfl
  have hpv := fun W => halves_any P hPl (rm_pos P (by omega)) W
  have hpb := fun W => product_mid a b P ha hb fa fb hP hPl hPf (by omega) W
  have wxp : IntKind.i64.wrap (rp a + rp b) = rp a + rp b := IntWalk.i64_in _ (by omega)
  by_cases hyn : rm b = 0
  · have hy0 : ((rm b : Int) != 0) = false := by rw [hyn]; rfl
    by_cases hxn : rm a = 0
    · have hx0 : ((rm a : Int) != 0) = false := by rw [hxn]; rfl
      exact nr_kyx a b P Q R (rm a) (rm b) (rp a) (rp b) f1 f2 r1 r2 hPc hQc hRc fp _ hzp hzp0 hzpn _ _ _ _ hpv _ _ (wrap_mul _ _ hla hlb) wxp hpb _ ww vv hpt hxr hnr hvt hy0 hx0 w
    · have hx1 : ((rm a : Int) != 0) = true := by rw [bne_iff_ne]; omega
      have hza := bits_low a ha
      by_cases hm : 2147483648 ≤ a
      · have hae : ((a : Int) == ((a % 2147483648 : Nat) : Int)) = false := by rw [beq_eq_false_iff_ne]; omega
        exact nr_kym a b P Q R (rm a) (rm b) (rp a) (rp b) f1 f2 r1 r2 hPc hQc hRc fp _ hzp hzp0 hzpn _ _ _ _ hpv _ _ (wrap_mul _ _ hla hlb) wxp hpb _ ww vv hpt hxr hnr hvt hy0 hx1 hxn _ hza hae w
      · have hae : ((a : Int) == ((a % 2147483648 : Nat) : Int)) = true := by rw [beq_iff_eq]; omega
        have h0 : 0 < a % 2147483648 := by
          rcases Nat.eq_zero_or_pos (a % 2147483648) with h | h
          · exact absurd (by unfold rm; rw [if_pos (by omega)]; omega) hxn
          · exact h
        have hsa : (a / 2147483648 % 2 == 1) = false := by rw [beq_eq_false_iff_ne]; omega
        obtain ⟨hRf, hR0, hrb⟩ := root_mid a R fa hsa h0 hR
        have fr := fun W => finite_any R (by omega) true (decide_eq_true (by omega)) W
        have hzr : bits .and .u32 (R : Int) 2147483647 = (R : Int) := by rw [bits_low R (by omega), Nat.mod_eq_of_lt (by omega)]
        have hrv := fun W => halves_any R (by omega) (rm_pos R (by omega)) W
        have pR := rp_fin R (by unfold Fin32; omega)
        have lR := rm_lt R
        have hlr : hlo R < 268435456 := by have := hlo_lt R; omega
        have h4r : 4 * rm R + 2 < 268435456 := by omega
        have wrg : IntKind.i64.wrap (2 * (rp R - 2)) = 2 * (rp R - 2) := IntWalk.i64_in _ (by omega)
        exact nr_kyk a b P Q R (rm a) (rm b) (rp a) (rp b) f1 f2 r1 r2 hPc hQc hRc fp _ hzp hzp0 hzpn _ _ _ _ hpv _ _ (wrap_mul _ _ hla hlb) wxp hpb _ ww vv hpt hxr hnr hvt hy0 hx1 hxn _ hza hae fr (by rw [beq_eq_false_iff_ne]; omega) (by omega) hzr _ _ _ _ hrv _ _ _ (wrap_mul _ _ hlr hlr) (wrap_mul _ _ h4r h4r) wrg hrb w
  · have hy1 : ((rm b : Int) != 0) = true := by rw [bne_iff_ne]; omega
    have hzq := bits_low Q hQl
    by_cases hQf : Fin32 Q
    · have fq := fun W => finite_any Q hQl true (decide_eq_true hQf) W
      by_cases hq0 : Q % 2147483648 = 0
      · rw [hq0] at hzq
        by_cases hxn : rm a = 0
        · have hx0 : ((rm a : Int) != 0) = false := by rw [hxn]; rfl
          exact nr_kzx a b P Q R (rm a) (rm b) (rp a) (rp b) f1 f2 r1 r2 hPc hQc hRc fp _ hzp hzp0 hzpn _ _ _ _ hpv _ _ (wrap_mul _ _ hla hlb) wxp hpb _ ww vv hpt hxr hnr hvt hy1 hyn fq hzq hx0 w
        · have hx1 : ((rm a : Int) != 0) = true := by rw [bne_iff_ne]; omega
          have hza := bits_low a ha
          by_cases hm : 2147483648 ≤ a
          · have hae : ((a : Int) == ((a % 2147483648 : Nat) : Int)) = false := by rw [beq_eq_false_iff_ne]; omega
            exact nr_kzm a b P Q R (rm a) (rm b) (rp a) (rp b) f1 f2 r1 r2 hPc hQc hRc fp _ hzp hzp0 hzpn _ _ _ _ hpv _ _ (wrap_mul _ _ hla hlb) wxp hpb _ ww vv hpt hxr hnr hvt hy1 hyn fq hzq hx1 hxn _ hza hae w
          · have hae : ((a : Int) == ((a % 2147483648 : Nat) : Int)) = true := by rw [beq_iff_eq]; omega
            have h0 : 0 < a % 2147483648 := by
              rcases Nat.eq_zero_or_pos (a % 2147483648) with h | h
              · exact absurd (by unfold rm; rw [if_pos (by omega)]; omega) hxn
              · exact h
            have hsa : (a / 2147483648 % 2 == 1) = false := by rw [beq_eq_false_iff_ne]; omega
            obtain ⟨hRf, hR0, hrb⟩ := root_mid a R fa hsa h0 hR
            have fr := fun W => finite_any R (by omega) true (decide_eq_true (by omega)) W
            have hzr : bits .and .u32 (R : Int) 2147483647 = (R : Int) := by rw [bits_low R (by omega), Nat.mod_eq_of_lt (by omega)]
            have hrv := fun W => halves_any R (by omega) (rm_pos R (by omega)) W
            have pR := rp_fin R (by unfold Fin32; omega)
            have lR := rm_lt R
            have hlr : hlo R < 268435456 := by have := hlo_lt R; omega
            have h4r : 4 * rm R + 2 < 268435456 := by omega
            have wrg : IntKind.i64.wrap (2 * (rp R - 2)) = 2 * (rp R - 2) := IntWalk.i64_in _ (by omega)
            exact nr_kzk a b P Q R (rm a) (rm b) (rp a) (rp b) f1 f2 r1 r2 hPc hQc hRc fp _ hzp hzp0 hzpn _ _ _ _ hpv _ _ (wrap_mul _ _ hla hlb) wxp hpb _ ww vv hpt hxr hnr hvt hy1 hyn fq hzq hx1 hxn _ hza hae fr (by rw [beq_eq_false_iff_ne]; omega) (by omega) hzr _ _ _ _ hrv _ _ _ (wrap_mul _ _ hlr hlr) (wrap_mul _ _ h4r h4r) wrg hrb w
      · have hzq0 : ((( Q % 2147483648 : Nat) : Int) != 0) = true := by rw [bne_iff_ne]; omega
        have hzqn : ¬ Q % 2147483648 = 0 := hq0
        obtain ⟨-, -, hsq⟩ := ratio_rung a b Q fa fb (by omega) hQ (by omega)
        have hqt : ((Q : Int) != ((Q % 2147483648 : Nat) : Int)) = ((P : Int) != ((P % 2147483648 : Nat) : Int)) := sign_two a b P Q ha hb hPl hQl hsp hsq
        have hqv := fun W => halves_any Q hQl (rm_pos Q (by omega)) W
        have hqb := fun W => ratio_mid a b Q fa fb (by omega) hQ hQf (by omega) W
        have lQ := rm_lt Q
        have hlq : hlo Q < 268435456 := by have := hlo_lt Q; omega
        have h4q : 4 * rm Q + 2 < 268435456 := by omega
        have wxd : IntKind.i64.wrap (rp a - rp b) = rp a - rp b := IntWalk.i64_in _ (by omega)
        by_cases hxn : rm a = 0
        · have hx0 : ((rm a : Int) != 0) = false := by rw [hxn]; rfl
          exact nr_kkx a b P Q R (rm a) (rm b) (rp a) (rp b) f1 f2 r1 r2 hPc hQc hRc fp _ hzp hzp0 hzpn _ _ _ _ hpv _ _ (wrap_mul _ _ hla hlb) wxp hpb _ ww vv hpt hxr hnr hvt hy1 hyn fq _ hzq hzq0 hzqn _ _ _ _ hqv _ _ _ (wrap_mul _ _ hlq hlb) (wrap_mul _ _ h4q hlb) wxd hqb hqt hx0 w
        · have hx1 : ((rm a : Int) != 0) = true := by rw [bne_iff_ne]; omega
          have hza := bits_low a ha
          by_cases hm : 2147483648 ≤ a
          · have hae : ((a : Int) == ((a % 2147483648 : Nat) : Int)) = false := by rw [beq_eq_false_iff_ne]; omega
            exact nr_kkm a b P Q R (rm a) (rm b) (rp a) (rp b) f1 f2 r1 r2 hPc hQc hRc fp _ hzp hzp0 hzpn _ _ _ _ hpv _ _ (wrap_mul _ _ hla hlb) wxp hpb _ ww vv hpt hxr hnr hvt hy1 hyn fq _ hzq hzq0 hzqn _ _ _ _ hqv _ _ _ (wrap_mul _ _ hlq hlb) (wrap_mul _ _ h4q hlb) wxd hqb hqt hx1 hxn _ hza hae w
          · have hae : ((a : Int) == ((a % 2147483648 : Nat) : Int)) = true := by rw [beq_iff_eq]; omega
            have h0 : 0 < a % 2147483648 := by
              rcases Nat.eq_zero_or_pos (a % 2147483648) with h | h
              · exact absurd (by unfold rm; rw [if_pos (by omega)]; omega) hxn
              · exact h
            have hsa : (a / 2147483648 % 2 == 1) = false := by rw [beq_eq_false_iff_ne]; omega
            obtain ⟨hRf, hR0, hrb⟩ := root_mid a R fa hsa h0 hR
            have fr := fun W => finite_any R (by omega) true (decide_eq_true (by omega)) W
            have hzr : bits .and .u32 (R : Int) 2147483647 = (R : Int) := by rw [bits_low R (by omega), Nat.mod_eq_of_lt (by omega)]
            have hrv := fun W => halves_any R (by omega) (rm_pos R (by omega)) W
            have pR := rp_fin R (by unfold Fin32; omega)
            have lR := rm_lt R
            have hlr : hlo R < 268435456 := by have := hlo_lt R; omega
            have h4r : 4 * rm R + 2 < 268435456 := by omega
            have wrg : IntKind.i64.wrap (2 * (rp R - 2)) = 2 * (rp R - 2) := IntWalk.i64_in _ (by omega)
            exact nr_kkk a b P Q R (rm a) (rm b) (rp a) (rp b) f1 f2 r1 r2 hPc hQc hRc fp _ hzp hzp0 hzpn _ _ _ _ hpv _ _ (wrap_mul _ _ hla hlb) wxp hpb _ ww vv hpt hxr hnr hvt hy1 hyn fq _ hzq hzq0 hzqn _ _ _ _ hqv _ _ _ (wrap_mul _ _ hlq hlb) (wrap_mul _ _ h4q hlb) wxd hqb hqt hx1 hxn _ hza hae fr (by rw [beq_eq_false_iff_ne]; omega) (by omega) hzr _ _ _ _ hrv _ _ _ (wrap_mul _ _ hlr hlr) (wrap_mul _ _ h4r h4r) wrg hrb w
    · have fq := fun W => finite_any Q hQl false (decide_eq_false hQf) W
      by_cases hxn : rm a = 0
      · have hx0 : ((rm a : Int) != 0) = false := by rw [hxn]; rfl
        exact nr_kix a b P Q R (rm a) (rm b) (rp a) (rp b) f1 f2 r1 r2 hPc hQc hRc fp _ hzp hzp0 hzpn _ _ _ _ hpv _ _ (wrap_mul _ _ hla hlb) wxp hpb _ ww vv hpt hxr hnr hvt hy1 hyn fq hx0 w
      · have hx1 : ((rm a : Int) != 0) = true := by rw [bne_iff_ne]; omega
        have hza := bits_low a ha
        by_cases hm : 2147483648 ≤ a
        · have hae : ((a : Int) == ((a % 2147483648 : Nat) : Int)) = false := by rw [beq_eq_false_iff_ne]; omega
          exact nr_kim a b P Q R (rm a) (rm b) (rp a) (rp b) f1 f2 r1 r2 hPc hQc hRc fp _ hzp hzp0 hzpn _ _ _ _ hpv _ _ (wrap_mul _ _ hla hlb) wxp hpb _ ww vv hpt hxr hnr hvt hy1 hyn fq hx1 hxn _ hza hae w
        · have hae : ((a : Int) == ((a % 2147483648 : Nat) : Int)) = true := by rw [beq_iff_eq]; omega
          have h0 : 0 < a % 2147483648 := by
            rcases Nat.eq_zero_or_pos (a % 2147483648) with h | h
            · exact absurd (by unfold rm; rw [if_pos (by omega)]; omega) hxn
            · exact h
          have hsa : (a / 2147483648 % 2 == 1) = false := by rw [beq_eq_false_iff_ne]; omega
          obtain ⟨hRf, hR0, hrb⟩ := root_mid a R fa hsa h0 hR
          have fr := fun W => finite_any R (by omega) true (decide_eq_true (by omega)) W
          have hzr : bits .and .u32 (R : Int) 2147483647 = (R : Int) := by rw [bits_low R (by omega), Nat.mod_eq_of_lt (by omega)]
          have hrv := fun W => halves_any R (by omega) (rm_pos R (by omega)) W
          have pR := rp_fin R (by unfold Fin32; omega)
          have lR := rm_lt R
          have hlr : hlo R < 268435456 := by have := hlo_lt R; omega
          have h4r : 4 * rm R + 2 < 268435456 := by omega
          have wrg : IntKind.i64.wrap (2 * (rp R - 2)) = 2 * (rp R - 2) := IntWalk.i64_in _ (by omega)
          exact nr_kik a b P Q R (rm a) (rm b) (rp a) (rp b) f1 f2 r1 r2 hPc hQc hRc fp _ hzp hzp0 hzpn _ _ _ _ hpv _ _ (wrap_mul _ _ hla hlb) wxp hpb _ ww vv hpt hxr hnr hvt hy1 hyn fq hx1 hxn _ hza hae fr (by rw [beq_eq_false_iff_ne]; omega) (by omega) hzr _ _ _ _ hrv _ _ _ (wrap_mul _ _ hlr hlr) (wrap_mul _ _ h4r h4r) wrg hrb w

theorem near_law (a b : Nat) (ha : a ≤ 4294967295) (hb : b ≤ 4294967295) (w : World) :
    Calls Try.prog 5 #[.int .u32 (a : Int), .int .u32 (b : Int)] w (Ret w (.bool true)) := by
  by_cases fa : Fin32 a
  · by_cases fb : Fin32 b
    · by_cases hPf : Fin32 (productW a b)
      · by_cases hP0 : productW a b % 2147483648 = 0
        · exact nearest_z a b ha hb fa fb hPf hP0 w
        · exact nearest_k a b ha hb fa fb hPf hP0 w
      · exact nearest_i a b ha hb fa fb hPf w
    · exact nr_inf2 a b (fun W => finite_any a ha true (decide_eq_true fa) W) (fun W => finite_any b hb false (decide_eq_false fb) W) w
  · exact nr_inf1 a b (fun W => finite_any a ha false (decide_eq_false fa) W) w
end Go.Proofs.Ytllchfdddfmjbaa
