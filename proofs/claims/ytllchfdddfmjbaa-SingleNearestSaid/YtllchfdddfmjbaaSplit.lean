/- Contracts of package single: Split, signed, laid, Join. -/
import Derived.Test.YtllchfdddfmjbaaStep
import Derived.Test.YtllchfdddfmjbaaBel
import Derived.Deep.RegionHeld3
namespace Go.Proofs.Ytllchfdddfmjbaa
open Go.RowKit Ieee

theorem bel_1 (w : World) (o : Obj) {w1 : World} (h : Below (w.alloc o).heap.size (w.alloc o) w1) : Below w.heap.size w w1 :=
  bs_step (bs_alloc (Below.refl _ _) _) h
/-- Parts, as package api lays them. -/
def pval (s : Int) (m : Bool) (n : Int) (p : Int) : Value := .agg #[.int .u8 s, .bool m, .int .u32 n, .int .i64 p]
def parD : Datum → Value
  | .number s m p => pval 3 s m p
  | .infinity s => pval 2 s 0 0
  | .nan _ _ => pval 1 false 0 0

theorem and32 (x k : Nat) (hx : x < 4294967296) (m : Nat) (hm : m = 2 ^ k - 1) (hm2 : m < 4294967296) : bits .and .u32 (x : Int) (m : Int) = ((x % 2 ^ k : Nat) : Int) := by
  rw [u32_and_nat _ _ hx hm2, hm, Nat.and_two_pow_sub_one_eq_mod]

theorem parts_of (a : Nat) :
    let E := a / 8388608 % 256
    let F := a % 8388608
    let s := a / 2147483648 % 2 == 1
    (E = 255 → F ≠ 0 → parD (single.read a) = pval 1 false 0 0) ∧ (E = 255 → F = 0 → parD (single.read a) = pval 2 s 0 0) ∧
    (E = 0 → parD (single.read a) = pval 3 s F (-149)) ∧ (E ≠ 0 → E ≠ 255 → parD (single.read a) = pval 3 s (F + 8388608 : Nat) ((-149) + E - 1)) := by
  intro E F s
  have hb : single.binade = 8388608 := by decide
  have hl : single.leastPlace = -149 := by decide
  have hr : a % 2147483648 = E * 8388608 + F := by simp only [E, F]; omega
  have hE : E < 256 := Nat.mod_lt _ (by omega)
  have hF : F < 8388608 := Nat.mod_lt _ (by omega)
  unfold Format.read
  rw [single_sign, hb, single_inf, hl, hr]
  simp only
  refine ⟨fun h1 h2 => ?_, fun h1 h2 => ?_, fun h1 => ?_, fun h1 h2 => ?_⟩
  · rw [h1, if_neg (by omega), if_neg (by omega), if_neg (by omega)]; rfl
  · rw [h1, h2, if_neg (by omega), if_neg (by omega), if_pos (by omega)]; rfl
  · rw [h1, if_pos (by omega), Nat.zero_mul, Nat.zero_add]; rfl
  · rw [if_neg (by omega), if_pos (by omega)]
    have e1 : (E * 8388608 + F) % 8388608 = F := by omega
    have e2 : (E * 8388608 + F) / 8388608 = E := by omega
    rw [e1, e2]
    have e3 : ((-149 : Int) + ((E - 1 : Nat) : Int)) = -149 + E - 1 := by omega
    rw [e3, Nat.add_comm]
    rfl

set_option maxHeartbeats 1000000 in
set_option maxRecDepth 100000 in
theorem Split_any (a : Nat) (ha : a ≤ 4294967295) (w : World) : Calls Try.prog 18 #[.int .u32 (a : Int)] w (Ret w (parD (single.read a))) := by
  have hrp := parts_of a
  simp only at hrp
  have hn := fun t ht W => snone_any a ha t ht W
  obtain ⟨F, hF⟩ : ∃ F, F = a % 8388608 := ⟨_, rfl⟩
  obtain ⟨E, hE⟩ : ∃ E, E = a / 8388608 % 256 := ⟨_, rfl⟩
  obtain ⟨s, hs⟩ : ∃ s, s = (a / 2147483648 % 2 == 1) := ⟨_, rfl⟩
  have b1 : bits .and .u32 ((a : Int) / 8388608) 255 = (E : Int) := by
    rw [hE, show (a : Int) / 8388608 = ((a / 8388608 : Nat) : Int) from by omega]; exact and32 _ 8 (by omega) 255 rfl (by omega)
  have b2 : bits .and .u32 (a : Int) 8388607 = (F : Int) := by rw [hF]; exact and32 _ 23 (by omega) 8388607 rfl (by omega)
  have hr : a % 2147483648 = E * 8388608 + F := by omega
  have hE2 : E ≤ 255 := by omega
  have hF2 : F ≤ 8388607 := by omega
  have b3 : bits .and .u32 (a : Int) 2147483648 = if s then 2147483648 else 0 := by
    rw [bits_sign a ha, hs]
    by_cases h : a / 2147483648 = 1
    · rw [h]; rfl
    · rw [show a / 2147483648 = 0 from by omega]; rfl
  rw [← hs, ← hF, ← hE] at hrp
  rw [hr] at hn
  clear hs hr hE hF
  by_cases h1 : E = 255
  · by_cases h2 : F = 0
    · have HN := Lib.hid (hn false (decide_eq_false (by omega)))
      have HR := Lib.hid (hrp.2.1 h1 h2)
      subst h1 h2
      clear hrp hn
      rw [HR.out]
      cases s
      all_goals
        go_enter Try.func18, Try.ntmps18
        go_wp2_with (go_at_call 42; refine (HN.out _).mono ?_; rintro e w' ⟨rfl, rfl⟩)
        exact bodyPost_ret (v := pval 2 _ 0 0) (by simp [results, Try.results18, go_sem, pval]) rfl ⟨rfl, bs_alloc (Below.refl _ _) _⟩
    · have HN := Lib.hid (hn true (decide_eq_true (by omega)))
      have HR := Lib.hid (hrp.1 h1 h2)
      subst h1
      clear hrp hn
      rw [HR.out]
      cases s
      all_goals
        go_enter Try.func18, Try.ntmps18
        go_wp2_with (go_at_call 42; refine (HN.out _).mono ?_; rintro e w' ⟨rfl, rfl⟩)
        exact bodyPost_ret (v := pval 1 false 0 0) (by simp [results, Try.results18, go_sem, pval]) rfl ⟨rfl, bs_alloc (Below.refl _ _) _⟩
  · have HN := Lib.hid (hn false (decide_eq_false (by omega)))
    have e1 : ((E : Int) == 255) = false := by rw [beq_eq_false_iff_ne]; omega
    by_cases h2 : E = 0
    · have HR := Lib.hid (hrp.2.2.1 h2)
      subst h2
      clear hrp hn e1 h1
      rw [HR.out]
      cases s
      all_goals
        go_enter Try.func18, Try.ntmps18
        go_wp2_with (go_at_call 42; refine (HN.out _).mono ?_; rintro e w' ⟨rfl, rfl⟩)
        exact bodyPost_ret (v := pval 3 _ F (-149)) (by simp [results, Try.results18, go_sem, pval]) rfl ⟨rfl, bs_alloc (Below.refl _ _) _⟩
    · have HR := Lib.hid (show parD (single.read a) = pval 3 s (8388608 + (F : Int)) ((E : Int) - 150) from by rw [hrp.2.2.2 h2 h1]; unfold pval; rw [show ((F + 8388608 : Nat) : Int) = 8388608 + F from by omega, show (-149 : Int) + E - 1 = E - 150 from by omega])
      have e2 : ((E : Int) == 0) = false := by rw [beq_eq_false_iff_ne]; omega
      clear hrp hn h1 h2
      rw [HR.out]
      cases s
      all_goals
        go_enter Try.func18, Try.ntmps18
        go_wp2_with (go_at_call 42; refine (HN.out _).mono ?_; rintro e w' ⟨rfl, rfl⟩)
        exact bodyPost_ret (v := pval 3 _ (8388608 + (F : Int)) ((E : Int) - 150)) (by simp [results, Try.results18, go_sem, pval]) rfl ⟨rfl, bs_alloc (Below.refl _ _) _⟩
end Go.Proofs.Ytllchfdddfmjbaa
