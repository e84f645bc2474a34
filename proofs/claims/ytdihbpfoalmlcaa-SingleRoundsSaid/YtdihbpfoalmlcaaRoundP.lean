/- Helpers on the program's Round. -/
import Derived.Test.YtdihbpfoalmlcaaLen
import Derived.Test.YtdihbpfoalmlcaaJoin
import Derived.Test.YtdihbpfoalmlcaaRoundM2
import Derived.Test.YtdihbpfoalmlcaaWords
namespace Go.Proofs.Ytdihbpfoalmlcaa
open Go.RowKit Ieee
set_option linter.unusedVariables false

theorem sh_l (x r q : Nat) (hq : q ≤ 64) (h : x * 2 ^ q = r) (hr : r < 18446744073709551616) (W : World) : Sem.run Try.prog (Op.shift .shl .u64 (x : Int) .i64 (q : Int)) W = .ok (.int .u64 (r : Int)) W := by
  rw [shift_shl_any .u64 .i64 (x : Int) (q : Int) (by omega)]
  show Result.ok (Value.int .u64 (IntKind.u64.wrap ((x : Int) * 2 ^ min (q : Int).toNat 64))) W = _
  rw [Int.toNat_natCast, Nat.min_eq_left hq, show (x : Int) * 2 ^ q = ((x * 2 ^ q : Nat) : Int) from by rw [Int.natCast_mul, Int.natCast_pow]; rfl, h, IntKind.wrap_u64]
  congr 2
  omega
theorem sh_r (x r q : Nat) (hq : q ≤ 64) (h : x / 2 ^ q = r) (W : World) : Sem.run Try.prog (Op.shift .shr .u64 (x : Int) .i64 (q : Int)) W = .ok (.int .u64 (r : Int)) W := by
  rw [shift_shr_any .u64 .i64 (x : Int) (q : Int) (by omega)]
  show Result.ok (Value.int .u64 ((x : Int) / 2 ^ min (q : Int).toNat 64)) W = _
  rw [Int.toNat_natCast, Nat.min_eq_left hq, show (x : Int) / 2 ^ q = ((x / 2 ^ q : Nat) : Int) from by rw [Int.natCast_ediv, Int.natCast_pow]; rfl, h]

theorem laid_inf (m : Nat) (k : Int) (hm : 8388608 ≤ m) (hk : 105 ≤ k) (hk2 : k ≤ 100000) (w : World) : Calls Try.prog 60 #[.int .u32 (m : Int), .int .i64 k] w fun e w' => e = .returned (.int .u32 (2139095040 : Nat)) ∧ w = w' := by
  have hd : decide ((m : Int) < 8388608) = false := decide_eq_false (by omega)
  have hw : IntKind.i64.wrap (k + 150) = k + 150 := IntWalk.i64_in _ (by omega)
  have hd2 : decide ((255 : Int) ≤ k + 150) = true := decide_eq_true (by omega)
  clear hm
  go_enter Try.func60, Try.ntmps60
  go_wp2
  go_ret
  exact ⟨rfl, rfl⟩

theorem sgB_eq (s : Bool) : sgB s = sgnW s := by cases s <;> rfl
/-- What Round lays down is the value held. -/
theorem laid_word (s : Bool) (kept : Nat) (k : Int) (hk : kept < 16777216) (hlow : -149 < k → 8388608 ≤ kept) (h1 : -149 ≤ k) (h2 : k ≤ 100000) :
    ∃ L : Nat, L < 2147483648 ∧ wordD (heldD single s kept k) = sgB s + L ∧ ∀ W, Calls Try.prog 60 #[.int .u32 (kept : Int), .int .i64 k] W fun e w' => e = .returned (.int .u32 (L : Nat)) ∧ W = w' := by
  by_cases hs : kept < 8388608
  · have hk149 : k = -149 := by
      by_cases h : -149 < k
      · have := hlow h; omega
      · omega
    refine ⟨kept, by omega, ?_, fun W => laid_low kept k hs W⟩
    unfold heldD
    rw [s_high, if_neg (by omega), sgB_eq]
    simp only [wordD]
    rw [if_pos hs]
  · by_cases hh : k ≤ 104
    · obtain ⟨e, he⟩ : ∃ e : Nat, k + 150 = e := Int.eq_ofNat_of_zero_le (by omega)
      refine ⟨e * 8388608 + kept % 8388608, by omega, ?_, fun W => laid_high kept e k (by omega) (by omega) he (by omega) W⟩
      unfold heldD
      rw [s_high, if_neg (by omega), sgB_eq]
      simp only [wordD]
      rw [if_neg hs, show (k + 150).toNat = e from by omega, show kept - 8388608 = kept % 8388608 from by omega]
    · refine ⟨2139095040, by omega, ?_, fun W => laid_inf kept k (by omega) (by omega) h2 W⟩
      unfold heldD
      rw [s_high, if_pos (by omega), sgB_eq]
      rfl
end Go.Proofs.Ytdihbpfoalmlcaa
