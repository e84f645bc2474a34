/- Plain law: the reference's root is the model's; contract of Root, joined; contract of Roots. -/
import Derived.Test.YtdihbpfoalmlcaaRefRoot
import Derived.Test.YtdihbpfoalmlcaaRootB
namespace Go.Proofs.Ytdihbpfoalmlcaa
open Go.RowKit Ieee

theorem isqrt (n : Nat) : ∃ q, q * q ≤ n ∧ n < (q + 1) * (q + 1) := ⟨_, rootFrom_is n⟩

theorem root_word (m q sh : Nat) (i e : Int) (hm : 0 < m) (hm2 : m < 16777216) (hsh : 128 ≤ sh) (he : i - sh = 2 * e) (h1 : q * q ≤ m * 2 ^ sh) (h2 : m * 2 ^ sh < (q + 1) * (q + 1)) :
    resD ((Datum.number false m i).root 25) = single.read (single.nearest false (if (!(q * q == m * 2 ^ sh)) then 2 * q + 1 else q) (if (!(q * q == m * 2 ^ sh)) then e - 1 else e)) := by
  obtain ⟨R, e1, e2, e3⟩ := sqrt_rung single (by decide) m i hm (by rw [s_bin]; omega)
  have hq : 2 ^ (single.fractionBits + 1) ≤ q := by
    refine Nat.le_of_not_lt fun h => ?_
    have a1 : (q + 1) * (q + 1) ≤ 2 ^ 24 * 2 ^ 24 := Nat.mul_le_mul h h
    have a2 : 2 ^ 128 ≤ m * 2 ^ sh := Nat.le_trans (Nat.pow_le_pow_right (by omega) hsh) (Nat.le_mul_of_pos_left _ hm)
    have a3 : (2 : Nat) ^ 24 * 2 ^ 24 ≤ 2 ^ 128 := by decide
    omega
  have key : ∀ z, (z = if q * q = m * 2 ^ sh then 0 else 1) → rungOf single (2 * q + z) (e - 1) = R := fun z hz => by
    refine rung_unique (rungOf_le_inf _ _ _) e2 fun r hr => ?_
    rw [stickyR single (by decide) (m * 2 ^ sh) q z e h1 h2 hz hq r hr, e3 r hr, ← he]
    exact uptoS_scale single m i r sh
  have hres : resD ((Datum.number false m i).root 25) = single.read (single.word false R) := by
    have e1' : ((Datum.number false m i).root 25).map single.write = some (single.word false R) := e1
    cases hd : (Datum.number false m i).root 25 with
    | none => rw [hd] at e1'; cases e1'
    | some d =>
      rw [hd] at e1'
      injection e1' with e1'
      unfold resD
      simp only
      rw [e1']
  rw [hres, nearest_eq]
  by_cases hz : q * q = m * 2 ^ sh
  · have hb : (!(q * q == m * 2 ^ sh)) = false := by rw [hz]; simp
    rw [hb, if_neg Bool.false_ne_true, if_neg Bool.false_ne_true, ← rungOf_double single (by decide)]
    have := key 0 (by rw [if_pos hz])
    rw [Nat.add_zero] at this
    rw [this]
  · have hb : (!(q * q == m * 2 ^ sh)) = true := by rw [Bool.not_eq_true', beq_eq_false_iff_ne]; exact hz
    rw [hb, if_pos rfl, if_pos rfl, key 1 (by rw [if_neg hz])]

theorem rootD_pos (d : Datum) (hd : Can d) (hz : d.isZero = false) (w : World) : Calls Try.prog 63 #[frm, encD d] w (Ret w (encD (resD (d.root 25)))) := by
  have hinf : ∀ s : Bool, resD (some (.infinity s)) = .infinity s := fun s => read_inf single (by decide) s
  cases d with
  | nan s x => exact root_nan w
  | infinity s =>
    cases s with
    | true => exact root_minf w
    | false =>
      rw [show (Datum.infinity false).root 25 = some (.infinity false) from rfl, hinf]
      exact root_inf w
  | number s m i =>
    obtain ⟨h1, h2, h3⟩ := hd
    cases m with
    | zero => cases hz
    | succ m =>
      cases s with
      | true =>
        have hr : (Datum.number true (m + 1) i).root 25 = none := by
          unfold Datum.root
          simp only
          rw [if_neg (by omega), if_pos trivial]
        rw [hr]
        exact root_minus m i w
      | false =>
        by_cases hpar : i % 2 = 0
        · obtain ⟨q, hq1, hq2⟩ := isqrt ((m + 1) * 2 ^ 128)
          obtain ⟨e, he⟩ : ∃ e : Int, i - 128 = 2 * e := ⟨(i - 128) / 2, by omega⟩
          rw [root_word (m + 1) q 128 i e (by omega) h1 (by omega) he hq1 hq2]
          obtain ⟨z, hz⟩ : ∃ z, (!(q * q == (m + 1) * 2 ^ 128)) = z := ⟨_, rfl⟩
          rw [hz]
          cases z
          · rw [if_neg Bool.false_ne_true, if_neg Bool.false_ne_true]
            exact root_num_128_false (m + 1) q i e h1 (by omega) h2 h3 he hpar hq1 hq2 hz w
          · rw [if_pos rfl, if_pos rfl]
            exact root_num_128_true (m + 1) q i e h1 (by omega) h2 h3 he hpar hq1 hq2 hz w
        · obtain ⟨q, hq1, hq2⟩ := isqrt ((m + 1) * 2 ^ 129)
          obtain ⟨e, he⟩ : ∃ e : Int, i - 129 = 2 * e := ⟨(i - 129) / 2, by omega⟩
          rw [root_word (m + 1) q 129 i e (by omega) h1 (by omega) he hq1 hq2]
          obtain ⟨z, hz⟩ : ∃ z, (!(q * q == (m + 1) * 2 ^ 129)) = z := ⟨_, rfl⟩
          rw [hz]
          cases z
          · rw [if_neg Bool.false_ne_true, if_neg Bool.false_ne_true]
            exact root_num_129_false (m + 1) q i e h1 (by omega) h2 h3 he (by omega) hq1 hq2 hz w
          · rw [if_pos rfl, if_pos rfl]
            exact root_num_129_true (m + 1) q i e h1 (by omega) h2 h3 he (by omega) hq1 hq2 hz w

theorem wordD_root (a : Nat) : wordD (resD ((single.read a).root 25)) = rootW a := wordD_resD _ fun _ => root_notNaN

theorem rootD_any (a : Nat) : ∃ d', Can d' ∧ wordD d' = rootW a ∧ ∀ w, Calls Try.prog 63 #[frm, encD (single.read a)] w (Ret w (encD d')) := by
  rw [← wordD_root]
  have hc := can_read a
  generalize single.read a = d at *
  cases hz : d.isZero with
  | false => exact ⟨_, can_resD _, rfl, fun w => rootD_pos d hc hz w⟩
  | true =>
    cases d with
    | nan s x => cases hz
    | infinity s => cases hz
    | number s m i =>
      cases m with
      | succ m => cases hz
      | zero =>
        refine ⟨.number s 0 i, hc, ?_, fun w => root_zero s i w⟩
        have hr : resD ((Datum.number s 0 i).root 25) = .number s 0 (-149) := by
          rw [show (Datum.number s 0 i).root 25 = some (.number s 0 i) from by unfold Datum.root; simp only; rw [if_pos trivial]]
          exact read_nearest_zero single (by decide) s i
        rw [hr]
        simp only [wordD]
        rw [if_pos (show 0 < 8388608 by omega), if_pos (show 0 < 8388608 by omega)]

theorem Roots_any (a : Int) (a0 : 0 ≤ a) (a1 : a ≤ 4294967295) (w : World) :
    Calls Try.prog 40 #[.int .u32 a] w (Ret w (.int .u32 (rootW a.toNat : Nat))) := by
  obtain ⟨d', h1, h2, h3⟩ := rootD_any a.toNat
  have HL := Lib.hid (fun W => lay_any d' h1 W)
  have H3 := Lib.hid h3
  rw [h2] at HL
  clear h1 h2 h3
  go_enter Try.func40, Try.ntmps40
  go_wp2_with fail
  refine (single_form _).mono ?_
  rintro e w1 ⟨rfl, hb1⟩
  go_wp2_with fail
  refine (take_any a a0 a1 _).mono ?_
  rintro e w2 ⟨rfl, hb2⟩
  go_wp2_with fail
  refine (H3.out _).mono ?_
  rintro e w4 ⟨rfl, hb4⟩
  go_wp2_with fail
  refine (HL.out _).mono ?_
  rintro e w5 ⟨rfl, hb5⟩
  go_wp2
  go_ret
  exact ⟨rfl, bs_step (bs_step (bs_step hb1 hb2) hb4) hb5⟩
end Go.Proofs.Ytdihbpfoalmlcaa
