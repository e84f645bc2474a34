/- PROVED: AluShifts: a shift counts modulo 32, up and down again keeps the lowest bits, and with the sign it is the contrary of the contrary's; no condition. -/
import Derived.Test.YtfgbjaejkfkmmaaRows
import Derived.WalkKit
import Derived.ProofKit
import Derived.OpenShut
import Derived.ChangeOld
import Derived.Below
import Derived.Test.YtfgbjaejkfkmmaaAluP
namespace Go.Proofs.Ytfgbjaejkfkmmaa.aluShifts
open Go.ChangeShapes Go.WideShapes Go.ChangeAt Go.RowKit
set_option linter.unusedVariables false      -- a walk need not use every 'w<i>' (that an integer argument fits its kind)

theorem own : ownKnob Try.prog.godebug = none := by kernel_rfl

/-! ### THE WALK -/
set_option maxRecDepth 100000 in
set_option maxHeartbeats 4000000 in
theorem walk (a0 : Int) (a1 : Int) (w0 : (Lit.int .u32 a0).wf = true) (w1 : (Lit.int .u32 a1).wf = true) (w : World) :
    Calls Try.prog 9 #[.int .u32 a0, .int .u32 a1] w fun e w' => e = .returned (.bool true) ∧ Below w.heap.size w w' := by
  have b0 := bounds_u32 w0
  have b1 := bounds_u32 w1
  obtain ⟨a, rfl⟩ := Int.eq_ofNat_of_zero_le b0.1
  obtain ⟨b, rfl⟩ := Int.eq_ofNat_of_zero_le b1.1
  have ha : a ≤ 4294967295 := by omega
  have hb : b ≤ 4294967295 := by omega
  obtain ⟨s, hs⟩ : ∃ s, b % 32 = s := ⟨_, rfl⟩
  have hs32 : s < 32 := by omega
  have hsb : s ≤ 4294967295 := by omega
  have hss : s % 32 = s := by omega
  have hsI : (b : Int) % 32 = (s : Int) := by omega
  obtain ⟨p, hp⟩ : ∃ p, 2 ^ s = p := ⟨_, rfl⟩
  have hp1 : 1 ≤ p := by rw [← hp]; exact Nat.two_pow_pos s
  have hp2 : p ≤ 2147483648 := by rw [← hp]; exact (show 2 ^ s ≤ 2 ^ 31 from Nat.pow_le_pow_right (by omega) (by omega))
  have hpI : (2 : Int) ^ s = (p : Int) := by rw [← hp]; push_cast; rfl
  obtain ⟨l, hl⟩ : ∃ l, a * p % 4294967296 = l := ⟨_, rfl⟩
  obtain ⟨u, hu⟩ : ∃ u, a / p = u := ⟨_, rfl⟩
  obtain ⟨f, hf⟩ : ∃ f, 4294967295 / p = f := ⟨_, rfl⟩
  obtain ⟨g, hg⟩ : ∃ g, a &&& f = g := ⟨_, rfl⟩
  obtain ⟨r, hr⟩ : ∃ r, a % p = r := ⟨_, rfl⟩
  have hrp : r < p := by rw [← hr]; exact Nat.mod_lt _ (by omega)
  have hra : r ≤ a := by rw [← hr]; exact Nat.mod_le _ _
  have hua : u ≤ a := by rw [← hu]; exact Nat.div_le_self _ _
  have hf2 : f ≤ 4294967295 := by rw [← hf]; exact Nat.div_le_self _ _
  have e1 := shl_shru a s hs32
  have e2 := shru_shl a s ha
  rw [hp, hl, hf, hg] at e1
  rw [hp, hu, hr] at e2
  have hiN : (if a < 2147483648 then u else 4294967295 - (4294967295 - a) / p) = (if a < 2147483648 then u else 4294967295 - (4294967295 - a) / p) := rfl
  obtain ⟨i, hi⟩ : ∃ i, i = (if a < 2147483648 then u else 4294967295 - (4294967295 - a) / p) := ⟨_, rfl⟩
  have hiI : wrap32 (a : Int) / 2 ^ (b % 32) % 4294967296 = (i : Int) := by
    rw [hs, hi]
    by_cases h : a < 2147483648
    · rw [if_pos h, shri_low a s h, hp, hu]
    · rw [if_neg h, shri_high a s (by omega) ha, hp]
  have c1 := Lib.hid (fun W => two_50 a b l ha hb (by rw [hs, hp]; exact hl) W)
  have c2 := Lib.hid (fun W => two_52 a b u ha hb (by rw [hs, hp]; exact hu) W)
  have c3 := Lib.hid (fun W => two_51 a b i ha hb hiI W)
  have c4 := Lib.hid (fun W => two_50 a s l ha hsb (by rw [hss, hp]; exact hl) W)
  have c5 := Lib.hid (fun W => two_52 a s u ha hsb (by rw [hss, hp]; exact hu) W)
  have c6 := Lib.hid (fun W => two_51 a s i ha hsb (by rw [hss]; rw [hs] at hiI; exact hiI) W)
  have c7 := Lib.hid (fun W => two_52 l s g (by omega) hsb (by rw [hss, hp]; exact e1) W)
  have c8 := Lib.hid (fun W => two_50 u s (a - r) (by omega) hsb (by rw [hss, hp]; exact e2) W)
  have hand : bits .and .u32 (a : Int) (f : Int) = (g : Int) := by rw [u32_and_nat a f (by omega) (by omega), hg]
  have hu32 : ∀ x : Int, IntKind.u32.wrap x = x % 4294967296 := fun x => IntKind.wrap_u32 x
  have k1 : IntKind.u32.wrap ((a : Int) * 2 ^ s) = (l : Int) := by rw [hu32, hpI, ← Int.natCast_mul, ← hl]; rfl
  have k2 : (4294967295 : Int) / 2 ^ s = (f : Int) := by rw [hpI, ← hf]; rfl
  have k4 : IntKind.u32.wrap (2 ^ s) = (p : Int) := by rw [hu32, hpI]; omega
  have k4' : IntKind.u32.wrap (1 * 2 ^ s) = (p : Int) := by rw [Int.one_mul]; exact k4
  have k5 : (a : Int).tmod (p : Int) = (r : Int) := by rw [← hr]; rfl
  have k6 : IntKind.u32.wrap ((a : Int) - (r : Int)) = ((a - r : Nat) : Int) := by rw [hu32]; omega
  obtain ⟨d, hd⟩ : ∃ d, a - r = d := ⟨_, rfl⟩
  rw [hd] at k6 c8
  have hp0 : ¬ (p : Int) = 0 := by omega
  have hp0n : ¬ p = 0 := by omega
  have hp0' : ((p : Int) == 0) = false := by rw [beq_eq_false_iff_ne]; exact hp0
  have hss2 := Lib.hid hss
  have hpn' := Lib.hid hp
  clear hu32 hd hs hss hp hpI hp1 hp2 hl hu hf hg hr hrp hra hua hf2 e1 e2 hiI hiN
  by_cases hlow : a < 2147483648
  · rw [if_pos hlow] at hi
    subst hi
    clear ha hb hs32 hsb
    have ht : decide ((a : Int) < 2147483648) = true := decide_eq_true (by omega)
    clear hlow
    go_enter Try.func9, Try.ntmps9
    go_wp2_with fail
    refine (c1.out _).mono ?_
    rintro e w' ⟨rfl, g1⟩
    go_wp2_with fail
    refine (c2.out _).mono ?_
    rintro e w' ⟨rfl, g2⟩
    go_wp2_with fail
    refine (c3.out _).mono ?_
    rintro e w' ⟨rfl, g3⟩
    go_wp2_with fail
    refine (c4.out _).mono ?_
    rintro e w' ⟨rfl, g4⟩
    go_wp2_with fail
    refine (c5.out _).mono ?_
    rintro e w' ⟨rfl, g5⟩
    go_wp2_with fail
    refine (c6.out _).mono ?_
    rintro e w' ⟨rfl, g6⟩
    go_wp2_with fail
    go_region_held3 (fun _ => True) (trivial) (first
      | (go_at_call 27; (with_reducible refine (c7.out _).mono ?_); rintro e w7 ⟨rfl, g7⟩)
      | (go_at_call 27; (with_reducible refine (c8.out _).mono ?_); rintro e w8 ⟨rfl, g8⟩))
    go_wp2_with fail
    refine (awake_any _).mono ?_
    rintro e w' ⟨rfl, g9⟩
    go_wp2
    go_ret
    exact ⟨ret_same (by simp), (by repeat (first | exact Below.refl _ _ | refine bs_drew ?_ | refine bs_drewN ?_ _ | (refine bs_step ?_ (by assumption))))⟩
  · rw [if_neg hlow] at hi
    have ht : decide ((a : Int) < 2147483648) = false := decide_eq_false (by omega)
    clear hlow
    obtain ⟨na, hna⟩ : ∃ na, 4294967295 - a = na := ⟨_, rfl⟩
    obtain ⟨v, hv⟩ : ∃ v, na / 2 ^ s = v := ⟨_, rfl⟩
    have hvl : v ≤ na := by rw [← hv]; exact Nat.div_le_self _ _
    rw [hna, ← hpn'.out, hv] at hi
    have d1 := Lib.hid (fun W => one_49 a na ha hna W)
    have d2 := Lib.hid (fun W => two_52 na s v (by omega) hsb (by rw [hss2.out]; exact hv) W)
    have d3 := Lib.hid (fun W => one_49 v i (by omega) hi.symm W)
    clear ha hb hs32 hsb hna hv hvl hi
    go_enter Try.func9, Try.ntmps9
    go_wp2_with fail
    refine (c1.out _).mono ?_
    rintro e w' ⟨rfl, g1⟩
    go_wp2_with fail
    refine (c2.out _).mono ?_
    rintro e w' ⟨rfl, g2⟩
    go_wp2_with fail
    refine (c3.out _).mono ?_
    rintro e w' ⟨rfl, g3⟩
    go_wp2_with fail
    refine (c4.out _).mono ?_
    rintro e w' ⟨rfl, g4⟩
    go_wp2_with fail
    refine (c5.out _).mono ?_
    rintro e w' ⟨rfl, g5⟩
    go_wp2_with fail
    refine (c6.out _).mono ?_
    rintro e w' ⟨rfl, g6⟩
    go_wp2_with fail
    go_region_held3 (fun _ => True) (trivial) (first
      | (go_at_call 27; (with_reducible refine (c7.out _).mono ?_); rintro e w7 ⟨rfl, g7⟩)
      | (go_at_call 27; (with_reducible refine (c8.out _).mono ?_); rintro e w8 ⟨rfl, g8⟩))
    go_wp2_with fail
    refine (d1.out _).mono ?_
    rintro e w' ⟨rfl, rfl⟩
    go_wp2_with fail
    refine (d2.out _).mono ?_
    rintro e w' ⟨rfl, g9⟩
    go_wp2_with fail
    refine (d3.out _).mono ?_
    rintro e w' ⟨rfl, rfl⟩
    go_wp2_with fail
    refine (awake_any _).mono ?_
    rintro e w' ⟨rfl, l1⟩
    go_wp2
    go_ret
    exact ⟨ret_same (by simp), (by repeat (first | exact Below.refl _ _ | refine bs_drew ?_ | refine bs_drewN ?_ _ | (refine bs_step ?_ (by assumption))))⟩

/-! ### THE ROW's STEP: WRITTEN OUT: LEAVE IT -/
set_option maxRecDepth 100000 in
theorem lifted (os : Os) (started : os.Started) (H : Type) (enc : TypeId × Value → H) :
    ReturnsInHanded {} Try.checked os 9 .any (Rows.aluShiftsSpec.pre6 enc Try.prog Try.f9 Rows.aluShiftsRow.domain false) (Rows.aluShiftsSpec.post enc Try.prog Try.f9 false true false false) := by
  refine returnsInHanded_of_change (C := Try.checked) own started (by kernel_rfl) Try.func9
    (ChangeSpec.witness6 (enc := enc) (C := Try.checked) false ⟨#[], #[.int .u32 0, .int .u32 0], []⟩ 8 (by kernel_rfl) (by kernel_rfl) (by kernel_rfl) (by kernel_rfl)) ?_
  intro W base args ds gs before hval0 hW hcnd _
  have hval : ∀ (j : Nat) t v, Try.f9.params[j]? = some t → args[j]? = some v → Value.okWide Try.prog W .any base t v := hval0
  have hW' := hW
  obtain ⟨p, q, hA0, hV, rfl, hfz, hnd⟩ := hW
  have hA : DataW.TrodAll enc Try.prog W 0 (fun _ => true) true Try.f9.params.toList args.toList ds p := hA0
  rw [Try.params9] at hA hval
  obtain ⟨v0, vs0, d0, ds0, p0, q0, hargs, rfl, rfl, h0, r0⟩ := trodAll_cons hA
  obtain ⟨v1, vs1, d1, ds1, p1, q1, rfl, rfl, rfl, h1, r1⟩ := trodAll_cons r0
  obtain ⟨rfl, rfl, rfl⟩ := trodAll_nil r1
  obtain rfl : args = #[v0, v1] := by cases args; simp_all
  obtain ⟨rfl, rfl⟩ := trodVars_none hV
  obtain ⟨a0, rfl, rfl, rfl, w0⟩ := open_int Try.underlying22 (hval 0 22 v0 rfl rfl) h0
  obtain ⟨a1, rfl, rfl, rfl, w1⟩ := open_int Try.underlying22 (hval 1 22 v1 rfl rfl) h1
  clear hA0 hval0
  simp only [List.append_nil] at hW'
  refine (walk a0 a1 w0 w1 W).mono fun e W' ⟨he, hg⟩ => ?_
  subst he
  exact ⟨_, rfl, _, _, _, [], [], [], hW', (trodAll_cons_mk (shut_bool Try.underlying4 _) trodAll_mk0), (trodAll_cons_mk (shut_int Try.underlying22 w0) (trodAll_cons_mk (shut_int Try.underlying22 w1) trodAll_mk0)), rfl, hg.frame _, fun h => by cases h⟩

theorem over : Rows.aluShiftsRow.holds Try.pinned (OpenSpec.ofChange Rows.aluShiftsSpec) :=
  OpenClaim.holds_of_wide 9 Try.f9 rfl rfl rfl rfl rfl rfl rfl ⟨rfl, rfl, rfl, rfl, rfl⟩ rfl rfl rfl rfl rfl (by kernel_rfl) Try.func9 (by kernel_rfl)
    (of_decide_eq_true (by kernel_rfl)) (by unfold Func.isWrapper; first | (rw [if_pos (by decide +kernel)]; kernel_rfl) | (rw [if_neg (by decide +kernel)]; exact ⟨rfl, rfl⟩))
    (fun os started H enc _ => lifted os started H enc)

/-- ████ THE STATEMENT ████ -/
theorem proved : Rows.AluShiftsSaid :=
  over
#print axioms proved
end Go.Proofs.Ytfgbjaejkfkmmaa.aluShifts
