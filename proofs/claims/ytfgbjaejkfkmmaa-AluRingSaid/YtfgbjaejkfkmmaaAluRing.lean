/- PROVED: AluRing: wrapped sums and products are those of a ring, and operations bit by bit are told by one another; no condition. -/
import Derived.Test.YtfgbjaejkfkmmaaRows
import Derived.WalkKit
import Derived.ProofKit
import Derived.OpenShut
import Derived.ChangeOld
import Derived.Below
import Derived.Test.YtfgbjaejkfkmmaaAluP
namespace Go.Proofs.Ytfgbjaejkfkmmaa.aluRing
open Go.ChangeShapes Go.WideShapes Go.ChangeAt Go.RowKit
set_option linter.unusedVariables false      -- a walk need not use every 'w<i>' (that an integer argument fits its kind)

theorem own : ownKnob Try.prog.godebug = none := by kernel_rfl

/-! ### THE WALK -/
theorem walk (a0 : Int) (a1 : Int) (a2 : Int) (w0 : (Lit.int .u32 a0).wf = true) (w1 : (Lit.int .u32 a1).wf = true) (w2 : (Lit.int .u32 a2).wf = true) (w : World) :
    Calls Try.prog 10 #[.int .u32 a0, .int .u32 a1, .int .u32 a2] w fun e w' => e = .returned (.bool true) ∧ Below w.heap.size w w' := by
  have b0 := bounds_u32 w0
  have b1 := bounds_u32 w1
  have b2 := bounds_u32 w2
  obtain ⟨a, rfl⟩ := Int.eq_ofNat_of_zero_le b0.1
  obtain ⟨b, rfl⟩ := Int.eq_ofNat_of_zero_le b1.1
  obtain ⟨c, rfl⟩ := Int.eq_ofNat_of_zero_le b2.1
  have ha : a ≤ 4294967295 := by omega
  have hb : b ≤ 4294967295 := by omega
  have hc : c ≤ 4294967295 := by omega
  obtain ⟨s, hs⟩ : ∃ s, (a + b) % 4294967296 = s := ⟨_, rfl⟩
  obtain ⟨d, hd⟩ : ∃ s, (a + 4294967296 - b) % 4294967296 = s := ⟨_, rfl⟩
  obtain ⟨n, hn⟩ : ∃ s, (4294967296 - b) % 4294967296 = s := ⟨_, rfl⟩
  obtain ⟨p, hp⟩ : ∃ s', s * c % 4294967296 = s' := ⟨_, rfl⟩
  obtain ⟨u, hu⟩ : ∃ s', a * c % 4294967296 = s' := ⟨_, rfl⟩
  obtain ⟨v, hv⟩ : ∃ s', b * c % 4294967296 = s' := ⟨_, rfl⟩
  obtain ⟨na, hna⟩ : ∃ s', 4294967295 - a = s' := ⟨_, rfl⟩
  obtain ⟨nb, hnb⟩ : ∃ s', 4294967295 - b = s' := ⟨_, rfl⟩
  obtain ⟨m, hm⟩ : ∃ s', (4294967296 - a) % 4294967296 = s' := ⟨_, rfl⟩
  obtain ⟨an, han⟩ : ∃ s', a &&& b = s' := ⟨_, rfl⟩
  obtain ⟨o, ho⟩ : ∃ s', a ||| b = s' := ⟨_, rfl⟩
  obtain ⟨x, hx⟩ : ∃ s', a ^^^ b = s' := ⟨_, rfl⟩
  obtain ⟨nn, hnn⟩ : ∃ s', 4294967295 - an = s' := ⟨_, rfl⟩
  have e1 := and_add_or (a + 1) a b (by omega)
  have e2 := and_add_xor (a + 1) a b (by omega)
  have e3 := and_or_same a b
  have e4 := not_and a b ha hb
  have e5 : an ≤ a := han ▸ Nat.and_le_left
  have e6 : o < 4294967296 := ho ▸ Nat.or_lt_two_pow (n := 32) (by omega) (by omega)
  have e7 := ring_mul a b c s u v hs hu hv
  rw [han, ho] at e1
  rw [han, ho, hx] at e2
  rw [ho] at e3
  rw [han, hna, hnb, hnn] at e4
  rw [hp] at e7
  have s1 := Lib.hid (fun W => two_39 a b s ha hb hs W)
  have s2 := Lib.hid (fun W => two_39 b a s hb ha (by omega) W)
  have s3 := Lib.hid (fun W => two_40 s b a (by omega) hb (by omega) W)
  have s4 := Lib.hid (fun W => two_40 a b d ha hb hd W)
  have s5 := Lib.hid (fun W => one_38 b n hb hn W)
  have s6 := Lib.hid (fun W => two_39 a n d ha (by omega) (by omega) W)
  have s7 := Lib.hid (fun W => two_41 s c p (by omega) hc hp W)
  have s8 := Lib.hid (fun W => two_41 a c u ha hc hu W)
  have s9 := Lib.hid (fun W => two_41 b c v hb hc hv W)
  have t1 := Lib.hid (fun W => two_39 u v p (by omega) (by omega) e7 W)
  have t2 := Lib.hid (fun W => two_41 c s p hc (by omega) (by rw [Nat.mul_comm]; exact hp) W)
  have t3 := Lib.hid (fun W => one_49 a na ha hna W)
  have t4 := Lib.hid (fun W => one_38 a m ha hm W)
  have t5 := Lib.hid (fun W => two_40 m 1 na (by omega) (by omega) (by omega) W)
  have t6 := Lib.hid (fun W => one_49 na a (by omega) (by omega) W)
  have t7 := Lib.hid (fun W => two_46 a b an ha hb han W)
  have t8 := Lib.hid (fun W => two_47 a b o ha hb ho W)
  have t9 := Lib.hid (fun W => two_39 an o s (by omega) (by omega) (by rw [e1]; exact hs) W)
  have u1 := Lib.hid (fun W => two_48 a b x ha hb hx W)
  have u2 := Lib.hid (fun W => two_40 o an x (by omega) (by omega) (by omega) W)
  have u3 := Lib.hid (fun W => two_46 a o a ha (by omega) e3 W)
  have u4 := Lib.hid (fun W => one_49 an nn (by omega) hnn W)
  have u5 := Lib.hid (fun W => one_49 b nb hb hnb W)
  have u6 := Lib.hid (fun W => two_47 na nb nn (by omega) (by omega) e4.symm W)
  clear w0 w1 w2 b0 b1 b2 ha hb hc hs hd hn hp hu hv hna hnb hm han ho hx hnn e1 e2 e3 e4 e5 e6 e7
  go_enter Try.func10, Try.ntmps10
  go_wp2_with fail
  refine (s1.out _).mono ?_
  rintro e w' ⟨rfl, g1⟩
  go_wp2_with fail
  refine (s2.out _).mono ?_
  rintro e w' ⟨rfl, g2⟩
  go_wp2_with fail
  refine (s3.out _).mono ?_
  rintro e w' ⟨rfl, g3⟩
  go_wp2_with fail
  refine (s4.out _).mono ?_
  rintro e w' ⟨rfl, g4⟩
  go_wp2_with fail
  refine (s5.out _).mono ?_
  rintro e w' ⟨rfl, rfl⟩
  go_wp2_with fail
  refine (s6.out _).mono ?_
  rintro e w' ⟨rfl, g5⟩
  go_wp2_with fail
  refine (s7.out _).mono ?_
  rintro e w' ⟨rfl, g6⟩
  go_wp2_with fail
  refine (s8.out _).mono ?_
  rintro e w' ⟨rfl, g7⟩
  go_wp2_with fail
  refine (s9.out _).mono ?_
  rintro e w' ⟨rfl, g8⟩
  go_wp2_with fail
  refine (t1.out _).mono ?_
  rintro e w' ⟨rfl, g9⟩
  go_wp2_with fail
  refine (t2.out _).mono ?_
  rintro e w' ⟨rfl, k1⟩
  go_wp2_with fail
  refine (t3.out _).mono ?_
  rintro e w' ⟨rfl, rfl⟩
  go_wp2_with fail
  refine (t4.out _).mono ?_
  rintro e w' ⟨rfl, rfl⟩
  go_wp2_with fail
  refine (t5.out _).mono ?_
  rintro e w' ⟨rfl, k2⟩
  go_wp2_with fail
  refine (t3.out _).mono ?_
  rintro e w' ⟨rfl, rfl⟩
  go_wp2_with fail
  refine (t6.out _).mono ?_
  rintro e w' ⟨rfl, rfl⟩
  go_wp2_with fail
  refine (t7.out _).mono ?_
  rintro e w' ⟨rfl, k3⟩
  go_wp2_with fail
  refine (t8.out _).mono ?_
  rintro e w' ⟨rfl, k4⟩
  go_wp2_with fail
  refine (t9.out _).mono ?_
  rintro e w' ⟨rfl, k5⟩
  go_wp2_with fail
  refine (u1.out _).mono ?_
  rintro e w' ⟨rfl, k6⟩
  go_wp2_with fail
  refine (u2.out _).mono ?_
  rintro e w' ⟨rfl, k7⟩
  go_wp2_with fail
  refine (u3.out _).mono ?_
  rintro e w' ⟨rfl, k8⟩
  go_wp2_with fail
  refine (u4.out _).mono ?_
  rintro e w' ⟨rfl, rfl⟩
  go_wp2_with fail
  refine (t3.out _).mono ?_
  rintro e w' ⟨rfl, rfl⟩
  go_wp2_with fail
  refine (u5.out _).mono ?_
  rintro e w' ⟨rfl, rfl⟩
  go_wp2_with fail
  refine (u6.out _).mono ?_
  rintro e w' ⟨rfl, k9⟩
  go_wp2_with fail
  refine (awake_any _).mono ?_
  rintro e w' ⟨rfl, l1⟩
  go_wp2
  go_ret
  exact ⟨ret_same (by simp), bs_step (bs_step (bs_step (bs_step (bs_step (bs_step (bs_step (bs_step (bs_step (bs_step (bs_step (bs_step (bs_step (bs_step (bs_step (bs_step (bs_step (bs_step g1 g2) g3) g4) g5) g6) g7) g8) g9) k1) k2) k3) k4) k5) k6) k7) k8) k9) l1⟩

/-! ### THE ROW's STEP: WRITTEN OUT: LEAVE IT -/
set_option maxRecDepth 100000 in
theorem lifted (os : Os) (started : os.Started) (H : Type) (enc : TypeId × Value → H) :
    ReturnsInHanded {} Try.checked os 10 .any (Rows.aluRingSpec.pre6 enc Try.prog Try.f10 Rows.aluRingRow.domain false) (Rows.aluRingSpec.post enc Try.prog Try.f10 false true false false) := by
  refine returnsInHanded_of_change (C := Try.checked) own started (by kernel_rfl) Try.func10
    (ChangeSpec.witness6 (enc := enc) (C := Try.checked) false ⟨#[], #[.int .u32 0, .int .u32 0, .int .u32 0], []⟩ 8 (by kernel_rfl) (by kernel_rfl) (by kernel_rfl) (by kernel_rfl)) ?_
  intro W base args ds gs before hval0 hW hcnd _
  have hval : ∀ (j : Nat) t v, Try.f10.params[j]? = some t → args[j]? = some v → Value.okWide Try.prog W .any base t v := hval0
  have hW' := hW
  obtain ⟨p, q, hA0, hV, rfl, hfz, hnd⟩ := hW
  have hA : DataW.TrodAll enc Try.prog W 0 (fun _ => true) true Try.f10.params.toList args.toList ds p := hA0
  rw [Try.params10] at hA hval
  obtain ⟨v0, vs0, d0, ds0, p0, q0, hargs, rfl, rfl, h0, r0⟩ := trodAll_cons hA
  obtain ⟨v1, vs1, d1, ds1, p1, q1, rfl, rfl, rfl, h1, r1⟩ := trodAll_cons r0
  obtain ⟨v2, vs2, d2, ds2, p2, q2, rfl, rfl, rfl, h2, r2⟩ := trodAll_cons r1
  obtain ⟨rfl, rfl, rfl⟩ := trodAll_nil r2
  obtain rfl : args = #[v0, v1, v2] := by cases args; simp_all
  obtain ⟨rfl, rfl⟩ := trodVars_none hV
  obtain ⟨a0, rfl, rfl, rfl, w0⟩ := open_int Try.underlying22 (hval 0 22 v0 rfl rfl) h0
  obtain ⟨a1, rfl, rfl, rfl, w1⟩ := open_int Try.underlying22 (hval 1 22 v1 rfl rfl) h1
  obtain ⟨a2, rfl, rfl, rfl, w2⟩ := open_int Try.underlying22 (hval 2 22 v2 rfl rfl) h2
  clear hA0 hval0
  simp only [List.append_nil] at hW'
  refine (walk a0 a1 a2 w0 w1 w2 W).mono fun e W' ⟨he, hg⟩ => ?_
  subst he
  exact ⟨_, rfl, _, _, _, [], [], [], hW', (trodAll_cons_mk (shut_bool Try.underlying4 _) trodAll_mk0), (trodAll_cons_mk (shut_int Try.underlying22 w0) (trodAll_cons_mk (shut_int Try.underlying22 w1) (trodAll_cons_mk (shut_int Try.underlying22 w2) trodAll_mk0))), rfl, hg.frame _, fun h => by cases h⟩

theorem over : Rows.aluRingRow.holds Try.pinned (OpenSpec.ofChange Rows.aluRingSpec) :=
  OpenClaim.holds_of_wide 10 Try.f10 rfl rfl rfl rfl rfl rfl rfl ⟨rfl, rfl, rfl, rfl, rfl⟩ rfl rfl rfl rfl rfl (by kernel_rfl) Try.func10 (by kernel_rfl)
    (of_decide_eq_true (by kernel_rfl)) (by unfold Func.isWrapper; first | (rw [if_pos (by decide +kernel)]; kernel_rfl) | (rw [if_neg (by decide +kernel)]; exact ⟨rfl, rfl⟩))
    (fun os started H enc _ => lifted os started H enc)

/-- ████ THE STATEMENT ████ -/
theorem proved : Rows.AluRingSaid :=
  over
#print axioms proved
end Go.Proofs.Ytfgbjaejkfkmmaa.aluRing
