/- PROVED: SingleNeighbours: nothing lies between a number and the next one above, and the way back leads to it; no condition. -/
import Derived.Test.YtllchfdddfmjbaaRows
import Derived.WalkKit
import Derived.ProofKit
import Derived.OpenShut
import Derived.ChangeOld
import Derived.Below
import Derived.Test.YtllchfdddfmjbaaOne
import Derived.Test.YtllchfdddfmjbaaKey
namespace Go.Proofs.Ytllchfdddfmjbaa.singleNeighbours
open Go.ChangeShapes Go.WideShapes Go.ChangeAt Go.RowKit
set_option linter.unusedVariables false      -- a walk need not use every 'w<i>' (that an integer argument fits its kind)

theorem own : ownKnob Try.prog.godebug = none := by kernel_rfl

/-! ### THE WALK -/
set_option maxRecDepth 100000 in
set_option maxHeartbeats 1000000 in
theorem walk (a0 : Int) (a1 : Int) (w0 : (Lit.int .u32 a0).wf = true) (w1 : (Lit.int .u32 a1).wf = true) (w : World) :
    Calls Try.prog 9 #[.int .u32 a0, .int .u32 a1] w fun e w' => e = .returned (.bool true) ∧ Below w.heap.size w w' := by
  have b0 := bounds_u32 w0
  have b1 := bounds_u32 w1
  obtain ⟨a, rfl⟩ := Int.eq_ofNat_of_zero_le b0.1
  obtain ⟨c, rfl⟩ := Int.eq_ofNat_of_zero_le b1.1
  have ha : a ≤ 4294967295 := by omega
  have hc : c ≤ 4294967295 := by omega
  clear b0 b1 w0 w1
  obtain ⟨u, hu⟩ : ∃ u, aboveW a = u := ⟨_, rfl⟩
  have hul : u ≤ 4294967295 := hu ▸ aboveW_lt ha
  have c1 := Lib.hid (fun W => Above_is a u ha hu W)
  by_cases na : NoNum a
  · have e1 : u = 2143289344 := by rw [← hu]; unfold aboveW; rw [if_pos (show 2139095040 < a % 2147483648 from na)]
    subst e1
    have c2 := Lib.hid (fun W => isNone_any a ha true (decide_eq_true (show 2139095040 < a % 2147483648 from na)) W)
    have c3 := Lib.hid (fun W => Below_is a 2143289344 ha (by unfold belowW; rw [if_pos (show 2139095040 < a % 2147483648 from na)]) W)
    clear na hu hul ha hc
    go_enter Try.func9, Try.ntmps9
    go_wp2_with fail
    refine (c1.out _).mono ?_
    rintro e w' ⟨rfl, rfl⟩
    go_wp2_with fail
    refine (c2.out _).mono ?_
    rintro e w' ⟨rfl, rfl⟩
    go_wp2_with fail
    refine (c3.out _).mono ?_
    rintro e w' ⟨rfl, rfl⟩
    go_wp2_with fail
    refine (awake_any _).mono ?_
    rintro e w' ⟨rfl, n, rfl⟩
    go_wp2
    go_ret
    exact ⟨ret_eq (by simp), below_drewN (Below.refl _ _) _⟩
  · have c2 := Lib.hid (fun W => isNone_any a ha false (decide_eq_false (show ¬ 2139095040 < a % 2147483648 from na)) W)
    by_cases hi : a = 2139095040
    · subst hi
      have e1 : u = 2139095040 := by rw [← hu]; decide
      subst e1
      have c3 := Lib.hid (fun W => Below_is 4286578688 4286578688 (by decide) (by decide) W)
      clear na hu hul ha hc
      go_enter Try.func9, Try.ntmps9
      go_wp2_with fail
      refine (c1.out _).mono ?_
      rintro e w' ⟨rfl, rfl⟩
      go_wp2_with fail
      refine (c2.out _).mono ?_
      rintro e w' ⟨rfl, rfl⟩
      go_wp2_with fail
      refine (c3.out _).mono ?_
      rintro e w' ⟨rfl, rfl⟩
      go_wp2_with fail
      refine (awake_any _).mono ?_
      rintro e w' ⟨rfl, n, rfl⟩
      go_wp2
      go_ret
      exact ⟨ret_eq (by simp), below_drewN (Below.refl _ _) _⟩
    · obtain ⟨hn, hk⟩ := above_key a ha na hi
      rw [hu] at hn hk
      have hbk := key_bound u hn
      have hui : u ≠ 4286578688 := by
        intro h
        have h1 := key_bound a na
        have h2 : keyW u = -2139095040 := by rw [h]; decide
        omega
      obtain ⟨hbn, hbk2⟩ := below_key u hul hn hui
      obtain ⟨b, hb⟩ : ∃ b, belowW u = b := ⟨_, rfl⟩
      have hbl : b ≤ 4294967295 := hb ▸ belowW_lt hul
      rw [hb] at hbn hbk2
      have hiB : ((a : Int) == 2139095040) = false := by rw [beq_eq_false_iff_ne]; omega
      have c3 := Lib.hid (fun W => Stand_is a u 2 (side_lt a u ha hul na hn (by omega)) W)
      have c4 := Lib.hid (fun W => Stand_is u a 4 (side_gt u a hul ha hn na (by omega)) W)
      have c5 := Lib.hid (fun W => Below_is u b hul hb W)
      have c6 := Lib.hid (fun W => Stand_is b a 3 (side_eq b a hbl ha hbn na (by omega)) W)
      have x1 := bits_low a ha
      have hcase : (b = a ∧ ∀ x : Int, ((b : Int) != (a : Int)) = false) ∨ (((b : Int) != (a : Int)) = true ∧ a % 2147483648 = 0) := by
        by_cases h0 : a % 2147483648 = 0
        · by_cases hab : b = a
          · exact .inl ⟨hab, fun _ => by rw [hab, bne_self_eq_false]⟩
          · exact .inr ⟨by rw [bne_iff_ne]; omega, h0⟩
        · have : a = b := key_inj a b ha hbl (by omega) h0
          exact .inl ⟨this.symm, fun _ => by rw [this, bne_self_eq_false]⟩
      rcases hcase with ⟨hba, _⟩ | ⟨hne, h0⟩
      · obtain rfl : a = b := hba.symm
        by_cases nc : NoNum c
        · have c7 := Lib.hid (fun W => isNone_any c hc true (decide_eq_true (show 2139095040 < c % 2147483648 from nc)) W)
          clear nc
          clear hul hn hk hbk hui hbn hbk2 hbl hb hu ha hc na hi
          go_enter Try.func9, Try.ntmps9
          go_wp2_with fail
          refine (c1.out _).mono ?_
          rintro e w' ⟨rfl, rfl⟩
          go_wp2_with fail
          refine (c2.out _).mono ?_
          rintro e w' ⟨rfl, rfl⟩
          go_wp2_with fail
          refine (c3.out _).mono ?_
          rintro e w' ⟨rfl, rfl⟩
          go_wp2_with fail
          refine (c4.out _).mono ?_
          rintro e w' ⟨rfl, rfl⟩
          go_wp2_with fail
          refine (c5.out _).mono ?_
          rintro e w' ⟨rfl, rfl⟩
          go_wp2_with fail
          refine (c6.out _).mono ?_
          rintro e w' ⟨rfl, rfl⟩
          go_wp2_with fail
          refine (c5.out _).mono ?_
          rintro e w' ⟨rfl, rfl⟩
          go_wp2_with fail
          refine (c7.out _).mono ?_
          rintro e w' ⟨rfl, rfl⟩
          go_wp2_with fail
          refine (awake_any _).mono ?_
          rintro e w' ⟨rfl, n, rfl⟩
          go_wp2
          go_ret
          exact ⟨ret_eq (by simp), below_drewN (Below.refl _ _) _⟩
        · have c7 := Lib.hid (fun W => isNone_any c hc false (decide_eq_false (show ¬ 2139095040 < c % 2147483648 from nc)) W)
          have h4 : keyW c < keyW a ∨ keyW c = keyW a ∨ keyW c = keyW u ∨ keyW u < keyW c := by omega
          rcases h4 with h4 | h4 | h4 | h4
          · have c8 := Lib.hid (fun W => Stand_is c a 2 (side_lt c a hc ha nc na (by omega)) W)
            have c9 := Lib.hid (fun W => Stand_is c u 2 (side_lt c u hc hul nc hn (by omega)) W)
            clear nc h4
            clear hul hn hk hbk hui hbn hbk2 hbl hb hu ha hc na hi
            go_enter Try.func9, Try.ntmps9
            go_wp2_with fail
            refine (c1.out _).mono ?_
            rintro e w' ⟨rfl, rfl⟩
            go_wp2_with fail
            refine (c2.out _).mono ?_
            rintro e w' ⟨rfl, rfl⟩
            go_wp2_with fail
            refine (c3.out _).mono ?_
            rintro e w' ⟨rfl, rfl⟩
            go_wp2_with fail
            refine (c4.out _).mono ?_
            rintro e w' ⟨rfl, rfl⟩
            go_wp2_with fail
            refine (c5.out _).mono ?_
            rintro e w' ⟨rfl, rfl⟩
            go_wp2_with fail
            refine (c6.out _).mono ?_
            rintro e w' ⟨rfl, rfl⟩
            go_wp2_with fail
            refine (c5.out _).mono ?_
            rintro e w' ⟨rfl, rfl⟩
            go_wp2_with fail
            refine (c7.out _).mono ?_
            rintro e w' ⟨rfl, rfl⟩
            go_wp2_with fail
            refine (c8.out _).mono ?_
            rintro e w' ⟨rfl, rfl⟩
            go_wp2_with fail
            refine (c9.out _).mono ?_
            rintro e w' ⟨rfl, rfl⟩
            go_wp2
            go_ret
            exact ⟨ret_eq (by simp), Below.refl _ _⟩
          · have c8 := Lib.hid (fun W => Stand_is c a 3 (side_eq c a hc ha nc na (by omega)) W)
            have c9 := Lib.hid (fun W => Stand_is c u 2 (side_lt c u hc hul nc hn (by omega)) W)
            clear nc h4
            clear hul hn hk hbk hui hbn hbk2 hbl hb hu ha hc na hi
            go_enter Try.func9, Try.ntmps9
            go_wp2_with fail
            refine (c1.out _).mono ?_
            rintro e w' ⟨rfl, rfl⟩
            go_wp2_with fail
            refine (c2.out _).mono ?_
            rintro e w' ⟨rfl, rfl⟩
            go_wp2_with fail
            refine (c3.out _).mono ?_
            rintro e w' ⟨rfl, rfl⟩
            go_wp2_with fail
            refine (c4.out _).mono ?_
            rintro e w' ⟨rfl, rfl⟩
            go_wp2_with fail
            refine (c5.out _).mono ?_
            rintro e w' ⟨rfl, rfl⟩
            go_wp2_with fail
            refine (c6.out _).mono ?_
            rintro e w' ⟨rfl, rfl⟩
            go_wp2_with fail
            refine (c5.out _).mono ?_
            rintro e w' ⟨rfl, rfl⟩
            go_wp2_with fail
            refine (c7.out _).mono ?_
            rintro e w' ⟨rfl, rfl⟩
            go_wp2_with fail
            refine (c8.out _).mono ?_
            rintro e w' ⟨rfl, rfl⟩
            go_wp2_with fail
            refine (c9.out _).mono ?_
            rintro e w' ⟨rfl, rfl⟩
            go_wp2
            go_ret
            exact ⟨ret_eq (by simp), Below.refl _ _⟩
          · have c8 := Lib.hid (fun W => Stand_is c a 4 (side_gt c a hc ha nc na (by omega)) W)
            have c9 := Lib.hid (fun W => Stand_is c u 3 (side_eq c u hc hul nc hn (by omega)) W)
            clear nc h4
            clear hul hn hk hbk hui hbn hbk2 hbl hb hu ha hc na hi
            go_enter Try.func9, Try.ntmps9
            go_wp2_with fail
            refine (c1.out _).mono ?_
            rintro e w' ⟨rfl, rfl⟩
            go_wp2_with fail
            refine (c2.out _).mono ?_
            rintro e w' ⟨rfl, rfl⟩
            go_wp2_with fail
            refine (c3.out _).mono ?_
            rintro e w' ⟨rfl, rfl⟩
            go_wp2_with fail
            refine (c4.out _).mono ?_
            rintro e w' ⟨rfl, rfl⟩
            go_wp2_with fail
            refine (c5.out _).mono ?_
            rintro e w' ⟨rfl, rfl⟩
            go_wp2_with fail
            refine (c6.out _).mono ?_
            rintro e w' ⟨rfl, rfl⟩
            go_wp2_with fail
            refine (c5.out _).mono ?_
            rintro e w' ⟨rfl, rfl⟩
            go_wp2_with fail
            refine (c7.out _).mono ?_
            rintro e w' ⟨rfl, rfl⟩
            go_wp2_with fail
            refine (c8.out _).mono ?_
            rintro e w' ⟨rfl, rfl⟩
            go_wp2_with fail
            refine (c9.out _).mono ?_
            rintro e w' ⟨rfl, rfl⟩
            go_wp2
            go_ret
            exact ⟨ret_eq (by simp), Below.refl _ _⟩
          · have c8 := Lib.hid (fun W => Stand_is c a 4 (side_gt c a hc ha nc na (by omega)) W)
            have c9 := Lib.hid (fun W => Stand_is c u 4 (side_gt c u hc hul nc hn (by omega)) W)
            clear nc h4
            clear hul hn hk hbk hui hbn hbk2 hbl hb hu ha hc na hi
            go_enter Try.func9, Try.ntmps9
            go_wp2_with fail
            refine (c1.out _).mono ?_
            rintro e w' ⟨rfl, rfl⟩
            go_wp2_with fail
            refine (c2.out _).mono ?_
            rintro e w' ⟨rfl, rfl⟩
            go_wp2_with fail
            refine (c3.out _).mono ?_
            rintro e w' ⟨rfl, rfl⟩
            go_wp2_with fail
            refine (c4.out _).mono ?_
            rintro e w' ⟨rfl, rfl⟩
            go_wp2_with fail
            refine (c5.out _).mono ?_
            rintro e w' ⟨rfl, rfl⟩
            go_wp2_with fail
            refine (c6.out _).mono ?_
            rintro e w' ⟨rfl, rfl⟩
            go_wp2_with fail
            refine (c5.out _).mono ?_
            rintro e w' ⟨rfl, rfl⟩
            go_wp2_with fail
            refine (c7.out _).mono ?_
            rintro e w' ⟨rfl, rfl⟩
            go_wp2_with fail
            refine (c8.out _).mono ?_
            rintro e w' ⟨rfl, rfl⟩
            go_wp2_with fail
            refine (c9.out _).mono ?_
            rintro e w' ⟨rfl, rfl⟩
            go_wp2
            go_ret
            exact ⟨ret_eq (by simp), Below.refl _ _⟩
      · rw [h0] at x1
        clear h0
        by_cases nc : NoNum c
        · have c7 := Lib.hid (fun W => isNone_any c hc true (decide_eq_true (show 2139095040 < c % 2147483648 from nc)) W)
          clear nc
          clear hul hn hk hbk hui hbn hbk2 hbl hb hu ha hc na hi
          go_enter Try.func9, Try.ntmps9
          go_wp2_with fail
          refine (c1.out _).mono ?_
          rintro e w' ⟨rfl, rfl⟩
          go_wp2_with fail
          refine (c2.out _).mono ?_
          rintro e w' ⟨rfl, rfl⟩
          go_wp2_with fail
          refine (c3.out _).mono ?_
          rintro e w' ⟨rfl, rfl⟩
          go_wp2_with fail
          refine (c4.out _).mono ?_
          rintro e w' ⟨rfl, rfl⟩
          go_wp2_with fail
          refine (c5.out _).mono ?_
          rintro e w' ⟨rfl, rfl⟩
          go_wp2_with fail
          refine (c6.out _).mono ?_
          rintro e w' ⟨rfl, rfl⟩
          go_wp2_with fail
          refine (c5.out _).mono ?_
          rintro e w' ⟨rfl, rfl⟩
          go_wp2_with fail
          refine (c7.out _).mono ?_
          rintro e w' ⟨rfl, rfl⟩
          go_wp2_with fail
          refine (awake_any _).mono ?_
          rintro e w' ⟨rfl, n, rfl⟩
          go_wp2
          go_ret
          exact ⟨ret_eq (by simp), below_drewN (Below.refl _ _) _⟩
        · have c7 := Lib.hid (fun W => isNone_any c hc false (decide_eq_false (show ¬ 2139095040 < c % 2147483648 from nc)) W)
          have h4 : keyW c < keyW a ∨ keyW c = keyW a ∨ keyW c = keyW u ∨ keyW u < keyW c := by omega
          rcases h4 with h4 | h4 | h4 | h4
          · have c8 := Lib.hid (fun W => Stand_is c a 2 (side_lt c a hc ha nc na (by omega)) W)
            have c9 := Lib.hid (fun W => Stand_is c u 2 (side_lt c u hc hul nc hn (by omega)) W)
            clear nc h4
            clear hul hn hk hbk hui hbn hbk2 hbl hb hu ha hc na hi
            go_enter Try.func9, Try.ntmps9
            go_wp2_with fail
            refine (c1.out _).mono ?_
            rintro e w' ⟨rfl, rfl⟩
            go_wp2_with fail
            refine (c2.out _).mono ?_
            rintro e w' ⟨rfl, rfl⟩
            go_wp2_with fail
            refine (c3.out _).mono ?_
            rintro e w' ⟨rfl, rfl⟩
            go_wp2_with fail
            refine (c4.out _).mono ?_
            rintro e w' ⟨rfl, rfl⟩
            go_wp2_with fail
            refine (c5.out _).mono ?_
            rintro e w' ⟨rfl, rfl⟩
            go_wp2_with fail
            refine (c6.out _).mono ?_
            rintro e w' ⟨rfl, rfl⟩
            go_wp2_with fail
            refine (c5.out _).mono ?_
            rintro e w' ⟨rfl, rfl⟩
            go_wp2_with fail
            refine (c7.out _).mono ?_
            rintro e w' ⟨rfl, rfl⟩
            go_wp2_with fail
            refine (c8.out _).mono ?_
            rintro e w' ⟨rfl, rfl⟩
            go_wp2_with fail
            refine (c9.out _).mono ?_
            rintro e w' ⟨rfl, rfl⟩
            go_wp2
            go_ret
            exact ⟨ret_eq (by simp), Below.refl _ _⟩
          · have c8 := Lib.hid (fun W => Stand_is c a 3 (side_eq c a hc ha nc na (by omega)) W)
            have c9 := Lib.hid (fun W => Stand_is c u 2 (side_lt c u hc hul nc hn (by omega)) W)
            clear nc h4
            clear hul hn hk hbk hui hbn hbk2 hbl hb hu ha hc na hi
            go_enter Try.func9, Try.ntmps9
            go_wp2_with fail
            refine (c1.out _).mono ?_
            rintro e w' ⟨rfl, rfl⟩
            go_wp2_with fail
            refine (c2.out _).mono ?_
            rintro e w' ⟨rfl, rfl⟩
            go_wp2_with fail
            refine (c3.out _).mono ?_
            rintro e w' ⟨rfl, rfl⟩
            go_wp2_with fail
            refine (c4.out _).mono ?_
            rintro e w' ⟨rfl, rfl⟩
            go_wp2_with fail
            refine (c5.out _).mono ?_
            rintro e w' ⟨rfl, rfl⟩
            go_wp2_with fail
            refine (c6.out _).mono ?_
            rintro e w' ⟨rfl, rfl⟩
            go_wp2_with fail
            refine (c5.out _).mono ?_
            rintro e w' ⟨rfl, rfl⟩
            go_wp2_with fail
            refine (c7.out _).mono ?_
            rintro e w' ⟨rfl, rfl⟩
            go_wp2_with fail
            refine (c8.out _).mono ?_
            rintro e w' ⟨rfl, rfl⟩
            go_wp2_with fail
            refine (c9.out _).mono ?_
            rintro e w' ⟨rfl, rfl⟩
            go_wp2
            go_ret
            exact ⟨ret_eq (by simp), Below.refl _ _⟩
          · have c8 := Lib.hid (fun W => Stand_is c a 4 (side_gt c a hc ha nc na (by omega)) W)
            have c9 := Lib.hid (fun W => Stand_is c u 3 (side_eq c u hc hul nc hn (by omega)) W)
            clear nc h4
            clear hul hn hk hbk hui hbn hbk2 hbl hb hu ha hc na hi
            go_enter Try.func9, Try.ntmps9
            go_wp2_with fail
            refine (c1.out _).mono ?_
            rintro e w' ⟨rfl, rfl⟩
            go_wp2_with fail
            refine (c2.out _).mono ?_
            rintro e w' ⟨rfl, rfl⟩
            go_wp2_with fail
            refine (c3.out _).mono ?_
            rintro e w' ⟨rfl, rfl⟩
            go_wp2_with fail
            refine (c4.out _).mono ?_
            rintro e w' ⟨rfl, rfl⟩
            go_wp2_with fail
            refine (c5.out _).mono ?_
            rintro e w' ⟨rfl, rfl⟩
            go_wp2_with fail
            refine (c6.out _).mono ?_
            rintro e w' ⟨rfl, rfl⟩
            go_wp2_with fail
            refine (c5.out _).mono ?_
            rintro e w' ⟨rfl, rfl⟩
            go_wp2_with fail
            refine (c7.out _).mono ?_
            rintro e w' ⟨rfl, rfl⟩
            go_wp2_with fail
            refine (c8.out _).mono ?_
            rintro e w' ⟨rfl, rfl⟩
            go_wp2_with fail
            refine (c9.out _).mono ?_
            rintro e w' ⟨rfl, rfl⟩
            go_wp2
            go_ret
            exact ⟨ret_eq (by simp), Below.refl _ _⟩
          · have c8 := Lib.hid (fun W => Stand_is c a 4 (side_gt c a hc ha nc na (by omega)) W)
            have c9 := Lib.hid (fun W => Stand_is c u 4 (side_gt c u hc hul nc hn (by omega)) W)
            clear nc h4
            clear hul hn hk hbk hui hbn hbk2 hbl hb hu ha hc na hi
            go_enter Try.func9, Try.ntmps9
            go_wp2_with fail
            refine (c1.out _).mono ?_
            rintro e w' ⟨rfl, rfl⟩
            go_wp2_with fail
            refine (c2.out _).mono ?_
            rintro e w' ⟨rfl, rfl⟩
            go_wp2_with fail
            refine (c3.out _).mono ?_
            rintro e w' ⟨rfl, rfl⟩
            go_wp2_with fail
            refine (c4.out _).mono ?_
            rintro e w' ⟨rfl, rfl⟩
            go_wp2_with fail
            refine (c5.out _).mono ?_
            rintro e w' ⟨rfl, rfl⟩
            go_wp2_with fail
            refine (c6.out _).mono ?_
            rintro e w' ⟨rfl, rfl⟩
            go_wp2_with fail
            refine (c5.out _).mono ?_
            rintro e w' ⟨rfl, rfl⟩
            go_wp2_with fail
            refine (c7.out _).mono ?_
            rintro e w' ⟨rfl, rfl⟩
            go_wp2_with fail
            refine (c8.out _).mono ?_
            rintro e w' ⟨rfl, rfl⟩
            go_wp2_with fail
            refine (c9.out _).mono ?_
            rintro e w' ⟨rfl, rfl⟩
            go_wp2
            go_ret
            exact ⟨ret_eq (by simp), Below.refl _ _⟩

/-! ### THE ROW's STEP: WRITTEN OUT: LEAVE IT -/
set_option maxRecDepth 100000 in
theorem lifted (os : Os) (started : os.Started) (H : Type) (enc : TypeId × Value → H) :
    ReturnsInHanded {} Try.checked os 9 .any (Rows.singleNeighboursSpec.pre6 enc Try.prog Try.f9 Rows.singleNeighboursRow.domain false) (Rows.singleNeighboursSpec.post enc Try.prog Try.f9 false true false false) := by
  refine returnsInHanded_of_change (C := Try.checked) own started (by kernel_rfl) Try.func9
    (ChangeSpec.witness6 (enc := enc) (C := Try.checked) false ⟨#[], #[.int .u32 0, .int .u32 0], []⟩ 8 (by kernel_rfl) (by kernel_rfl) (by kernel_rfl) (by kernel_rfl)) ?_
  intro W base args ds gs before hval0 hW hcnd _
  have hval : ∀ (j : Nat) t v, Try.f9.params[j]? = some t → args[j]? = some v → Value.okWide Try.prog W .any base t v := hval0
  have hW' := hW
  obtain ⟨p, q, hA0, hV, rfl, hfz, hnd⟩ := hW
  have hA : DataW.TrodAll enc Try.prog W 0 (fun _ => true) true Try.f9.params.toList args.toList ds p := hA0
  rw [Try.params9] at hA hval
  obtain ⟨v0, vs0, d0, ds0, p0, q0, hargs, rfl, rfl, h0, r0⟩ := trodAll_cons hA
  obtain ⟨v1, vs1, d1, ds1, p1, q1, rfl, rfl, rfl, h1, r1⟩ := trodAll_cons r0
  obtain ⟨rfl, rfl, rfl⟩ := trodAll_nil r1
  obtain rfl : args = #[v0, v1] := by cases args; simp_all
  obtain ⟨rfl, rfl⟩ := trodVars_none hV
  obtain ⟨a0, rfl, rfl, rfl, w0⟩ := open_int Try.underlying23 (hval 0 23 v0 rfl rfl) h0
  obtain ⟨a1, rfl, rfl, rfl, w1⟩ := open_int Try.underlying23 (hval 1 23 v1 rfl rfl) h1
  clear hA0 hval0
  simp only [List.append_nil] at hW'
  refine (walk a0 a1 w0 w1 W).mono fun e W' ⟨he, hg⟩ => ?_
  subst he
  exact ⟨_, rfl, _, _, _, [], [], [], hW', (trodAll_cons_mk (shut_bool Try.underlying4 _) trodAll_mk0), (trodAll_cons_mk (shut_int Try.underlying23 w0) (trodAll_cons_mk (shut_int Try.underlying23 w1) trodAll_mk0)), rfl, hg.frame _, fun h => by cases h⟩

theorem over : Rows.singleNeighboursRow.holds Try.pinned (OpenSpec.ofChange Rows.singleNeighboursSpec) :=
  OpenClaim.holds_of_wide 9 Try.f9 rfl rfl rfl rfl rfl rfl rfl ⟨rfl, rfl, rfl, rfl, rfl⟩ rfl rfl rfl rfl rfl (by kernel_rfl) Try.func9 (by kernel_rfl)
    (of_decide_eq_true (by kernel_rfl)) (by unfold Func.isWrapper; first | (rw [if_pos (by decide +kernel)]; kernel_rfl) | (rw [if_neg (by decide +kernel)]; exact ⟨rfl, rfl⟩))
    (fun os started H enc _ => lifted os started H enc)

/-- ████ THE STATEMENT ████ -/
theorem proved : Rows.SingleNeighboursSaid :=
  over
#print axioms proved
end Go.Proofs.Ytllchfdddfmjbaa.singleNeighbours
