/- Contracts of package plane: the spectrum, back (printed by a program of ours). -/
import Derived.Test.YtnjbbkalcnfkeaaWavB
import Derived.BigRegion
namespace Go.Proofs.Ytnjbbkalcnfkeaa
open Go.RowKit Ieee
set_option linter.unusedVariables false

set_option maxRecDepth 100000 in
set_option maxHeartbeats 4000000 in
theorem wave_bwd (n : Nat) (hn : n = 1 ∨ n = 2 ∨ n = 4 ∨ n = 8) (b cap : Nat) (px py : Nat → Nat) (I : Nat → Nat → Nat → Nat → Prop) (F : Nat → Nat → Nat → Prop) (w : World)
    (hin : ∀ k, k < n → w.cell? ⟨b, k, none⟩ = some (.complex .f64 (px k) (py k))) (h0 : ∀ j, j < n → I j 0 0 0) (D : Nat) (hd : floatOfInt .f64 (n : Int) = D) (hs : StepH n (fun j k => 8 - qF n j k) px py I)
    (hf : ∀ j, j < n → ∀ x y, I j n x y → ∃ x' y', floatBits .quo .f64 x D = some x' ∧ floatBits .quo .f64 y D = some y' ∧ F j x' y') :
    Calls Try.prog 21 #[.slice (some ⟨b, 0, none⟩) n cap, .bool true] w (WvOut w n F) := by
  have HIN := Lib.hid hin
  have H0 := Lib.hid h0
  have HS := Lib.hid hs
  have HF := Lib.hid hf
  have HD := Lib.hid hd
  have HN := Lib.hid hn
  have hn8 : (n : Int) ≤ 8 := by omega
  have hn1 : (1 : Int) ≤ n := by omega
  have hnz : (n : Int) ≠ 0 := by omega
  clear hin h0 hs hf hn hd
  obtain ⟨i0, hi, hz0, hz1, hz2⟩ := info_parts cx_info
  have hI0 := Lib.hid hi
  clear hi
  go_enter Try.func21, Try.ntmps21
  go_upto_region 2 with fail
  go_cut [27] (fun s wx => s = .bool false ∧ w = wx)
  case first =>
    go_wp2_with fail
    · obtain rfl : n = 1 := by omega
      go_meet
      exact ⟨rfl, rfl⟩
    · obtain rfl : n = 2 := by omega
      go_meet
      exact ⟨rfl, rfl⟩
    · obtain rfl : n = 4 := by omega
      go_meet
      exact ⟨rfl, rfl⟩
    · go_meet
      refine ⟨?_, rfl⟩
      rcases HN.out with h | h | h | h <;> subst h <;> rfl
  case rest =>
    obtain ⟨rfl, rfl⟩ := hcut
    go_wp2_with (at_make; (refine wpList_make_full _ (by rfl) _ _ 43 (by rfl) w.heap.size 29 i0 (.complex .f64 0 0) 1 Try.underlying43 hI0.out hz0 hz1 .i64 .i64 _ _ n (by rfl) (by rfl) rfl rfl (by rw [hz2]; omega) (by unfold maxLen; omega) (Nat.le_refl _) ?_))
    intro w1 hown hgrow
    have hrow0 := rw_made hown
    have hbel0 : Below w.heap.size w w1 := (Below.refl _ _).grown hgrow (Nat.le_refl _) (fun k h => by cases h)
    clear hown hgrow hz0 hz1 hz2 hI0
    obtain ⟨g, hg⟩ : ∃ g, w.heap.size = g := ⟨_, rfl⟩
    have hgl : g ≤ w1.heap.size := by rw [← hg]; exact hbel0.size
    have HB0 := Lib.hid hbel0
    have HR0 := Lib.hid hrow0
    clear hbel0 hrow0
    have HG := Lib.hid hg
    rw [hg] at HR0 ⊢
    clear hg
    go_wp2
    go_loopw [32] (fun s wr => ∃ j : Nat, j ≤ n ∧ s = .int .i64 (j : Int) ∧ Rw wr g n (Mid I F j 0) ∧ Below w.heap.size w wr) (fun s _ => n - (intOf s).toNat)
    case atStart =>
      refine ⟨0, by omega, rfl, rw_mono HR0.out ?_, HB0.out⟩
      rintro i hi x y h
      unfold Mid
      rw [if_neg (by omega)]
      split
      · rename_i h2; subst h2; obtain ⟨rfl, rfl⟩ := h; exact H0.out _ hi
      · exact h
    case round =>
      obtain ⟨j, hj, rfl, hrow, hbel⟩ := hrel
      have HR := Lib.hid hrow
      have HB := Lib.hid hbel
      clear hrow hbel
      by_cases hjn : j < n
      · have hdec : decide ((j : Int) < (n : Int)) = true := decide_eq_true (by omega)
        go_wp2
        go_loopw [37] (fun s wr => ∃ k : Nat, k ≤ n ∧ s = .int .i64 (k : Int) ∧ Rw wr g n (Mid I F j k) ∧ Below w.heap.size w wr) (fun s _ => n - (intOf s).toNat)
        case atStart => exact ⟨0, by omega, rfl, HR.out, HB.out⟩
        case round =>
          obtain ⟨k, hk, rfl, hrow2, hbel2⟩ := hrel
          clear HR HB
          by_cases hkn : k < n
          · have hdec2 : decide ((k : Int) < (n : Int)) = true := decide_eq_true (by omega)
            have hcp : wr.cell? ⟨b, k, none⟩ = some (.complex .f64 (px k) (py k)) := (hbel2.cell (World.block_lt_of_cell? w _ (HIN.out k hkn))).trans (HIN.out k hkn)
            obtain ⟨x, y, hco, hfo, hI⟩ := hrow2 j hjn
            have HR := Lib.hid hrow2
            have HB := Lib.hid hbel2
            have HI := Lib.hid hI
            clear hrow2 hbel2 hI
            obtain ⟨X, hX⟩ : ∃ X, px k = X := ⟨_, rfl⟩
            obtain ⟨Y, hY⟩ : ∃ Y, py k = Y := ⟨_, rfl⟩
            rw [hX, hY] at hcp
            have HX := Lib.hid hX
            have HY := Lib.hid hY
            clear hX hY
            have hjk : j * k ≤ 49 := Nat.mul_le_mul (show j ≤ 7 by omega) (show k ≤ 7 by omega)
            obtain ⟨q, hq⟩ : ∃ q, qF n j k = q := ⟨_, rfl⟩
            have f1 : IntKind.i64.wrap ((j : Int) * (k : Int)) = (j : Int) * (k : Int) := by
              rw [← Int.natCast_mul]; exact IntWalk.i64_in _ (by omega)
            have f3 : bits .and .i64 (wrap64 ((j : Int) * (k : Int) * (8 / (n : Int)))) 7 = ((q : Nat) : Int) := by rw [q_fact hjn hkn HN.out, hq]
            have hq7 : q ≤ 7 := by rw [← hq]; unfold qF; omega
            obtain ⟨r, hr⟩ : ∃ r, 8 - q = r := ⟨_, rfl⟩
            have f5 : 8 - (q : Int) = (r : Int) := by omega
            have hr8 : r ≤ 8 := by omega
            have HQ := Lib.hid (show 8 - qF n j k = r by rw [hq]; exact hr)
            clear hq hr
            have i0 : (0 : Int) ≤ (j : Int) := by omega
            have i1 : (j : Int) < (n : Int) := by omega
            have i2 : (0 : Int) ≤ (k : Int) := by omega
            have i3 : (k : Int) < (n : Int) := by omega
            clear hjk
            go_upto_region 14 with fail
            clear f1 f3 f5
            go_region_law (first
                | (go_simp; go_at_call 36; refine (root_any r hr8 _).mono ?_; rintro e w2 ⟨rfl, hb2⟩; have hc2 := keepc hb2 (show _ = some (.complex .f64 x y) from by first | exact hco | (simp; exact hco)); have hf2 := keepf hb2 (show _ = some (.complex .f64 x y) from by first | exact hco | (simp; exact hco)) (show _ = false from by first | exact hfo | (simp; exact hfo)))
                | (go_simp; go_at_call 18; refine (Mul_any X Y (rtX r) (rtY r) _).mono ?_; rintro e w' ⟨ma, mb, n1, rfl, hma, hmb, rfl⟩)
                | (go_simp; go_at_call 19; refine (Add_any x y ma mb _).mono ?_; rintro e w' ⟨sa, sb, n2, rfl, hsa, hsb, rfl⟩))
            all_goals
              have hbb := bs_drewN (bs_step (bs_drew (Below.refl wr.heap.size wr)) hb2) (n1 + n2)
              have HBB := Lib.hid hbb
              clear hbb hb2 hc2 hf2
              go_wp2
              go_roundw
              case rel =>
                refine ⟨k + 1, by omega, by go_num, rw_set (rw_keep HR.out HBB.out) sa sb (mid_at.2 ?_) (fun i _ hij x y h => mid_off hij h), ?_⟩
                · have e := HS.out j k hjn hkn x y (mid_at.1 HI.out)
                  simp only [HX.out, HY.out, HQ.out] at e
                  exact e ma mb hma hmb sa sb hsa hsb
                · exact (HB.out.trans (HBB.out.mono HB.out.size)).setCell (p := ⟨g, j, none⟩) (by rw [HG.out]; exact Nat.le_refl _) _
              case measure => simp [intOf]; omega
          · have hdec2 : decide ((k : Int) < (n : Int)) = false := decide_eq_false (by omega)
            obtain rfl : k = n := by omega
            have HR := Lib.hid hrow2
            have HB := Lib.hid hbel2
            obtain ⟨x, y, hco, hfo, hI⟩ := hrow2 j hjn
            obtain ⟨x', y', hqx, hqy, hFF⟩ := HF.out j hjn x y (mid_at.1 hI)
            have HFF := Lib.hid hFF
            have q1 := fun W : World => run_float_arith (P := Try.prog) W .quo 33 .f64 x D x' hqx
            have q2 := fun W : World => run_float_arith (P := Try.prog) W .quo 33 .f64 y D y' hqy
            have i0 : (0 : Int) ≤ (j : Int) := by omega
            have i1 : (j : Int) < (k : Int) := by omega
            have hD := HD.out
            clear hrow2 hbel2 hI hqx hqy hFF
            go_wp2
            go_region
            all_goals
              go_wp2
              go_roundw
              case rel =>
                refine ⟨j + 1, by omega, by go_num, rw_set (rw_keep HR.out (bs_drew (Below.refl _ _))) x' y' ?_ (fun i hi hij x y h => mid_off2 H0.out hij hi h), ?_⟩
                · unfold Mid; rw [if_pos (by omega)]; exact HFF.out
                · exact (HB.out.drew).setCell (p := ⟨g, j, none⟩) (by rw [HG.out]; exact Nat.le_refl _) _
              case measure => simp [intOf]; omega
      · have hdec : decide ((j : Int) < (n : Int)) = false := decide_eq_false (by omega)
        go_wp2
        go_ret2
        exact ⟨g, rfl, by rw [HG.out]; exact Nat.le_refl _, HB.out, rw_mono HR.out (fun i hi x y h => mid_all (by omega) h)⟩
end Go.Proofs.Ytnjbbkalcnfkeaa
