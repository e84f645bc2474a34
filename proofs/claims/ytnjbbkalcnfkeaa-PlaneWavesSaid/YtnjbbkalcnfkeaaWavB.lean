/- Contracts of package plane: the spectrum, forward. -/
import Derived.Test.YtnjbbkalcnfkeaaWavA
import Derived.Deep.DeepCutAuto
import Derived.WalkKit
import Derived.Lib.Hide
import Derived.IntWalk
import Derived.Deep.RegionLaw
namespace Go.Proofs.Ytnjbbkalcnfkeaa
open Go.RowKit Ieee
set_option linter.unusedVariables false

@[go_sem] theorem run_store_cx (w : World) (a : Addr) (k : FloatKind) (x y : Nat) (m : Mode) (h1 : (w.cell? a).isSome = true) (h2 : w.frozen? a = false) : (store a (.complex k x y) m).run Try.prog w = .ok () (w.setCell a (.complex k x y)) := by
  obtain ⟨u, hu⟩ := Option.isSome_iff_exists.1 h1
  rw [run_store _ _ _ _ _ rfl, hu, h2]; rfl

/-- The row of n points at block g: of each cell R is said. -/
def Rw (w : World) (g n : Nat) (R : Nat → Nat → Nat → Prop) : Prop := ∀ i, i < n → ∃ x y, w.cell? ⟨g, i, none⟩ = some (.complex .f64 x y) ∧ w.frozen? ⟨g, i, none⟩ = false ∧ R i x y
theorem rw_keep {W w1 : World} {g n : Nat} {R : Nat → Nat → Nat → Prop} (h : Rw W g n R) (hb : Below W.heap.size W w1) : Rw w1 g n R := fun i hi => by
  obtain ⟨x, y, hc, hf, hr⟩ := h i hi
  exact ⟨x, y, keepc hb hc, keepf hb hc hf, hr⟩
theorem rw_mono {W : World} {g n : Nat} {R R' : Nat → Nat → Nat → Prop} (h : Rw W g n R) (hm : ∀ i, i < n → ∀ x y, R i x y → R' i x y) : Rw W g n R' := fun i hi => by
  obtain ⟨x, y, hc, hf, hr⟩ := h i hi
  exact ⟨x, y, hc, hf, hm i hi x y hr⟩
theorem rw_set {W : World} {g n j : Nat} {R R' : Nat → Nat → Nat → Prop} (h : Rw W g n R) (x y : Nat) (hj : R' j x y) (hm : ∀ i, i < n → i ≠ j → ∀ x y, R i x y → R' i x y) : Rw (W.setCell ⟨g, j, none⟩ (.complex .f64 x y)) g n R' := fun i hi => by
  obtain ⟨x', y', hc, hf, hr⟩ := h i hi
  by_cases hij : i = j
  · subst hij
    exact ⟨x, y, World.cell?_setCell_same _ _ _ hc, by rw [World.frozen?_setCell]; exact hf, hj⟩
  · refine ⟨x', y', ?_, by rw [World.frozen?_setCell]; exact hf, hm i hi hij x' y' hr⟩
    rw [World.cell?_setCell_other]
    · exact hc
    · intro e; injection e with _ e2; exact hij e2.symm

theorem rw_made {W : World} {base g n : Nat} (h : W.ownsRow base 29 1 (.slice (some ⟨g, 0, none⟩) n n) n (madeCells #[.complex .f64 0 0] n).toList) : Rw W g n (fun _ x y => x = 0 ∧ y = 0) := fun i hi => by
  refine ⟨0, 0, ?_, h.frozenAt i, rfl, rfl⟩
  rw [h.cellAt i (by omega), toList_madeCells_one, List.getElem?_replicate, if_pos hi]

def StepH (n : Nat) (q : Nat → Nat → Nat) (px py : Nat → Nat) (I : Nat → Nat → Nat → Nat → Prop) : Prop :=
  ∀ j k, j < n → k < n → ∀ x y, I j k x y → ∀ a b, IsF (comb .sub (floatBits .mul .f64 (px k) (rtX (q j k))) (floatBits .mul .f64 (py k) (rtY (q j k)))) a → IsF (comb .add (floatBits .mul .f64 (px k) (rtY (q j k))) (floatBits .mul .f64 (py k) (rtX (q j k)))) b →
    ∀ x' y', IsF (floatBits .add .f64 x a) x' → IsF (floatBits .add .f64 y b) y' → I j (k + 1) x' y'
def WvOut (w : World) (n : Nat) (F : Nat → Nat → Nat → Prop) (e : Ending) (w' : World) : Prop :=
  ∃ g, e = .returned (.tuple #[.slice (some ⟨g, 0, none⟩) n n, .int .i64 0]) ∧ w.heap.size ≤ g ∧ Below w.heap.size w w' ∧ Rw w' g n F
/-- What is said of the row in the midst: in row j, k steps done. -/
def Mid (I : Nat → Nat → Nat → Nat → Prop) (F : Nat → Nat → Nat → Prop) (j k : Nat) (i x y : Nat) : Prop := if i < j then F i x y else if i = j then I j k x y else x = 0 ∧ y = 0
theorem mid_at {I : Nat → Nat → Nat → Nat → Prop} {F : Nat → Nat → Nat → Prop} {j k x y : Nat} : Mid I F j k j x y ↔ I j k x y := by
  unfold Mid; rw [if_neg (by omega), if_pos rfl]
theorem mid_off {I : Nat → Nat → Nat → Nat → Prop} {F : Nat → Nat → Nat → Prop} {j k k' i x y : Nat} (hi : i ≠ j) (h : Mid I F j k i x y) : Mid I F j k' i x y := by
  unfold Mid at h ⊢; rw [if_neg hi] at h ⊢; exact h
theorem mid_off2 {n : Nat} {I : Nat → Nat → Nat → Nat → Prop} {F : Nat → Nat → Nat → Prop} {j k i x y : Nat} (h0 : ∀ j, j < n → I j 0 0 0) (hi : i ≠ j) (hin : i < n) (h : Mid I F j k i x y) : Mid I F (j + 1) 0 i x y := by
  unfold Mid at h ⊢
  rw [if_neg hi] at h
  by_cases h1 : i < j
  · rw [if_pos h1] at h; rw [if_pos (by omega)]; exact h
  · rw [if_neg h1] at h
    rw [if_neg (by omega)]
    split
    · rename_i h2; obtain ⟨rfl, rfl⟩ := h; rw [← h2]; exact h0 _ hin
    · exact h
theorem mid_next {n : Nat} {I : Nat → Nat → Nat → Nat → Prop} {F : Nat → Nat → Nat → Prop} {j i x y : Nat} (h0 : ∀ j, j < n → I j 0 0 0) (hf : ∀ j, j < n → ∀ x y, I j n x y → F j x y) (hin : i < n) (h : Mid I F j n i x y) : Mid I F (j + 1) 0 i x y := by
  by_cases hi : i = j
  · subst hi
    have h2 := hf i hin x y (mid_at.1 h)
    unfold Mid; rw [if_pos (by omega)]; exact h2
  · exact mid_off2 h0 hi hin h
theorem mid_all {I : Nat → Nat → Nat → Nat → Prop} {F : Nat → Nat → Nat → Prop} {j i x y : Nat} (hi : i < j) (h : Mid I F j 0 i x y) : F i x y := by
  unfold Mid at h; rw [if_pos hi] at h; exact h
def qF (n j k : Nat) : Nat := j * k * (8 / n) % 8

theorem cx_info : (Try.prog.info? 29).map (fun i => (i.zero, i.size, i.bytes)) = some (some (.complex .f64 0 0), 1, 16) := by kernel_rfl

theorem i64_and7 (n : Int) : bits .and .i64 n 7 = n % 8 := by
  have h3 : (BitVec.ofInt 64 7).toNat = 2 ^ 3 - 1 := by decide
  have key : (BitVec.ofInt 64 n &&& BitVec.ofInt 64 7).toNat = (n % ((2 ^ 64 : Nat) : Int)).toNat % 2 ^ 3 := by
    rw [BitVec.toNat_and, BitVec.toNat_ofInt, h3, Nat.and_two_pow_sub_one_eq_mod]
  show IntKind.i64.wrap ((BitVec.ofInt 64 n &&& BitVec.ofInt 64 7).toNat : Nat) = n % 8
  rw [key, IntKind.wrap_i64]
  omega

theorem q_fact {j k n : Nat} (hj : j < n) (hk : k < n) (hn : n = 1 ∨ n = 2 ∨ n = 4 ∨ n = 8) : bits .and .i64 (wrap64 ((j : Int) * (k : Int) * (8 / (n : Int)))) 7 = ((qF n j k : Nat) : Int) := by
  have hjk : j * k ≤ 49 := Nat.mul_le_mul (show j ≤ 7 by omega) (show k ≤ 7 by omega)
  have e1 : (8 / (n : Int)) = ((8 / n : Nat) : Int) := (Int.natCast_ediv 8 n).symm
  have h1 : j * k * (8 / n) ≤ 49 * 8 := Nat.mul_le_mul hjk (Nat.div_le_self 8 n)
  rw [e1, ← Int.natCast_mul, ← Int.natCast_mul]
  unfold qF
  obtain ⟨m, hm⟩ : ∃ m, j * k * (8 / n) = m := ⟨_, rfl⟩
  rw [hm] at h1 ⊢
  rw [IntWalk.wrap64_in _ (by omega), i64_and7]
  omega

set_option maxRecDepth 100000 in
set_option maxHeartbeats 4000000 in
theorem wave_fwd (n : Nat) (hn : n = 1 ∨ n = 2 ∨ n = 4 ∨ n = 8) (b cap : Nat) (px py : Nat → Nat) (I : Nat → Nat → Nat → Nat → Prop) (F : Nat → Nat → Nat → Prop) (w : World)
    (hin : ∀ k, k < n → w.cell? ⟨b, k, none⟩ = some (.complex .f64 (px k) (py k))) (h0 : ∀ j, j < n → I j 0 0 0) (hs : StepH n (qF n) px py I) (hf : ∀ j, j < n → ∀ x y, I j n x y → F j x y) :
    Calls Try.prog 21 #[.slice (some ⟨b, 0, none⟩) n cap, .bool false] w (WvOut w n F) := by
  have HIN := Lib.hid hin
  have H0 := Lib.hid h0
  have HS := Lib.hid hs
  have HF := Lib.hid hf
  have HN := Lib.hid hn
  have hn8 : (n : Int) ≤ 8 := by omega
  have hn1 : (1 : Int) ≤ n := by omega
  have hnz : (n : Int) ≠ 0 := by omega
  clear hin h0 hs hf hn
  obtain ⟨i0, hi, hz0, hz1, hz2⟩ := info_parts cx_info
  have hI0 := Lib.hid hi
  clear hi
  go_enter Try.func21, Try.ntmps21
  go_upto_region 2 with fail
  go_cut [27] (fun s wx => s = .bool false ∧ w = wx)
  case first =>
    go_wp2_with fail
    · obtain rfl : n = 1 := by omega
      go_meet
      exact ⟨rfl, rfl⟩
    · obtain rfl : n = 2 := by omega
      go_meet
      exact ⟨rfl, rfl⟩
    · obtain rfl : n = 4 := by omega
      go_meet
      exact ⟨rfl, rfl⟩
    · go_meet
      refine ⟨?_, rfl⟩
      rcases HN.out with h | h | h | h <;> subst h <;> rfl
  case rest =>
    obtain ⟨rfl, rfl⟩ := hcut
    go_wp2_with (at_make; (refine wpList_make_full _ (by rfl) _ _ 43 (by rfl) w.heap.size 29 i0 (.complex .f64 0 0) 1 Try.underlying43 hI0.out hz0 hz1 .i64 .i64 _ _ n (by rfl) (by rfl) rfl rfl (by rw [hz2]; omega) (by unfold maxLen; omega) (Nat.le_refl _) ?_))
    intro w1 hown hgrow
    have hrow0 := rw_made hown
    have hbel0 : Below w.heap.size w w1 := (Below.refl _ _).grown hgrow (Nat.le_refl _) (fun k h => by cases h)
    clear hown hgrow hz0 hz1 hz2 hI0
    obtain ⟨g, hg⟩ : ∃ g, w.heap.size = g := ⟨_, rfl⟩
    have hgl : g ≤ w1.heap.size := by rw [← hg]; exact hbel0.size
    have HB0 := Lib.hid hbel0
    have HR0 := Lib.hid hrow0
    clear hbel0 hrow0
    have HG := Lib.hid hg
    rw [hg] at HR0 ⊢
    clear hg
    go_wp2
    go_loopw [32] (fun s wr => ∃ j : Nat, j ≤ n ∧ s = .int .i64 (j : Int) ∧ Rw wr g n (Mid I F j 0) ∧ Below w.heap.size w wr) (fun s _ => n - (intOf s).toNat)
    case atStart =>
      refine ⟨0, by omega, rfl, rw_mono HR0.out ?_, HB0.out⟩
      rintro i hi x y h
      unfold Mid
      rw [if_neg (by omega)]
      split
      · rename_i h2; subst h2; obtain ⟨rfl, rfl⟩ := h; exact H0.out _ hi
      · exact h
    case round =>
      obtain ⟨j, hj, rfl, hrow, hbel⟩ := hrel
      have HR := Lib.hid hrow
      have HB := Lib.hid hbel
      clear hrow hbel
      by_cases hjn : j < n
      · have hdec : decide ((j : Int) < (n : Int)) = true := decide_eq_true (by omega)
        go_wp2
        go_loopw [37] (fun s wr => ∃ k : Nat, k ≤ n ∧ s = .int .i64 (k : Int) ∧ Rw wr g n (Mid I F j k) ∧ Below w.heap.size w wr) (fun s _ => n - (intOf s).toNat)
        case atStart => exact ⟨0, by omega, rfl, HR.out, HB.out⟩
        case round =>
          obtain ⟨k, hk, rfl, hrow2, hbel2⟩ := hrel
          clear HR HB
          by_cases hkn : k < n
          · have hdec2 : decide ((k : Int) < (n : Int)) = true := decide_eq_true (by omega)
            have hcp : wr.cell? ⟨b, k, none⟩ = some (.complex .f64 (px k) (py k)) := (hbel2.cell (World.block_lt_of_cell? w _ (HIN.out k hkn))).trans (HIN.out k hkn)
            obtain ⟨x, y, hco, hfo, hI⟩ := hrow2 j hjn
            have HR := Lib.hid hrow2
            have HB := Lib.hid hbel2
            have HI := Lib.hid hI
            clear hrow2 hbel2 hI
            obtain ⟨X, hX⟩ : ∃ X, px k = X := ⟨_, rfl⟩
            obtain ⟨Y, hY⟩ : ∃ Y, py k = Y := ⟨_, rfl⟩
            rw [hX, hY] at hcp
            have HX := Lib.hid hX
            have HY := Lib.hid hY
            clear hX hY
            have hjk : j * k ≤ 49 := Nat.mul_le_mul (show j ≤ 7 by omega) (show k ≤ 7 by omega)
            obtain ⟨q, hq⟩ : ∃ q, qF n j k = q := ⟨_, rfl⟩
            have f1 : IntKind.i64.wrap ((j : Int) * (k : Int)) = (j : Int) * (k : Int) := by
              rw [← Int.natCast_mul]; exact IntWalk.i64_in _ (by omega)
            have f3 : bits .and .i64 (wrap64 ((j : Int) * (k : Int) * (8 / (n : Int)))) 7 = ((q : Nat) : Int) := by rw [q_fact hjn hkn HN.out, hq]
            have hq7 : q ≤ 7 := by rw [← hq]; unfold qF; omega
            have HQ := Lib.hid hq
            clear hq
            have i0 : (0 : Int) ≤ (j : Int) := by omega
            have i1 : (j : Int) < (n : Int) := by omega
            have i2 : (0 : Int) ≤ (k : Int) := by omega
            have i3 : (k : Int) < (n : Int) := by omega
            clear hjk
            go_upto_region 14 with fail
            clear f1 f3
            go_region_law (first
                | (go_simp; go_at_call 36; refine (root_any q (by omega) _).mono ?_; rintro e w2 ⟨rfl, hb2⟩; have hc2 := keepc hb2 (show _ = some (.complex .f64 x y) from by first | exact hco | (simp; exact hco)); have hf2 := keepf hb2 (show _ = some (.complex .f64 x y) from by first | exact hco | (simp; exact hco)) (show _ = false from by first | exact hfo | (simp; exact hfo)))
                | (go_simp; go_at_call 18; refine (Mul_any X Y (rtX q) (rtY q) _).mono ?_; rintro e w' ⟨ma, mb, n1, rfl, hma, hmb, rfl⟩)
                | (go_simp; go_at_call 19; refine (Add_any x y ma mb _).mono ?_; rintro e w' ⟨sa, sb, n2, rfl, hsa, hsb, rfl⟩))
            all_goals
              have hbb := bs_drewN (bs_step (bs_drew (Below.refl wr.heap.size wr)) hb2) (n1 + n2)
              have HBB := Lib.hid hbb
              clear hbb hb2 hc2 hf2
              go_wp2
              go_roundw
              case rel =>
                refine ⟨k + 1, by omega, by go_num, rw_set (rw_keep HR.out HBB.out) sa sb (mid_at.2 ?_) (fun i _ hij x y h => mid_off hij h), ?_⟩
                · exact HS.out j k hjn hkn x y (mid_at.1 HI.out) ma mb (by rw [HX.out, HY.out, HQ.out]; exact hma) (by rw [HX.out, HY.out, HQ.out]; exact hmb) sa sb hsa hsb
                · exact (HB.out.trans (HBB.out.mono HB.out.size)).setCell (p := ⟨g, j, none⟩) (by rw [HG.out]; exact Nat.le_refl _) _
              case measure => simp [intOf]; omega
          · have hdec2 : decide ((k : Int) < (n : Int)) = false := decide_eq_false (by omega)
            obtain rfl : k = n := by omega
            have HR := Lib.hid hrow2
            have HB := Lib.hid hbel2
            clear hrow2 hbel2
            go_wp2
            go_roundw
            case rel => exact ⟨j + 1, by omega, by go_num, rw_mono HR.out (fun i hi x y h => mid_next H0.out HF.out hi h), HB.out⟩
            case measure => simp [intOf]; omega
      · have hdec : decide ((j : Int) < (n : Int)) = false := decide_eq_false (by omega)
        go_wp2
        go_ret2
        exact ⟨g, rfl, by rw [HG.out]; exact Nat.le_refl _, HB.out, rw_mono HR.out (fun i hi x y h => mid_all (by omega) h)⟩
end Go.Proofs.Ytnjbbkalcnfkeaa
