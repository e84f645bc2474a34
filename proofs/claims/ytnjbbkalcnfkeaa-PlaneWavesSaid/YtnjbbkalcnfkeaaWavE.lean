/- The walk of PlaneWaves. -/
import Derived.Test.YtnjbbkalcnfkeaaWavD
import Derived.Test.YtnjbbkalcnfkeaaWavS
import Derived.Deep.AppendLies
import Derived.BigRegion
namespace Go.Proofs.Ytnjbbkalcnfkeaa
open Go.RowKit Ieee
set_option linter.unusedVariables false

def cx (pX pY : Nat → Nat) (i : Nat) : Value := .complex .f64 (pX i) (pY i)
theorem cx_row (pX pY : Nat → Nat) (k x y : Nat) (hx : pX k = x) (hy : pY k = y) : (List.range k).map (cx pX pY) ++ [.complex .f64 x y] = (List.range (k + 1)).map (cx pX pY) := by
  rw [List.range_succ, List.map_append, ← hx, ← hy]; rfl
theorem row_form {w : World} {base n : Nat} {v : Value} {xs : List Value} (h : w.ownsRow base 29 1 v n xs) : ∃ A cap, v = .slice A n cap ∧ (0 < n → ∃ g, A = some ⟨g, 0, none⟩ ∧ base ≤ g) := by
  rcases h.2 with ⟨rfl, h0⟩ | ⟨g, cap, cur, rfl, hb, -⟩
  · subst h0; exact ⟨_, _, rfl, fun h => by omega⟩
  · exact ⟨_, _, rfl, fun _ => ⟨g, rfl, hb⟩⟩
theorem rw_fun {w : World} {g n : Nat} {R : Nat → Nat → Nat → Prop} (h : Rw w g n R) : ∃ ox oy : Nat → Nat, ∀ i, i < n → w.cell? ⟨g, i, none⟩ = some (.complex .f64 (ox i) (oy i)) ∧ R i (ox i) (oy i) := by
  refine ⟨fun i => if hi : i < n then Classical.choose (h i hi) else 0, fun i => if hi : i < n then Classical.choose (Classical.choose_spec (h i hi)) else 0, ?_⟩
  intro i hi
  have hs := Classical.choose_spec (Classical.choose_spec (h i hi))
  simp only [dif_pos hi]
  exact ⟨hs.1, hs.2.2⟩
theorem row_cells {w : World} {base g n cap : Nat} {pX pY : Nat → Nat} (h : w.ownsRow base 29 1 (.slice (some ⟨g, 0, none⟩) n cap) n ((List.range n).map (cx pX pY))) : ∀ i, i < n → w.cell? ⟨g, i, none⟩ = some (.complex .f64 (pX i) (pY i)) := by
  intro i hi
  rw [h.cellAt i (by omega), List.getElem?_map, List.getElem?_range hi]; rfl
def bd (x : Int) : Int := x.tmod 1099511627776
theorem bd_le (x : Int) : (bd x).natAbs ≤ 1099511627776 := by
  unfold bd
  rw [Int.natAbs_tmod]
  have := Nat.mod_lt x.natAbs (show 0 < (1099511627776 : Int).natAbs by decide)
  omega

set_option maxRecDepth 100000 in
set_option maxHeartbeats 8000000 in
theorem walk_waves (A : Option Addr) (b o len cap : Nat) (re im : Nat → Int) (w : World) (hA : ∀ i, i < len → A = some ⟨b, o, none⟩)
    (hc : ∀ i, i < len → w.cell? ⟨b, o + i * 2, none⟩ = some (.int .i64 (re i)) ∧ w.cell? ⟨b, o + i * 2 + 1, none⟩ = some (.int .i64 (im i))) (hlen : len * 16 ≤ 140737488351232) :
    Calls Try.prog 6 #[.slice A len cap] w fun e w' => e = .returned (.bool true) ∧ Below w.heap.size w w' := by
  obtain ⟨pX, hpX⟩ : ∃ f : Nat → Nat, ∀ i, f i = floatOfInt .f64 (bd (re i)) := ⟨_, fun _ => rfl⟩
  obtain ⟨pY, hpY⟩ : ∃ f : Nat → Nat, ∀ i, f i = floatOfInt .f64 (bd (im i)) := ⟨_, fun _ => rfl⟩
  have HPX := Lib.hid hpX
  have HPY := Lib.hid hpY
  have HA := Lib.hid hA
  have HC := Lib.hid hc
  clear hpX hpY hA hc
  obtain ⟨i0, hi, hz0, hz1, hz2⟩ := info_parts cx_info
  have HI := Lib.hid hi
  have HZ0 := Lib.hid hz0
  have HZ1 := Lib.hid hz1
  have HZ2 := Lib.hid hz2
  clear hi hz0 hz1 hz2
  go_enter Try.func6, Try.ntmps6
  go_wp2_with fail
  refine (lives_any _).mono ?_
  rintro e w' ⟨rfl, n0, rfl⟩
  go_wp2
  go_loopw [3, 4] (fun s i wr => ∃ k : Nat, k ≤ len ∧ i = .int .i64 (k : Int) ∧ wr.ownsRow w.heap.size 29 1 s k ((List.range k).map (cx pX pY)) ∧ Below w.heap.size w wr) (fun _ i _ => len - (intOf i).toNat)
  case atStart => exact ⟨0, by omega, rfl, World.ownsRow_nil _ _ _ _, bel_drewN (Below.refl _ _) n0⟩
  case round =>
    obtain ⟨k, hk, rfl, hown, hbel⟩ := hrel
    by_cases hkl : k < len
    · have hdec : decide ((k : Int) < (len : Int)) = true := decide_eq_true (by omega)
      obtain rfl := HA.out k hkl
      obtain ⟨c0, c1⟩ := HC.out k hkl
      have hb1 : wr.cell? ⟨b, o + k * 2, none⟩ = some (.int .i64 (re k)) := (hbel.cell (World.block_lt_of_cell? w _ c0)).trans c0
      have hb2 : wr.cell? ⟨b, o + k * 2 + 1, none⟩ = some (.int .i64 (im k)) := (hbel.cell (World.block_lt_of_cell? w _ c1)).trans c1
      have HOWN := Lib.hid hown
      have HB := Lib.hid hbel
      have hbase := hbel.size
      have hbW := World.block_lt_of_cell? w _ c0
      have hbl : b < wr.heap.size := by simp only at hbW; omega
      have hne : some b ≠ u3.ownBlock := fun h => by have := (World.ownsRow.lt hown b h.symm).1; simp only at hbW; omega
      have HNE := Lib.hid hne
      clear c0 c1 hown hbel hbW hne
      obtain ⟨R, hR⟩ : ∃ R, re k = R := ⟨_, rfl⟩
      obtain ⟨S, hS⟩ : ∃ S, im k = S := ⟨_, rfl⟩
      rw [hR] at hb1
      rw [hS] at hb2
      have HR := Lib.hid hR
      have HS := Lib.hid hS
      clear hR hS
      have i1 : (0 : Int) ≤ (k : Int) := by omega
      have i2 : (k : Int) < (len : Int) := by omega
      go_upto_region 7 with fail
      have e63 : k + 1 ≤ maxLen := by unfold maxLen; omega
      have e47 : (k + 1) * 16 ≤ 140737488355328 := by omega
      go_region_held3 (fun w' => w'.cell? ⟨b, o + k * 2, none⟩ = some (.int .i64 R) ∧ w'.cell? ⟨b, o + k * 2 + 1, none⟩ = some (.int .i64 S)) (first
          | exact ⟨hb1, hb2⟩
          | go_keep
          | (go_split_ands
             refine ⟨?_, ?_⟩
             · (rw [hgrow.cell_far _ (by simp; omega) HNE.out]; first | assumption | go_keep)
             · (rw [hgrow.cell_far _ (by simp; omega) HNE.out]; first | assumption | go_keep)))
        (first
          | (go_at_call_of 20 (Value.int .i64 R); refine (bounded_any R (bd R) rfl _).mono ?_; rintro e w' ⟨rfl, rfl⟩)
          | (go_at_call_of 20 (Value.int .i64 S); refine (bounded_any S (bd S) rfl _).mono ?_; rintro e w' ⟨rfl, rfl⟩)
          | (refine step_append_lies _ (by rfl) _ _ _ (by rfl) w.heap.size 29 i0 _ 1 16 Try.underlying43 HI.out HZ0.out HZ1.out HZ2.out rfl (by omega) u3 k ((List.range k).map (cx pX pY)) (by rfl) ((HOWN.out.alloc _).drew)
              ⟨wr.heap.size, 0, none⟩ 1 1 [.complex .f64 (floatOfInt .f64 (bd R)) (floatOfInt .f64 (bd S))] (by rfl) (by rfl) (World.news_of_block (cs := #[.complex .f64 (floatOfInt .f64 (bd R)) (floatOfInt .f64 (bd S))]) (t := 29) (fr := (0, 0)) (heap_alloc_new wr _)) (by simp [Value.oneCell'])
              (by omega) e63 e47 (by simp; omega) (wr.heap.size + 1) (by simp) ?_; intro gg cp w1 hown1 hgrow hat hlt))
      have hbase2 := (((HB.out.alloc hbase (.cells #[.complex .f64 (floatOfInt .f64 (bd R)) (floatOfInt .f64 (bd S))] 29)).drew)).grown hgrow (by simp; omega) (fun k hk => (World.ownsRow.lt HOWN.out k hk).1)
      have HB2 := Lib.hid hbase2
      have HO1 := Lib.hid hown1
      clear hbase2 hown1 hgrow hat hlt e63 e47
      go_wp2
      go_roundw
      case rel => exact ⟨k + 1, by omega, by go_num, by rw [← cx_row pX pY k _ _ (by rw [HPX.out, HR.out]) (by rw [HPY.out, HS.out])]; exact HO1.out, HB2.out⟩
      case measure => simp [intOf]; omega
    · have hdec : decide ((k : Int) < (len : Int)) = false := decide_eq_false (by omega)
      obtain rfl : k = len := by omega
      obtain ⟨A', cap', rfl, hA'⟩ := row_form hown
      have HOWN := Lib.hid hown
      have HB := Lib.hid hbel
      have HA' := Lib.hid hA'
      clear hown hbel hA'
      by_cases hgood : k = 1 ∨ k = 2 ∨ k = 4 ∨ k = 8
      · have HG := Lib.hid hgood
        have h0k : 0 < k := by omega
        clear hgood
        obtain ⟨g, rfl, hg⟩ := HA'.out h0k
        have hcells := row_cells HOWN.out
        have HCL := Lib.hid hcells
        have HGB := Lib.hid hg
        clear hcells hg HA'
        by_cases h8 : k = 8
        · have H8 := Lib.hid h8
          clear h8
          have hk1 : (1 : Int) ≤ k := by omega
          go_wp2_with fail
          refine (wave_fwd k HG.out g cap' pX pY (fun _ _ _ _ => True) (fun _ _ _ => True) _ HCL.out (fun _ _ => trivial) (fun _ _ _ _ _ _ _ _ _ _ _ _ _ _ _ => trivial) (fun _ _ _ _ _ => trivial)).mono ?_
          rintro e w2 ⟨g2, rfl, hg2, hbel2, hrow2⟩
          clear hrow2
          have h1 : ((k : Int) != 1) = true := bne_iff_ne.2 (by have := H8.out; omega)
          have h2 : ((k : Int) != 2) = true := bne_iff_ne.2 (by have := H8.out; omega)
          have h4 : ((k : Int) != 4) = true := bne_iff_ne.2 (by have := H8.out; omega)
          have h8 : ((k : Int) != 8) = false := by rw [H8.out]; rfl
          have h88 : ((k : Int) == 8) = true := by rw [H8.out]; rfl
          have HB2 := Lib.hid hbel2
          clear hbel2
          go_wp2
          go_ret
          exact ⟨rfl, bs_step HB.out HB2.out⟩
        · have hg3 : k = 1 ∨ k = 2 ∨ k = 4 := by have := HG.out; omega
          have HK := Lib.hid hg3
          have hk4 : k ≤ 4 := by omega
          have ha : ∀ t, t < k → (bd (re t)).natAbs ≤ 1099511627776 ∧ (bd (im t)).natAbs ≤ 1099511627776 := fun t _ => ⟨bd_le _, bd_le _⟩
          have hb := t_bound (fun t => bd (re t)) (fun t => bd (im t)) k 1099511627776 hk4 ha
          have hs1 := step_whole k 1099511627776 hk4 (by unfold LIM; omega) (qF k) pX pY (fun t => bd (re t)) (fun t => bd (im t)) (fun j t _ _ => (ev_F hg3 j t).1)
            (fun t _ => ⟨by rw [HPX.out]; exact wh_int _ (Nat.le_trans (bd_le _) (by decide)), by rw [HPY.out]; exact wh_int _ (Nat.le_trans (bd_le _) (by decide))⟩) ha
          have HAA := Lib.hid ha
          have HBB := Lib.hid hb
          have HS1 := Lib.hid hs1
          clear ha hb hs1 hg3 h8
          go_wp2_with fail
          refine (wave_fwd k HG.out g cap' pX pY _ (fun j x y => Wh x (tX (fun t => bd (re t)) (fun t => bd (im t)) k j) ∧ Wh y (tY (fun t => bd (re t)) (fun t => bd (im t)) k j)) _ HCL.out (fun _ _ => ⟨wh_zero, wh_zero⟩) HS1.out (fun _ _ _ _ h => h)).mono ?_
          rintro e w2 ⟨g2, rfl, hg2, hbel2, hrow2⟩
          obtain ⟨qx, qy, hq⟩ := rw_fun hrow2
          have HB2 := Lib.hid hbel2
          have HQ := Lib.hid hq
          clear hbel2 hrow2 hq
          go_upto_region 10 with fail
          go_cut [57] (fun s wx => s = .bool false ∧ w2 = wx)
          case first =>
            go_wp2_with fail
            · obtain rfl : k = 1 := by omega
              go_meet
              exact ⟨rfl, rfl⟩
            · obtain rfl : k = 2 := by omega
              go_meet
              exact ⟨rfl, rfl⟩
            · obtain rfl : k = 4 := by omega
              go_meet
              exact ⟨rfl, rfl⟩
            · have := HK.out
              omega
          case rest =>
            obtain ⟨rfl, rfl⟩ := hcut
            have h88 : ((k : Int) == 8) = false := beq_eq_false_iff_ne.2 (by omega)
            go_wp2_with fail
            refine (wave_bwd k HG.out g2 k qx qy (InvW (tX (fun t => bd (re t)) (fun t => bd (im t)) k) (tY (fun t => bd (re t)) (fun t => bd (im t)) k) (fun j t => 8 - qF k j t)) (fun j x y => Wh x (bd (re j)) ∧ Wh y (bd (im j))) w2 (fun t ht => (HQ.out t ht).1) (fun _ _ => ⟨wh_zero, wh_zero⟩) (floatOfInt .f64 (k : Int)) rfl
              (step_whole k (8 * 1099511627776) hk4 (by unfold LIM; omega) _ qx qy _ _ (fun j t _ _ => (ev_F HK.out j t).2) (fun t ht => (HQ.out t ht).2) (fun t _ => HBB.out t))
              (fun j hj x y h => by
                obtain ⟨x', y', e1, e2, e3, e4⟩ := back_fin _ _ HK.out (by unfold LIM; omega) HAA.out j hj x y h
                exact ⟨x', y', e1, e2, e3, e4⟩)).mono ?_
            rintro e w3 ⟨g3, rfl, hg3, hbel3, hrow3⟩
            have hcp : ∀ i, i < k → w3.cell? ⟨g, i, none⟩ = some (.complex .f64 (pX i) (pY i)) := fun i hi => keepc hbel3 (keepc HB2.out (HCL.out i hi))
            have HB3 := Lib.hid hbel3
            have HR3 := Lib.hid hrow3
            have HCP := Lib.hid hcp
            clear hbel3 hrow3 hcp
            go_wp2
            go_loopw [10] (fun s wz => ∃ i m : Nat, i ≤ k ∧ s = .int .i64 (i : Int) ∧ wz = w3.drewN m) (fun s _ => k - (intOf s).toNat)
            case atStart => exact ⟨0, 0, by omega, rfl, rfl⟩
            case round =>
              obtain ⟨i, m, hi, rfl, rfl⟩ := hrel
              by_cases hik : i < k
              · have hdec2 : decide ((i : Int) < (k : Int)) = true := decide_eq_true (by omega)
                obtain ⟨bx, bY, hcb, hfb, hw1, hw2⟩ := HR3.out i hik
                have hcq := HCP.out i hik
                have hx := wh_order hw1 (by rw [HPX.out]; exact wh_int _ (Nat.le_trans (bd_le _) (by decide)) : Wh (pX i) (bd (re i)))
                have hy := wh_order hw2 (by rw [HPY.out]; exact wh_int _ (Nat.le_trans (bd_le _) (by decide)) : Wh (pY i) (bd (im i)))
                obtain ⟨x, hxx⟩ : ∃ x, pX i = x := ⟨_, rfl⟩
                obtain ⟨y, hyy⟩ : ∃ y, pY i = y := ⟨_, rfl⟩
                rw [hxx, hyy] at hcq
                rw [hxx] at hx
                rw [hyy] at hy
                have fx : (FloatKind.f64.format.order bx x != some .eq) = false := by rw [show FloatKind.f64.format = double from rfl, hx]; rfl
                have fy : (FloatKind.f64.format.order bY y != some .eq) = false := by rw [show FloatKind.f64.format = double from rfl, hy]; rfl
                have i1 : (0 : Int) ≤ (i : Int) := by omega
                have i2 : (i : Int) < (k : Int) := by omega
                clear hw1 hw2 hx hy hxx hyy hfb
                go_wp2
                go_region
                all_goals
                  go_wp2
                  go_roundw
                  case rel => exact ⟨i + 1, m + 1, by omega, by go_num, rfl⟩
                  case measure => simp [intOf]; omega
              · have hdec2 : decide ((i : Int) < (k : Int)) = false := decide_eq_false (by omega)
                go_wp2
                go_ret
                exact ⟨rfl, bs_drewN (bs_step (bs_step HB.out HB2.out) HB3.out) m⟩
      · have h1 : ((k : Int) != 1) = true := bne_iff_ne.2 (by omega)
        have h2 : ((k : Int) != 2) = true := bne_iff_ne.2 (by omega)
        have h4 : ((k : Int) != 4) = true := bne_iff_ne.2 (by omega)
        have h8 : ((k : Int) != 8) = true := bne_iff_ne.2 (by omega)
        have HG := Lib.hid hgood
        clear hgood
        go_wp2_with fail
        refine (wave_bad A' k cap' HG.out _).mono ?_
        rintro e w' ⟨rfl, rfl⟩
        go_wp2
        go_ret
        exact ⟨rfl, HB.out⟩
end Go.Proofs.Ytnjbbkalcnfkeaa
