/- Contract of the reference's Rounded, joined. -/
import Derived.Test.YtdihbpfoalmlcaaRounded
namespace Go.Proofs.Ytdihbpfoalmlcaa
open Go.RowKit Ieee

set_option maxHeartbeats 2000000 in
theorem rounded_far (s : Bool) (v : Value) (n : Nat) (p : Int) (w : World) (hv : IsN w v n) (hn : 0 < n) (bn : bsize n ≤ 10000) (hp : -20000 ≤ p) (hp2 : p ≤ 10000)
    (hk : lastP n p = -149) (hfar : p + bsize n + 1 < -149) :
    Calls Try.prog 55 #[frm, .bool s, v, .int .i64 p, .bool false] w (Ret w (encD (single.read (single.nearest s n p)))) := by
  rw [rnd_far s n hn p (by omega)]
  have HN := Lib.hid hv
  obtain ⟨A, cap, xs, rfl, -, hcap, -, -, hnn, hval, hlen⟩ := hv.len
  have hl0 : 0 < xs.length := by
    refine List.length_pos_iff.2 fun e => ?_
    have := (norm_zero xs hnn).2 e
    omega
  have hlx : xs.length ≤ 9223372036854775807 := by omega
  have hl : ((xs.length : Int) == 0) = false := by rw [beq_eq_false_iff_ne]; omega
  have hsum : IntKind.i64.wrap (p + (bsize n : Nat)) = p + (bsize n : Nat) := IntWalk.i64_in _ (by omega)
  have hsum2 : IntKind.i64.wrap (p + (bsize n : Nat) - 24) = p + (bsize n : Nat) - 24 := IntWalk.i64_in _ (by omega)
  clear hv hval hk
  unfold frm
  go_enter Try.func55, Try.ntmps55
  go_wp2_with fail
  go_region_held3 (fun w' => w'.cell? ⟨w.heap.size, 0, none⟩ = some (.int .i64 24) ∧ w'.cell? ⟨w.heap.size, 1, none⟩ = some (.int .i64 (-149)) ∧ w'.cell? ⟨w.heap.size, 2, none⟩ = some (.int .i64 104)) (first | go_keep | (go_split_ands; exact ⟨keepc hb1 (by assumption), keepc hb1 (by assumption), keepc hb1 (by assumption)⟩))
    (first | (go_at_call 80; refine (size_any _ n _ (HN.out.below (by repeat (first | exact Below.refl _ _ | refine bs_alloc ?_ _ | refine bs_drew ?_ | refine bs_drewN ?_ _ | (refine bs_step ?_ (by assumption))))) (by omega)).mono ?_; rintro e w' ⟨rfl, rfl⟩))
  go_wp2_with fail
  refine (size_any _ n _ (HN.out.below (by repeat (first | exact Below.refl _ _ | refine bs_alloc ?_ _ | refine bs_drew ?_ | refine bs_drewN ?_ _ | (refine bs_step ?_ (by assumption))))) (by omega)).mono ?_
  rintro e w' ⟨rfl, rfl⟩
  go_wp2_with fail
  refine (nought_any s _).mono ?_
  rintro e w1 ⟨rfl, hb1⟩
  have hB : Below ((w.alloc (.cells #[.int .i64 24, .int .i64 (-149), .int .i64 104] 54)).alloc (.cells #[.int .u8 0, .bool false, .int .u64 0, .int .i64 0] 51)).heap.size ((w.alloc (.cells #[.int .i64 24, .int .i64 (-149), .int .i64 104] 54)).alloc (.cells #[.int .u8 0, .bool false, .int .u64 0, .int .i64 0] 51)) w1 := (by repeat (first | exact Below.refl _ _ | refine bs_alloc ?_ _ | refine bs_drew ?_ | refine bs_drewN ?_ _ | (refine bs_step ?_ (by assumption))))
  obtain ⟨hc, hf⟩ := bel_cells hB
  unfold val
  go_wp2
  exact bodyPost_ret (v := val 3 s 0 (-149)) (by simp [results, Try.results55, go_sem, hc, val]) rfl ⟨rfl, bel_set4 (bel_two _ _ _ hB) (by simp) _ _ _ _⟩

/-- Rounded, without the half step: the nearest word, read. -/
theorem rounded_any (s : Bool) (v : Value) (n : Nat) (p : Int) (w : World) (hv : IsN w v n) (bn : bsize n ≤ 10000) (hp : -10000 ≤ p) (hp2 : p ≤ 10000) :
    Calls Try.prog 55 #[frm, .bool s, v, .int .i64 p, .bool false] w (Ret w (encD (single.read (single.nearest s n p)))) := by
  by_cases hn0 : n = 0
  · subst hn0
    obtain ⟨A, cap, xs, rfl, -, -, -, -, hnn, hval⟩ := hv
    obtain rfl := (norm_zero xs hnn).1 hval
    exact rounded_zero s A cap p w
  · have hn : 0 < n := by omega
    by_cases hkp : lastP n p ≤ p
    · exact rounded_up s v n (p - lastP n p).toNat p (lastP n p) w hv hn bn hp hp2 rfl (by omega)
    · by_cases hfar : p + bsize n + 1 < lastP n p
      · have hk : lastP n p = -149 := by unfold lastP at *; omega
        exact rounded_far s v n p w hv hn bn (by omega) hp2 hk (by omega)
      · have hd : lastP n p - p = ((lastP n p - p).toNat : Int) := by omega
        generalize hdd : (lastP n p - p).toNat = d at hd
        have hd0 : 0 < d := by omega
        have hf2 : d ≤ bsize n + 1 := by omega
        have hsub : -149 ≤ p + bsize n - 24 ∨ p + bsize n - 24 < -149 := by omega
        have hcc : cmpI (n % 2 ^ d) (2 ^ (d - 1)) = -1 ∨ cmpI (n % 2 ^ d) (2 ^ (d - 1)) = 0 ∨ cmpI (n % 2 ^ d) (2 ^ (d - 1)) = 1 := by
          unfold cmpI; split
          · exact .inl rfl
          · split
            · exact .inr (.inl rfl)
            · exact .inr (.inr rfl)
        have hodd : n / 2 ^ d % 2 = 1 ∨ n / 2 ^ d % 2 = 0 := by omega
        rcases hsub with hsub | hsub
        · rcases hcc with hc | hc | hc
          · exact rounded_down_1_below s v n d _ _ p _ w hv hn bn hp hp2 rfl hd hd0 hf2 rfl rfl hc hsub
          · rcases hodd with ho | ho
            · by_cases hov : n / 2 ^ d + 1 = 16777216
              · exact rounded_down_1_odd_full s v n d _ _ p _ w hv hn bn hp hp2 rfl hd hd0 hf2 rfl rfl hc ho hov hsub
              · exact rounded_down_1_odd s v n d _ _ p _ w hv hn bn hp hp2 rfl hd hd0 hf2 rfl rfl hc ho hov hsub
            · exact rounded_down_1_even s v n d _ _ p _ w hv hn bn hp hp2 rfl hd hd0 hf2 rfl rfl hc ho hsub
          · by_cases hov : n / 2 ^ d + 1 = 16777216
            · exact rounded_down_1_above_full s v n d _ _ p _ w hv hn bn hp hp2 rfl hd hd0 hf2 rfl rfl hc hov hsub
            · exact rounded_down_1_above s v n d _ _ p _ w hv hn bn hp hp2 rfl hd hd0 hf2 rfl rfl hc hov hsub
        · rcases hcc with hc | hc | hc
          · exact rounded_down_2_below s v n d _ _ p _ w hv hn bn hp hp2 rfl hd hd0 hf2 rfl rfl hc hsub
          · rcases hodd with ho | ho
            · by_cases hov : n / 2 ^ d + 1 = 16777216
              · exact rounded_down_2_odd_full s v n d _ _ p _ w hv hn bn hp hp2 rfl hd hd0 hf2 rfl rfl hc ho hov hsub
              · exact rounded_down_2_odd s v n d _ _ p _ w hv hn bn hp hp2 rfl hd hd0 hf2 rfl rfl hc ho hov hsub
            · exact rounded_down_2_even s v n d _ _ p _ w hv hn bn hp hp2 rfl hd hd0 hf2 rfl rfl hc ho hsub
          · by_cases hov : n / 2 ^ d + 1 = 16777216
            · exact rounded_down_2_above_full s v n d _ _ p _ w hv hn bn hp hp2 rfl hd hd0 hf2 rfl rfl hc hov hsub
            · exact rounded_down_2_above s v n d _ _ p _ w hv hn bn hp hp2 rfl hd hd0 hf2 rfl rfl hc hov hsub
end Go.Proofs.Ytdihbpfoalmlcaa
