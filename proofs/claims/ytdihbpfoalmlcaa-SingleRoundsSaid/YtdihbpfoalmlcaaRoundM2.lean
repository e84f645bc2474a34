/- Contract of the reference's Rounded, with the half step, joined. -/
import Derived.Test.YtdihbpfoalmlcaaRoundM
namespace Go.Proofs.Ytdihbpfoalmlcaa
open Go.RowKit Ieee

/-- Rounded, with the half step. -/
theorem roundm_any (s : Bool) (v : Value) (n0 : Nat) (p0 : Int) (w : World) (hv : IsN w v n0) (bn0 : bsize n0 ≤ 9000) (hp0 : -9000 ≤ p0) (hp1 : p0 ≤ 9000) :
    Calls Try.prog 55 #[frm, .bool s, v, .int .i64 p0, .bool true] w (Ret w (encD (single.read (single.nearest s (2 * n0 + 1) (p0 - 1))))) := by
  obtain ⟨n, hnn⟩ : ∃ n, 2 * n0 + 1 = n := ⟨_, rfl⟩
  obtain ⟨p, hpp⟩ : ∃ p, p0 - 1 = p := ⟨_, rfl⟩
  rw [hnn, hpp]
  have hp : -10000 ≤ p := by omega
  have hp2 : p ≤ 10000 := by omega
  have bn : bsize n ≤ 10000 := by
    have h1 : bsize 1 = 1 := by decide
    have h2 := bsize_add (2 * n0) 1 (bsize n0 + 1) (bsize_double n0) (by omega)
    rw [hnn] at h2
    omega
  have hn : 0 < n := by omega
  by_cases hkp : lastP n p ≤ p
  · exact roundm_up s v n (p - lastP n p).toNat p (lastP n p) n0 p0 hnn hpp w hv hn bn hp hp2 rfl (by omega)
  · by_cases hfar : p + bsize n + 1 < lastP n p
    · have hk : lastP n p = -149 := by unfold lastP at *; omega
      exact roundm_far s v n p n0 p0 hnn hpp w hv hn bn (by omega) hp2 hk (by omega)
    · have hd : lastP n p - p = ((lastP n p - p).toNat : Int) := by omega
      generalize hdd : (lastP n p - p).toNat = d at hd
      have hd0 : 0 < d := by omega
      have hf2 : d ≤ bsize n + 1 := by omega
      have hsub : -149 ≤ p + bsize n - 24 ∨ p + bsize n - 24 < -149 := by omega
      have hcc : cmpI (n % 2 ^ d) (2 ^ (d - 1)) = -1 ∨ cmpI (n % 2 ^ d) (2 ^ (d - 1)) = 0 ∨ cmpI (n % 2 ^ d) (2 ^ (d - 1)) = 1 := by
        unfold cmpI; split
        · exact .inl rfl
        · split
          · exact .inr (.inl rfl)
          · exact .inr (.inr rfl)
      have hodd : n / 2 ^ d % 2 = 1 ∨ n / 2 ^ d % 2 = 0 := by omega
      rcases hsub with hsub | hsub
      · rcases hcc with hc | hc | hc
        · exact roundm_down_1_below s v n d _ _ p _ n0 p0 hnn hpp w hv hn bn hp hp2 rfl hd hd0 hf2 rfl rfl hc hsub
        · rcases hodd with ho | ho
          · by_cases hov : n / 2 ^ d + 1 = 16777216
            · exact roundm_down_1_odd_full s v n d _ _ p _ n0 p0 hnn hpp w hv hn bn hp hp2 rfl hd hd0 hf2 rfl rfl hc ho hov hsub
            · exact roundm_down_1_odd s v n d _ _ p _ n0 p0 hnn hpp w hv hn bn hp hp2 rfl hd hd0 hf2 rfl rfl hc ho hov hsub
          · exact roundm_down_1_even s v n d _ _ p _ n0 p0 hnn hpp w hv hn bn hp hp2 rfl hd hd0 hf2 rfl rfl hc ho hsub
        · by_cases hov : n / 2 ^ d + 1 = 16777216
          · exact roundm_down_1_above_full s v n d _ _ p _ n0 p0 hnn hpp w hv hn bn hp hp2 rfl hd hd0 hf2 rfl rfl hc hov hsub
          · exact roundm_down_1_above s v n d _ _ p _ n0 p0 hnn hpp w hv hn bn hp hp2 rfl hd hd0 hf2 rfl rfl hc hov hsub
      · rcases hcc with hc | hc | hc
        · exact roundm_down_2_below s v n d _ _ p _ n0 p0 hnn hpp w hv hn bn hp hp2 rfl hd hd0 hf2 rfl rfl hc hsub
        · rcases hodd with ho | ho
          · by_cases hov : n / 2 ^ d + 1 = 16777216
            · exact roundm_down_2_odd_full s v n d _ _ p _ n0 p0 hnn hpp w hv hn bn hp hp2 rfl hd hd0 hf2 rfl rfl hc ho hov hsub
            · exact roundm_down_2_odd s v n d _ _ p _ n0 p0 hnn hpp w hv hn bn hp hp2 rfl hd hd0 hf2 rfl rfl hc ho hov hsub
          · exact roundm_down_2_even s v n d _ _ p _ n0 p0 hnn hpp w hv hn bn hp hp2 rfl hd hd0 hf2 rfl rfl hc ho hsub
        · by_cases hov : n / 2 ^ d + 1 = 16777216
          · exact roundm_down_2_above_full s v n d _ _ p _ n0 p0 hnn hpp w hv hn bn hp hp2 rfl hd hd0 hf2 rfl rfl hc hov hsub
          · exact roundm_down_2_above s v n d _ _ p _ n0 p0 hnn hpp w hv hn bn hp hp2 rfl hd hd0 hf2 rfl rfl hc hov hsub
end Go.Proofs.Ytdihbpfoalmlcaa
