/- Contracts of the reference: longer, shorter, Turned. -/
import Derived.Test.YtdihbpfoalmlcaaStep
import Derived.Test.YtdihbpfoalmlcaaSumP
import Derived.Test.YtdihbpfoalmlcaaWords
namespace Go.Proofs.Ytdihbpfoalmlcaa
open Go.RowKit Ieee

/-- The next greater size. -/
def longD (s : Bool) (m : Nat) (p : Int) : Datum := if m + 1 < 16777216 then .number s (m + 1) p else heldD single s 8388608 (p + 1)
/-- The next smaller size. -/
def shortD (s : Bool) (m : Nat) (p : Int) : Datum := if m = 8388608 ∧ -149 < p then .number s 16777215 (p - 1) else .number s (m - 1) p

theorem RefTurned_any (a : Nat) (h : a ≤ 4294967295) (w : World) : Calls Try.prog 27 #[.int .u32 a] w (Ret w (.int .u32 (turnW a : Nat))) := by
  by_cases ha : a < 2147483648
  · have HR := Lib.hid (show ((turnW a : Nat) : Int) = (a : Int) + 2147483648 from by unfold turnW; rw [if_pos ha]; omega)
    have hc : decide ((2147483648 : Int) ≤ (a : Int)) = false := decide_eq_false (by omega)
    go_enter Try.func27, Try.ntmps27
    go_wp2
    go_ret
    exact ⟨by rw [HR.out]; rfl, Below.refl _ _⟩
  · have HR := Lib.hid (show ((turnW a : Nat) : Int) = (a : Int) - 2147483648 from by unfold turnW; rw [if_neg ha]; omega)
    have hc : decide ((2147483648 : Int) ≤ (a : Int)) = true := decide_eq_true (by omega)
    go_enter Try.func27, Try.ntmps27
    go_wp2
    go_ret
    exact ⟨by rw [HR.out]; rfl, Below.refl _ _⟩

theorem longer_low (s : Bool) (m K : Nat) (p : Int) (hk : (K : Int) = (m : Int) + 1) (hc : decide ((m : Int) + 1 < 16777216) = true) (hw : IntKind.u64.wrap ((m : Int) + 1) = (m : Int) + 1) (w : World) :
    Calls Try.prog 54 #[val 3 s m p] w (Ret w (val 3 s K p)) := by
  have HK := Lib.hid hk
  clear hk
  unfold val
  go_enter Try.func54, Try.ntmps54
  go_wp2
  exact bodyPost_ret (v := val 3 s K p) (by simp [results, Try.results54, go_sem, val, HK.out]) rfl ⟨rfl, bs_alloc (bs_alloc (Below.refl _ _) _) _⟩

theorem longer_high (s : Bool) (p : Int) (hp : -149 ≤ p) (hp2 : p ≤ 104) (w : World) :
    Calls Try.prog 54 #[val 3 s (16777215 : Nat) p] w (Ret w (encD (heldD single s 8388608 (p + 1)))) := by
  have hh := fun W => held_any s 8388608 (p + 1) W
  obtain ⟨s0, m0, n0, p0, hd⟩ := encD_form (heldD single s 8388608 (p + 1))
  rw [hd] at hh ⊢
  unfold val at hh
  have HH := Lib.hid hh
  clear hh hd
  have hw : IntKind.i64.wrap (p + 1) = p + 1 := IntWalk.i64_in _ (by omega)
  unfold val
  go_enter Try.func54, Try.ntmps54
  go_wp2
  go_region_held3 (fun w' => w'.cell? ⟨w.heap.size, 1, none⟩ = some (.bool s) ∧ w'.cell? ⟨w.heap.size, 3, none⟩ = some (.int .i64 p))
    (first | (go_split_ands; (with_reducible (refine ⟨keepc hb1 ?_, keepc hb1 ?_⟩)); all_goals assumption) | (go_split_ands; (with_reducible (refine ⟨keep_set4 ?_ ?_, keep_set4 ?_ ?_⟩)); all_goals (first | assumption | omega)) | go_keep)
    (first
      | (go_at_call 45; refine (single_form _).mono ?_; rintro e w1 ⟨rfl, hb1⟩)
      | (go_at_call 79; refine (HH.out _).mono ?_; rintro e w1 ⟨rfl, hb1⟩; have hB : Below ((w.alloc (.cells #[.int .u8 3, .bool s, .int .u64 16777215, .int .i64 p] 51)).alloc (.cells #[.int .u8 0, .bool false, .int .u64 0, .int .i64 0] 51)).heap.size ((w.alloc (.cells #[.int .u8 3, .bool s, .int .u64 16777215, .int .i64 p] 51)).alloc (.cells #[.int .u8 0, .bool false, .int .u64 0, .int .i64 0] 51)) w1 := (by repeat (first | exact Below.refl _ _ | refine bs_alloc ?_ _ | refine bs_drew ?_ | refine bs_drewN ?_ _ | (refine bs_step ?_ (by assumption)))); obtain ⟨hc, hf⟩ := bel_cells hB))
  go_wp2
  exact bodyPost_ret (v := val s0 m0 n0 p0) (by simp [results, Try.results54, go_sem, hc, val]) rfl ⟨rfl, bel_set4 (bel_two _ _ _ hB) (by omega) _ _ _ _⟩

theorem shorter_inf (s : Bool) (w : World) :
    Calls Try.prog 53 #[val 2 s 0 0] w (Ret w (val 3 s 16777215 104)) := by
  unfold val
  go_enter Try.func53, Try.ntmps53
  go_wp2
  exact bodyPost_ret (v := val 3 s 16777215 104) (by simp [results, Try.results53, go_sem, val]) rfl ⟨rfl, ((Below.refl _ _).alloc (Nat.le_refl _) _).alloc (by simp) _⟩

theorem shorter_step (s : Bool) (p : Int) (hp : -149 < p) (hp2 : p ≤ 104) (w : World) :
    Calls Try.prog 53 #[val 3 s 8388608 p] w (Ret w (val 3 s 16777215 (p - 1))) := by
  unfold val
  go_enter Try.func53, Try.ntmps53
  go_wp2
  exact bodyPost_ret (v := val 3 s 16777215 (p - 1)) (by simp [results, Try.results53, go_sem, val]) rfl ⟨rfl, ((Below.refl _ _).alloc (Nat.le_refl _) _).alloc (by simp) _⟩

theorem shorter_low (s : Bool) (m : Nat) (p : Int) (hm : 0 < m) (hm2 : m < 16777216) (hn : ((m : Int) == 8388608) = false) (w : World) :
    Calls Try.prog 53 #[val 3 s m p] w (Ret w (val 3 s (m - 1 : Nat) p)) := by
  have e : ((m : Int) - 1) = ((m - 1 : Nat) : Int) := by omega
  unfold val
  go_enter Try.func53, Try.ntmps53
  go_wp2
  exact bodyPost_ret (v := val 3 s (m - 1 : Nat) p) (by simp [results, Try.results53, go_sem, val]) rfl ⟨rfl, ((Below.refl _ _).alloc (Nat.le_refl _) _).alloc (by simp) _⟩

theorem shorter_least (s : Bool) (w : World) :
    Calls Try.prog 53 #[val 3 s 8388608 (-149)] w (Ret w (val 3 s 8388607 (-149))) := by
  unfold val
  go_enter Try.func53, Try.ntmps53
  go_wp2
  exact bodyPost_ret (v := val 3 s 8388607 (-149)) (by simp [results, Try.results53, go_sem, val]) rfl ⟨rfl, ((Below.refl _ _).alloc (Nat.le_refl _) _).alloc (by simp) _⟩
end Go.Proofs.Ytdihbpfoalmlcaa
