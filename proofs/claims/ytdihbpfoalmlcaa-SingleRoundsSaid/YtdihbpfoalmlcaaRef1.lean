/- Contracts of the reference: the small ones. A value of the reference is a datum of the model's floats. -/
import Derived.Test.YtdihbpfoalmlcaaNat7
import Derived.Test.YtdihbpfoalmlcaaBel
import Derived.Deep.RegionHeld3
namespace Go.Proofs.Ytdihbpfoalmlcaa
open Go.RowKit Ieee

/-- The format of binary32, as the reference lays it. -/
def frm : Value := .agg #[.int .i64 24, .int .i64 (-149), .int .i64 104]
/-- A datum, as the reference lays it. -/
def val (s : Int) (m : Bool) (n : Nat) (p : Int) : Value := .agg #[.int .u8 s, .bool m, .int .u64 n, .int .i64 p]
def encD : Datum → Value
  | .number s m p => val 3 s m p
  | .infinity s => val 2 s 0 0
  | .nan _ _ => val 1 false 0 0

theorem single_form (w : World) : Calls Try.prog 45 #[] w (Ret w frm) := by
  go_enter Try.func45, Try.ntmps45
  go_wp2
  exact bodyPost_ret (v := frm) (by simp [results, Try.results45, go_sem, frm]) rfl ⟨rfl, (Below.refl _ _).alloc (Nat.le_refl _) _⟩

theorem none_any (w : World) : Calls Try.prog 67 #[] w (Ret w (val 1 false 0 0)) := by
  go_enter Try.func67, Try.ntmps67
  go_wp2
  exact bodyPost_ret (v := val 1 false 0 0) (by simp [results, Try.results67, go_sem, val]) rfl ⟨rfl, (Below.refl _ _).alloc (Nat.le_refl _) _⟩

theorem endless_any (s : Bool) (w : World) : Calls Try.prog 68 #[.bool s] w (Ret w (val 2 s 0 0)) := by
  go_enter Try.func68, Try.ntmps68
  go_wp2
  exact bodyPost_ret (v := val 2 s 0 0) (by simp [results, Try.results68, go_sem, val]) rfl ⟨rfl, (Below.refl _ _).alloc (Nat.le_refl _) _⟩

theorem nought_any (s : Bool) (w : World) : Calls Try.prog 71 #[frm, .bool s] w (Ret w (val 3 s 0 (-149))) := by
  unfold frm
  go_enter Try.func71, Try.ntmps71
  go_wp2
  exact bodyPost_ret (v := val 3 s 0 (-149)) (by simp [results, Try.results71, go_sem, val]) rfl ⟨rfl, ((Below.refl _ _).alloc (Nat.le_refl _) _).alloc (by simp) _⟩

theorem most_any (w : World) : Calls Try.prog 86 #[frm] w (Ret w (.int .i64 255)) := by
  unfold frm
  go_enter Try.func86, Try.ntmps86
  go_wp2
  go_ret
  exact ⟨rfl, (Below.refl _ _).alloc (Nat.le_refl _) _⟩

theorem held_any (s : Bool) (m : Nat) (p : Int) (w : World) : Calls Try.prog 79 #[frm, .bool s, .int .u64 m, .int .i64 p] w (Ret w (encD (heldD single s m p))) := by
  have hh : high single = 104 := by decide
  by_cases hp : 104 < p
  · have HD := Lib.hid (show encD (heldD single s m p) = val 2 s 0 0 from by unfold heldD; rw [hh, if_pos hp]; rfl)
    clear hh
    unfold frm
    go_enter Try.func79, Try.ntmps79
    go_wp2_with fail
    refine (endless_any _ _).mono ?_
    rintro e w1 ⟨rfl, hb1⟩
    obtain ⟨hc, hf⟩ := bel_cells hb1
    unfold val
    go_wp2
    exact bodyPost_ret (v := val 2 s 0 0) (by simp [results, Try.results79, go_sem, hc, val]) rfl ⟨by rw [HD.out], bel_set4 (bel_two _ _ _ hb1) (by simp) _ _ _ _⟩
  · have HD := Lib.hid (show encD (heldD single s m p) = val 3 s m p from by unfold heldD; rw [hh, if_neg hp]; rfl)
    clear hh
    unfold frm
    go_enter Try.func79, Try.ntmps79
    go_wp2
    exact bodyPost_ret (v := val 3 s m p) (by simp [results, Try.results79, go_sem, val]) rfl ⟨by rw [HD.out], ((Below.refl _ _).alloc (Nat.le_refl _) _).alloc (by simp) _⟩

theorem isNought_any (d : Datum) (w : World) : Calls Try.prog 52 #[encD d] w (Ret w (.bool d.isZero)) := by
  cases d with
  | number s m p =>
    by_cases hm : m = 0
    · subst hm
      unfold encD val
      go_enter Try.func52, Try.ntmps52
      go_wp2
      go_ret
      exact ⟨rfl, (Below.refl _ _).alloc (Nat.le_refl _) _⟩
    · have hz : ((m : Int) == 0) = false := by simp; exact hm
      have HZ := Lib.hid (show (Datum.number s m p).isZero = false from by unfold Datum.isZero; cases m with | zero => exact absurd rfl hm | succ m => rfl)
      clear hm
      unfold encD val
      go_enter Try.func52, Try.ntmps52
      go_wp2
      go_ret
      exact ⟨by rw [HZ.out]; rfl, (Below.refl _ _).alloc (Nat.le_refl _) _⟩
  | infinity s =>
    unfold encD val
    go_enter Try.func52, Try.ntmps52
    go_wp2
    go_ret
    exact ⟨rfl, (Below.refl _ _).alloc (Nat.le_refl _) _⟩
  | nan s t =>
    unfold encD val
    go_enter Try.func52, Try.ntmps52
    go_wp2
    go_ret
    exact ⟨rfl, (Below.refl _ _).alloc (Nat.le_refl _) _⟩
end Go.Proofs.Ytdihbpfoalmlcaa
