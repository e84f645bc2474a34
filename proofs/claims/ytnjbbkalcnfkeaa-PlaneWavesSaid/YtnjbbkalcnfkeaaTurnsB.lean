/- Contracts of package plane: Add, Mul, Cross (printed by a program of ours). -/
import Derived.Test.YtnjbbkalcnfkeaaTurnsA
namespace Go.Proofs.Ytnjbbkalcnfkeaa
open Go.RowKit Ieee
set_option linter.unusedVariables false

def IsF (o : Option Nat) (v : Nat) : Prop := o = some v ∨ (o = none ∧ (double.read v).isNaN = true)
def comb (op : BinOp) (o1 o2 : Option Nat) : Option Nat := match o1, o2 with
  | some p, some q => floatBits op .f64 p q
  | _, _ => none
def RetF (o : Option Nat) (w : World) (e : Ending) (w' : World) : Prop := ∃ v n, e = .returned (.float .f64 v) ∧ IsF o v ∧ w' = w.drewN n
def RetC (o1 o2 : Option Nat) (w : World) (e : Ending) (w' : World) : Prop := ∃ x y n, e = .returned (.complex .f64 x y) ∧ IsF o1 x ∧ IsF o2 y ∧ w' = w.drewN n

theorem opc (op : BinOp) (hop : op = .add ∨ op = .sub ∨ op = .mul ∨ op = .quo) (x y : Nat) :
    (∃ r, floatBits op .f64 x y = some r ∧ ∀ W : World, (binOp op 33 (.float .f64 x) (.float .f64 y)).run Try.prog W = .ok (.float .f64 r) W) ∨
    (floatBits op .f64 x y = none ∧ ∀ W : World, (binOp op 33 (.float .f64 x) (.float .f64 y)).run Try.prog W = .ok (.float .f64 (nanOf W .f64 x y)) W.drew) := by
  cases h : floatBits op .f64 x y with
  | some r => exact .inl ⟨r, rfl, fun W => run_float_arith (P := Try.prog) W op 33 .f64 x y r h⟩
  | none => exact .inr ⟨rfl, fun W => run_float_invalid (P := Try.prog) W op 33 .f64 x y hop h⟩
theorem nan_form {d : Datum} (h : d.isNaN = true) : ∃ s t, d = .nan s t := by
  cases d with
  | nan s t => exact ⟨s, t, rfl⟩
  | number s m i => cases h
  | infinity s => cases h
theorem nan_sum (op : BinOp) (hop : op = .add ∨ op = .sub) (x y : Nat) (h : (double.read x).isNaN = true ∨ (double.read y).isNaN = true) : floatBits op .f64 x y = none := by
  have key : ∀ d e : Datum, d.isNaN = true ∨ e.isNaN = true → d.sum e = none := by
    intro d e h
    rcases h with h | h
    · obtain ⟨s, t, rfl⟩ := nan_form h; cases e <;> rfl
    · obtain ⟨s, t, rfl⟩ := nan_form h; cases d <;> rfl
  rcases hop with rfl | rfl
  · show (((double.read x).sum (double.read y)).map double.write) = none
    rw [key _ _ h]; rfl
  · show (((double.read x).sum (double.read y).opposite).map double.write) = none
    rw [key _ _ (by
      rcases h with h | h
      · exact .inl h
      · obtain ⟨s, t, h'⟩ := nan_form h; rw [h']; exact .inr rfl)]; rfl

theorem opt3 (op : BinOp) (hop : op = .add ∨ op = .sub) (a b c d : Nat) :
    (∃ p q r, (∀ W : World, (binOp .mul 33 (.float .f64 a) (.float .f64 b)).run Try.prog W = .ok (.float .f64 p) W) ∧ (∀ W : World, (binOp .mul 33 (.float .f64 c) (.float .f64 d)).run Try.prog W = .ok (.float .f64 q) W) ∧ (∀ W : World, (binOp op 33 (.float .f64 p) (.float .f64 q)).run Try.prog W = .ok (.float .f64 r) W) ∧ comb op (floatBits .mul .f64 a b) (floatBits .mul .f64 c d) = some r) ∨
    (∃ p q, (∀ W : World, (binOp .mul 33 (.float .f64 a) (.float .f64 b)).run Try.prog W = .ok (.float .f64 p) W) ∧ (∀ W : World, (binOp .mul 33 (.float .f64 c) (.float .f64 d)).run Try.prog W = .ok (.float .f64 q) W) ∧ (∀ W : World, (binOp op 33 (.float .f64 p) (.float .f64 q)).run Try.prog W = .ok (.float .f64 (nanOf W .f64 p q)) W.drew) ∧ comb op (floatBits .mul .f64 a b) (floatBits .mul .f64 c d) = none) ∨
    (∃ p, (∀ W : World, (binOp .mul 33 (.float .f64 a) (.float .f64 b)).run Try.prog W = .ok (.float .f64 p) W) ∧ (∀ W : World, (binOp .mul 33 (.float .f64 c) (.float .f64 d)).run Try.prog W = .ok (.float .f64 (nanOf W .f64 c d)) W.drew) ∧ (∀ W W1 : World, (binOp op 33 (.float .f64 p) (.float .f64 (nanOf W1 .f64 c d))).run Try.prog W = .ok (.float .f64 (nanOf W .f64 p (nanOf W1 .f64 c d))) W.drew) ∧ comb op (floatBits .mul .f64 a b) (floatBits .mul .f64 c d) = none) ∨
    (∃ q, (∀ W : World, (binOp .mul 33 (.float .f64 a) (.float .f64 b)).run Try.prog W = .ok (.float .f64 (nanOf W .f64 a b)) W.drew) ∧ (∀ W : World, (binOp .mul 33 (.float .f64 c) (.float .f64 d)).run Try.prog W = .ok (.float .f64 q) W) ∧ (∀ W W1 : World, (binOp op 33 (.float .f64 (nanOf W1 .f64 a b)) (.float .f64 q)).run Try.prog W = .ok (.float .f64 (nanOf W .f64 (nanOf W1 .f64 a b) q)) W.drew) ∧ comb op (floatBits .mul .f64 a b) (floatBits .mul .f64 c d) = none) ∨
    ((∀ W : World, (binOp .mul 33 (.float .f64 a) (.float .f64 b)).run Try.prog W = .ok (.float .f64 (nanOf W .f64 a b)) W.drew) ∧ (∀ W : World, (binOp .mul 33 (.float .f64 c) (.float .f64 d)).run Try.prog W = .ok (.float .f64 (nanOf W .f64 c d)) W.drew) ∧ (∀ W W1 W2 : World, (binOp op 33 (.float .f64 (nanOf W1 .f64 a b)) (.float .f64 (nanOf W2 .f64 c d))).run Try.prog W = .ok (.float .f64 (nanOf W .f64 (nanOf W1 .f64 a b) (nanOf W2 .f64 c d))) W.drew) ∧ comb op (floatBits .mul .f64 a b) (floatBits .mul .f64 c d) = none) := by
  have hop4 : op = .add ∨ op = .sub ∨ op = .mul ∨ op = .quo := by rcases hop with h | h <;> simp [h]
  have inv : ∀ (x y : Nat), ((double.read x).isNaN = true ∨ (double.read y).isNaN = true) → ∀ W : World, (binOp op 33 (.float .f64 x) (.float .f64 y)).run Try.prog W = .ok (.float .f64 (nanOf W .f64 x y)) W.drew := fun x y h W => run_float_invalid (P := Try.prog) W op 33 .f64 x y hop4 (nan_sum op hop x y h)
  rcases opc .mul (by simp) a b with ⟨p, o1, h1⟩ | ⟨o1, h1⟩ <;> rcases opc .mul (by simp) c d with ⟨q, o2, h2⟩ | ⟨o2, h2⟩
  · rcases opc op hop4 p q with ⟨r, o3, h3⟩ | ⟨o3, h3⟩
    · exact .inl ⟨p, q, r, h1, h2, h3, by rw [o1, o2]; exact o3⟩
    · exact .inr (.inl ⟨p, q, h1, h2, h3, by rw [o1, o2]; exact o3⟩)
  · exact .inr (.inr (.inl ⟨p, h1, h2, fun W W1 => inv _ _ (.inr (nanOf_nan64 W1 c d)) W, by rw [o1, o2]; rfl⟩))
  · exact .inr (.inr (.inr (.inl ⟨q, h1, h2, fun W W1 => inv _ _ (.inl (nanOf_nan64 W1 a b)) W, by rw [o1, o2]; rfl⟩)))
  · exact .inr (.inr (.inr (.inr ⟨h1, h2, fun W W1 W2 => inv _ _ (.inl (nanOf_nan64 W1 a b)) W, by rw [o1, o2]; rfl⟩)))

set_option maxHeartbeats 4000000 in
theorem Cross_any (a b c d : Nat) (w : World) : Calls Try.prog 15 #[.complex .f64 a b, .complex .f64 c d] w (RetF (comb .sub (floatBits .mul .f64 a d) (floatBits .mul .f64 b c)) w) := by
  rcases opt3 .sub (by simp) a d b c with ⟨hp, hq, hr, h1, h2, h3, O⟩ | ⟨hp, hq, h1, h2, h3, O⟩ | ⟨hp, h1, h2, h3, O⟩ | ⟨hq, h1, h2, h3, O⟩ | ⟨h1, h2, h3, O⟩
  all_goals
    have HO := Lib.hid O
    clear O
    go_enter Try.func15, Try.ntmps15
    go_wp2
    go_ret
    first | exact ⟨_, 0, rfl, (by first | exact .inl HO.out | exact .inr ⟨HO.out, nanOf_nan64 _ _ _⟩), rfl⟩ | exact ⟨_, 1, rfl, (by first | exact .inl HO.out | exact .inr ⟨HO.out, nanOf_nan64 _ _ _⟩), rfl⟩ | exact ⟨_, 2, rfl, (by first | exact .inl HO.out | exact .inr ⟨HO.out, nanOf_nan64 _ _ _⟩), rfl⟩ | exact ⟨_, 3, rfl, (by first | exact .inl HO.out | exact .inr ⟨HO.out, nanOf_nan64 _ _ _⟩), rfl⟩
set_option maxHeartbeats 8000000 in
theorem Mul_any (a b c d : Nat) (w : World) : Calls Try.prog 18 #[.complex .f64 a b, .complex .f64 c d] w (RetC (comb .sub (floatBits .mul .f64 a c) (floatBits .mul .f64 b d)) (comb .add (floatBits .mul .f64 a d) (floatBits .mul .f64 b c)) w) := by
  rcases opt3 .sub (by simp) a c b d with ⟨hp, hq, hr, h1, h2, h3, O⟩ | ⟨hp, hq, h1, h2, h3, O⟩ | ⟨hp, h1, h2, h3, O⟩ | ⟨hq, h1, h2, h3, O⟩ | ⟨h1, h2, h3, O⟩ <;> rcases opt3 .add (by simp) a d b c with ⟨kp, kq, kr, k1, k2, k3, Q⟩ | ⟨kp, kq, k1, k2, k3, Q⟩ | ⟨kp, k1, k2, k3, Q⟩ | ⟨kq, k1, k2, k3, Q⟩ | ⟨k1, k2, k3, Q⟩
  all_goals
    have HO := Lib.hid O
    have HQ := Lib.hid Q
    clear O Q
    go_enter Try.func18, Try.ntmps18
    go_wp2
    go_ret
    first | exact ⟨_, _, 0, rfl, (by first | exact .inl HO.out | exact .inr ⟨HO.out, nanOf_nan64 _ _ _⟩), (by first | exact .inl HQ.out | exact .inr ⟨HQ.out, nanOf_nan64 _ _ _⟩), rfl⟩ | exact ⟨_, _, 1, rfl, (by first | exact .inl HO.out | exact .inr ⟨HO.out, nanOf_nan64 _ _ _⟩), (by first | exact .inl HQ.out | exact .inr ⟨HQ.out, nanOf_nan64 _ _ _⟩), rfl⟩ | exact ⟨_, _, 2, rfl, (by first | exact .inl HO.out | exact .inr ⟨HO.out, nanOf_nan64 _ _ _⟩), (by first | exact .inl HQ.out | exact .inr ⟨HQ.out, nanOf_nan64 _ _ _⟩), rfl⟩ | exact ⟨_, _, 3, rfl, (by first | exact .inl HO.out | exact .inr ⟨HO.out, nanOf_nan64 _ _ _⟩), (by first | exact .inl HQ.out | exact .inr ⟨HQ.out, nanOf_nan64 _ _ _⟩), rfl⟩ | exact ⟨_, _, 4, rfl, (by first | exact .inl HO.out | exact .inr ⟨HO.out, nanOf_nan64 _ _ _⟩), (by first | exact .inl HQ.out | exact .inr ⟨HQ.out, nanOf_nan64 _ _ _⟩), rfl⟩ | exact ⟨_, _, 5, rfl, (by first | exact .inl HO.out | exact .inr ⟨HO.out, nanOf_nan64 _ _ _⟩), (by first | exact .inl HQ.out | exact .inr ⟨HQ.out, nanOf_nan64 _ _ _⟩), rfl⟩ | exact ⟨_, _, 6, rfl, (by first | exact .inl HO.out | exact .inr ⟨HO.out, nanOf_nan64 _ _ _⟩), (by first | exact .inl HQ.out | exact .inr ⟨HQ.out, nanOf_nan64 _ _ _⟩), rfl⟩
set_option maxHeartbeats 2000000 in
theorem Add_any (a b c d : Nat) (w : World) : Calls Try.prog 19 #[.complex .f64 a b, .complex .f64 c d] w (RetC (floatBits .add .f64 a c) (floatBits .add .f64 b d) w) := by
  rcases opc .add (by simp) a c with ⟨p, O, h1⟩ | ⟨O, h1⟩ <;> rcases opc .add (by simp) b d with ⟨q, Q, h2⟩ | ⟨Q, h2⟩
  all_goals
    have HO := Lib.hid O
    have HQ := Lib.hid Q
    clear O Q
    go_enter Try.func19, Try.ntmps19
    go_wp2
    go_ret
    first | exact ⟨_, _, 0, rfl, (by first | exact .inl HO.out | exact .inr ⟨HO.out, nanOf_nan64 _ _ _⟩), (by first | exact .inl HQ.out | exact .inr ⟨HQ.out, nanOf_nan64 _ _ _⟩), rfl⟩ | exact ⟨_, _, 1, rfl, (by first | exact .inl HO.out | exact .inr ⟨HO.out, nanOf_nan64 _ _ _⟩), (by first | exact .inl HQ.out | exact .inr ⟨HQ.out, nanOf_nan64 _ _ _⟩), rfl⟩ | exact ⟨_, _, 2, rfl, (by first | exact .inl HO.out | exact .inr ⟨HO.out, nanOf_nan64 _ _ _⟩), (by first | exact .inl HQ.out | exact .inr ⟨HQ.out, nanOf_nan64 _ _ _⟩), rfl⟩ | exact ⟨_, _, 3, rfl, (by first | exact .inl HO.out | exact .inr ⟨HO.out, nanOf_nan64 _ _ _⟩), (by first | exact .inl HQ.out | exact .inr ⟨HQ.out, nanOf_nan64 _ _ _⟩), rfl⟩ | exact ⟨_, _, 4, rfl, (by first | exact .inl HO.out | exact .inr ⟨HO.out, nanOf_nan64 _ _ _⟩), (by first | exact .inl HQ.out | exact .inr ⟨HQ.out, nanOf_nan64 _ _ _⟩), rfl⟩ | exact ⟨_, _, 5, rfl, (by first | exact .inl HO.out | exact .inr ⟨HO.out, nanOf_nan64 _ _ _⟩), (by first | exact .inl HQ.out | exact .inr ⟨HQ.out, nanOf_nan64 _ _ _⟩), rfl⟩ | exact ⟨_, _, 6, rfl, (by first | exact .inl HO.out | exact .inr ⟨HO.out, nanOf_nan64 _ _ _⟩), (by first | exact .inl HQ.out | exact .inr ⟨HQ.out, nanOf_nan64 _ _ _⟩), rfl⟩
end Go.Proofs.Ytnjbbkalcnfkeaa
