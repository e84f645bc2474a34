/- One word appended to a row of the call's own. -/
import Derived.Test.YtdihbpfoalmlcaaMem
import Derived.OwnWalk
import Derived.Laws.NewBlocks
namespace Go.Proofs.Ytdihbpfoalmlcaa
open Go.RowKit

/-- v is a row of the call's own (from block base on) that holds the digits xs. -/
def Own (w : World) (base : Nat) (v : Value) (xs : List Nat) : Prop := w.ownsRow base 22 1 v xs.length (xs.map dv)

theorem Own.none_ (w : World) (base : Nat) : Own w base (.slice none 0 0) [] := ⟨by simp, .inl ⟨rfl, rfl⟩⟩
theorem Own.isN {w : World} {base : Nat} {v : Value} {xs : List Nat} (h : Own w base v xs) :
    ∃ A cap, v = .slice A xs.length cap ∧ xs.length ≤ cap ∧ cap ≤ 9223372036854775807 ∧ Dg w w.heap.size A xs := by
  have h' := h
  rcases h.2 with ⟨rfl, h0⟩ | ⟨g, cap, cur, rfl, _, hh, hnc, hcm, _, _⟩
  · have : xs = [] := List.eq_nil_of_length_eq_zero h0
    subst this
    exact ⟨none, 0, rfl, by simp, by omega, Dg.nil_ _ _ _⟩
  · exact ⟨_, cap, rfl, hnc, by unfold maxLen at hcm; omega, (Dg.of_own h').2⟩

theorem word_info : (Try.prog.info? 22).map (fun i => (i.zero, i.size, i.bytes)) = some (some (.int .u32 0), 1, 4) := by kernel_rfl

theorem push {w : World} {ops : Array Oper} {rest : List Oper} {o : Oper} {a : Act} {Q : Exit → Act → World → Prop} (hgd : o.guard = none) (s x : Operand)
    (ho : o.op = .call { callee := .builtin .append, args := #[s, x], argTypes := #[61, 61] })
    (base : Nat) (v : Value) (xs : List Nat) (hs : a.eval s = v) (hown : Own w base v xs) (z : Int) (d : Nat) (hx : a.eval x = .slice (some ⟨w.heap.size, 0, none⟩) 1 1)
    (hd : z = (d : Int)) (hlen : xs.length ≤ 1000000) (hbase : base ≤ w.heap.size)
    (h : ∀ v' w' ys, Hid (ys = xs ++ [d]) → Own w' base v' ys → Below base w w' → wpList Try.prog ops Q rest (a.put o.dst v') w') :
    wpList Try.prog ops Q (o :: rest) a (w.alloc (.cells #[.int .u32 z] 22)) := by
  obtain ⟨i0, hi, hz0, hz1, hz2⟩ := info_parts word_info
  subst hd
  refine wpList_append_own _ hgd s x 61 ho base 22 i0 (.int .u32 0) 1 4 Try.underlying61 hi hz0 hz1 hz2 rfl (by decide) v xs.length (xs.map dv) hs (World.ownsRow.alloc hown _)
    ⟨w.heap.size, 0, none⟩ 1 1 [dv d] hx rfl ?_ ?_ (by unfold maxLen; omega) (by omega) (by simp; omega) ?_
  · intro j u hj
    match j with
    | 0 =>
      simp at hj
      subst hj
      simp [Addr.add, dv]
    | j + 1 => simp at hj
  · intro u hu
    simp at hu
    subst hu
    rfl
  · intro v' w' hown' hg _
    refine h v' w' (xs ++ [d]) (Lib.hid rfl) ?_ ?_
    · unfold Own
      simpa using hown'
    · refine ((Below.refl base w).alloc hbase _).grown hg (by simp; omega) ?_
      intro k hk
      exact (World.ownsRow.lt hown k hk).1
end Go.Proofs.Ytdihbpfoalmlcaa
