/- Words for the texts that qprint.py writes: strings held against each other, in the form that the printed functions use. -/
import Derived.WalkKit
import Derived.Laws.Strings
namespace Go.Proofs.YtcmlifbfegblgaaDoor
open Go.RowKit
theorem less_flip : ∀ a b : List UInt8, (Op.bytesLess a b || a == b) = !Op.bytesLess b a
  | [], [] => rfl
  | [], _ :: _ => rfl
  | _ :: _, [] => rfl
  | x :: a, y :: b => by
    have ih := less_flip a b
    simp only [Op.bytesLess]
    rcases UInt8.lt_or_lt_of_ne (a := x) (b := y) |> fun h => (Classical.em (x = y)).imp id h with h | h | h
    · subst h
      have e : (x :: a == x :: b) = (a == b) := by simp
      have hl : decide (x < x) = false := decide_eq_false (UInt8.lt_irrefl x)
      rw [e, hl]
      simpa using ih
    · have h2 : ¬ y < x := fun h' => UInt8.lt_irrefl x (UInt8.lt_trans h h')
      have h3 : x ≠ y := fun e => UInt8.lt_irrefl y (e ▸ h)
      have h4 : ¬ (y == x) = true := by simpa using h3.symm
      simp [h, h2, h4]
    · have h2 : ¬ x < y := fun h' => UInt8.lt_irrefl x (UInt8.lt_trans h' h)
      have h3 : x ≠ y := fun e => UInt8.lt_irrefl y (e ▸ h)
      have e : (x :: a == y :: b) = false := by simp [h3]
      simp [h, h2, h3]
theorem str_leq (t : TypeId) (a b : ByteArray) : binOp .leq t (.string a) (.string b) = pure (.bool !(Op.bytesLess b.toList a.toList)) := by
  rw [← less_flip]; simp [binOp, Op.stringOp]
theorem str_gtr (t : TypeId) (a b : ByteArray) : binOp .gtr t (.string a) (.string b) = pure (.bool (Op.bytesLess b.toList a.toList)) := by
  have := less_flip a.toList b.toList
  simp only [binOp, Op.stringOp]
  rw [this]; simp
theorem str_geq (t : TypeId) (a b : ByteArray) : binOp .geq t (.string a) (.string b) = pure (.bool !(Op.bytesLess a.toList b.toList)) := by simp [binOp, Op.stringOp]
end Go.Proofs.YtcmlifbfegblgaaDoor
