/- own: a node of its own memory is the same node; small tells a number. -/
import Derived.Test.YtaadbikaeofnoaaNd
import Derived.Test.YtaadbikaeofnoaaNdCount
import Derived.Test.YtaadbikaeofnoaaQTreeRightsx1
import Derived.Test.YtaadbikaeofnoaaQTreeRightsx2
namespace Go.Proofs.Ytaadbikaeofnoaa
open Go.RowKit Go.Proofs.Ytaadbikaeofnoaa.QTreeRights Go.Proofs.YtaadbikaeofnoaaW.PrintWords
theorem own_loop (l : List S36) (hl : l.length ≤ 1599289640354) (a0 : Int) (a1 : Bool) (a2 : List Int) (a3 : List ByteArray) (b0 : Int) (b1 : Bool) (b2 : List Int) (b3 : List ByteArray)
    (ih : ∀ x ∈ l, ∀ k : Nat, 4 * nodes x ≤ k → stillroomlaw06_own.f k x.f0 x.f1 x.f2 x.f3 x.f4 = some (x.f0, x.f1, x.f2, x.f3, x.f4)) :
    ∀ (d i k : Nat), l.length - i = d → i ≤ l.length → 4 * nodesL (l.drop i) + 1 ≤ k →
      stillroomlaw06_own.l0 k (i : Int) a0 a1 a2 a3 l b0 b1 b2 b3 (l.take i) = some (b0, b1, b2, b3, l) := by
  intro d
  induction d with
  | zero =>
    intro i k h1 h2 h3
    obtain ⟨k, rfl⟩ : ∃ m, k = m + 1 := ⟨k - 1, by omega⟩
    have e : l.take i = l := List.take_of_length_le (by omega)
    simp only [stillroomlaw06_own.l0]
    rw [if_neg (by omega), e]
  | succ d ihd =>
    intro i k h1 h2 h3
    obtain ⟨k, rfl⟩ : ∃ m, k = m + 1 := ⟨k - 1, by omega⟩
    have hi : i < l.length := by omega
    have e := drop_at hi
    rw [e, nodesL] at h3
    have hp := nodes_pos l[i]
    have hn := ih l[i] (List.getElem_mem hi) k (by omega)
    simp only [stillroomlaw06_own.l0]
    rw [if_pos (by omega), if_pos (by omega), rd_at hi, hn]
    simp only [Option.bind_some]
    rw [if_pos (by rw [List.length_take]; omega), w64 (by omega) (by omega)]
    have := ihd (i + 1) k (by omega) (by omega) (by omega)
    rw [Int.natCast_add, Int.natCast_one, List.take_succ_eq_append_getElem hi] at this
    rw [show (⟨l[i].f0, l[i].f1, l[i].f2, l[i].f3, l[i].f4⟩ : S36) = l[i] by cases l[i]; rfl]
    exact this
theorem own_all (n : Nat) : ∀ (x : S36), nodes x ≤ n → fits x → ∀ k : Nat, 4 * nodes x ≤ k → stillroomlaw06_own.f k x.f0 x.f1 x.f2 x.f3 x.f4 = some (x.f0, x.f1, x.f2, x.f3, x.f4) := by
  induction n with
  | zero => intro x hx; have := nodes_pos x; omega
  | succ n ihn =>
    intro x hx hf k h1
    have hn := nodes_eq x
    obtain ⟨hf2, ⟨hf3, _⟩, hf4, hfl⟩ := (fits_eq x).1 hf
    obtain ⟨k, rfl⟩ : ∃ m, k = m + 1 := ⟨k - 1, by omega⟩
    simp only [stillroomlaw06_own.f, Option.bind_some]
    rw [if_pos (by simp; omega), if_pos (by simp; omega)]
    have := own_loop x.f4 hf4 x.f0 x.f1 x.f2 x.f3 x.f0 x.f1 ([] ++ x.f2) ([] ++ x.f3) (fun y hy k hk => by
      have := nodes_mem hy
      exact ihn y (by omega) (fits_mem hfl hy) k hk) _ 0 k rfl (by omega) (by rw [List.drop_zero]; omega)
    rw [List.take_zero] at this
    exact this
theorem small_loop (l : List S36) (hl : l.length ≤ 1599289640354) (x1 a0 : Int) (a1 : Bool) (a2 : List Int) (a3 : List ByteArray)
    (ih : ∀ x ∈ l, ∀ (k : Nat) (d : Int), 4 * nodes x ≤ k → ∃ r, stillroomlaw06_small.f k x.f0 x.f1 x.f2 x.f3 x.f4 d = some r) :
    ∀ (d i k : Nat) (x5 : Int), l.length - i = d → i ≤ l.length → 4 * nodesL (l.drop i) + 1 ≤ k → ∃ r, stillroomlaw06_small.l0 k x1 x5 (i : Int) a0 a1 a2 a3 l = some r := by
  intro d
  induction d with
  | zero =>
    intro i k x5 h1 h2 h3
    obtain ⟨k, rfl⟩ : ∃ m, k = m + 1 := ⟨k - 1, by omega⟩
    simp only [stillroomlaw06_small.l0]
    rw [if_neg (by omega)]
    exact ⟨_, rfl⟩
  | succ d ihd =>
    intro i k x5 h1 h2 h3
    obtain ⟨k, rfl⟩ : ∃ m, k = m + 1 := ⟨k - 1, by omega⟩
    have hi : i < l.length := by omega
    have e := drop_at hi
    rw [e, nodesL] at h3
    have hp := nodes_pos l[i]
    obtain ⟨r, hn⟩ := ih l[i] (List.getElem_mem hi) k (wrap64 (x1 + 1)) (by omega)
    simp only [stillroomlaw06_small.l0]
    rw [if_pos (by omega)]
    by_cases c : x5 < 5000
    · rw [if_pos c, if_pos (by omega), rd_at hi, hn]
      simp only [Option.bind_some]
      rw [w64 (x := (i : Int) + 1) (by omega) (by omega)]
      have := ihd (i + 1) k (wrap64 (x5 + r)) (by omega) (by omega) (by omega)
      rw [Int.natCast_add, Int.natCast_one] at this
      exact this
    · rw [if_neg c]
      exact ⟨_, rfl⟩
theorem small_all (n : Nat) : ∀ (x : S36), nodes x ≤ n → fits x → ∀ (k : Nat) (d : Int), 4 * nodes x ≤ k → ∃ r, stillroomlaw06_small.f k x.f0 x.f1 x.f2 x.f3 x.f4 d = some r := by
  induction n with
  | zero => intro x hx; have := nodes_pos x; omega
  | succ n ihn =>
    intro x hx hf k d h1
    have hn := nodes_eq x
    obtain ⟨hf2, ⟨hf3, _⟩, hf4, hfl⟩ := (fits_eq x).1 hf
    obtain ⟨k, rfl⟩ : ∃ m, k = m + 1 := ⟨k - 1, by omega⟩
    simp only [stillroomlaw06_small.f]
    by_cases c : d > 40
    · rw [if_pos c]; exact ⟨_, rfl⟩
    · rw [if_neg c]
      have := small_loop x.f4 hf4 d x.f0 x.f1 x.f2 x.f3 (fun y hy k d hk => by
        have := nodes_mem hy
        exact ihn y (by omega) (fits_mem hfl hy) k d hk) _ 0 k 1 rfl (by omega) (by rw [List.drop_zero]; omega)
      exact this
end Go.Proofs.Ytaadbikaeofnoaa
