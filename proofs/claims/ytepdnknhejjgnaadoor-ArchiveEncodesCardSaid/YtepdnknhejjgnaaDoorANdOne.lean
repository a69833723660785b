/- What the printed functions of one node come to. -/
import Derived.Test.YtepdnknhejjgnaaDoorANd
import Derived.Test.YtepdnknhejjgnaaDoorANdCount
import Derived.Test.YtepdnknhejjgnaaDoorQArchiveEncodesx3
namespace Go.Proofs.YtepdnknhejjgnaaDoor
open Go.RowKit Go.Proofs.YtepdnknhejjgnaaDoor.QArchiveEncodes Go.Proofs.YtepdnknhejjgnaaDoorW.PrintWords
theorem kinds_all (x : S26) : tree_kinds.f x.f0 x.f1 x.f2 x.f3 x.f4 = some (kindOk x) := by
  unfold tree_kinds.f kindOk
  have e1 : ((x.f2.length : Int) = 0) ↔ x.f2.length = 0 := by omega
  have e2 : ((x.f3.length : Int) = 0) ↔ x.f3.length = 0 := by omega
  have e3 : ((x.f4.length : Int) = 0) ↔ x.f4.length = 0 := by omega
  have e4 : ((x.f3.length : Int) = x.f4.length) ↔ x.f3.length = x.f4.length := by omega
  have e5 : (((x.f4.length : Int)) == 0) = decide (x.f4.length = 0) := by
    by_cases h : x.f4.length = 0
    · rw [h]; rfl
    · rw [decide_eq_false h, beq_eq_false_iff_ne]; omega
  simp only [e1, e2, e3, e4, e5]
  by_cases a : x.f0 = 2
  · simp only [a, if_true]
    by_cases b : x.f2.length = 0 <;> by_cases c : x.f3.length = x.f4.length <;> simp [b, c]
  · simp only [a, if_false]
    by_cases a3 : x.f0 = 3
    · simp only [a3, if_true]
      by_cases b : x.f3.length = 0 <;> by_cases c : x.f4.length = 0 <;> simp [b, c]
    · simp only [a3, if_false]
      by_cases a1 : x.f0 = 1
      · simp only [a1, if_true]
        by_cases b : x.f3.length = 0 <;> simp [b]
      · simp only [a1, if_false]
def entFrom (a : Int) (l : List ByteArray) : Int := l.foldl (fun s n => wrap64 (s + ((n.size : Int) + 3))) a
theorem entSum_eq (l : List ByteArray) : entSum l = entFrom 0 l := rfl
theorem tree_entries_loop (l : List ByteArray) (hl : l.length < 9223372036854775807) :
    ∀ (d i k : Nat) (a : Int), l.length - i = d → i ≤ l.length → d + 1 ≤ k → tree_entries.l0 k a l (l.length : Int) (i : Int) = some (entFrom a (l.drop i)) := by
  intro d
  induction d with
  | zero =>
    intro i k a h1 h2 h3
    obtain ⟨k, rfl⟩ : ∃ m, k = m + 1 := ⟨k - 1, by omega⟩
    have e : l.drop i = [] := List.drop_eq_nil_of_le (by omega)
    simp only [tree_entries.l0]
    rw [if_neg (by omega), e]
    rfl
  | succ d ih =>
    intro i k a h1 h2 h3
    obtain ⟨k, rfl⟩ : ∃ m, k = m + 1 := ⟨k - 1, by omega⟩
    have hi : i < l.length := by omega
    have e : l.drop i = l[i] :: l.drop (i + 1) := List.drop_eq_getElem_cons hi
    simp only [tree_entries.l0]
    rw [if_pos (by omega), if_pos (by omega), if_pos (by omega), rdn_at hi, w64 (x := (i : Int) + 1) (by omega) (by omega)]
    have := ih (i + 1) k (wrap64 (a + wrap64 ((l[i].size : Int) + 3))) (by omega) (by omega) (by omega)
    rw [Int.natCast_add, Int.natCast_one] at this
    rw [this, e]
    unfold entFrom
    rw [List.foldl_cons]
    congr 2
    unfold wrap64; omega
theorem tree_entries_all (x : S26) (hl : x.f3.length < 9223372036854775807) (k : Nat) (hk : x.f3.length + 1 ≤ k) : tree_entries.f k x.f0 x.f1 x.f2 x.f3 x.f4 = some (entSum x.f3) := by
  unfold tree_entries.f
  have := tree_entries_loop x.f3 hl _ 0 k 0 rfl (by omega) (by omega)
  rw [List.drop_zero] at this
  exact this
theorem ref_entries_loop (g0 : Int) (g1 : Bool) (g2 : List Int) (l : List ByteArray) (g4 : List S26) (hl : l.length < 9223372036854775807) :
    ∀ (d i k : Nat) (a : Int), l.length - i = d → i ≤ l.length → d + 1 ≤ k → stillroomref06_entries.l0 k a (i : Int) g0 g1 g2 l g4 = some (entFrom a (l.drop i)) := by
  intro d
  induction d with
  | zero =>
    intro i k a h1 h2 h3
    obtain ⟨k, rfl⟩ : ∃ m, k = m + 1 := ⟨k - 1, by omega⟩
    have e : l.drop i = [] := List.drop_eq_nil_of_le (by omega)
    simp only [stillroomref06_entries.l0]
    rw [if_neg (by omega), e]
    rfl
  | succ d ih =>
    intro i k a h1 h2 h3
    obtain ⟨k, rfl⟩ : ∃ m, k = m + 1 := ⟨k - 1, by omega⟩
    have hi : i < l.length := by omega
    have e : l.drop i = l[i] :: l.drop (i + 1) := List.drop_eq_getElem_cons hi
    simp only [stillroomref06_entries.l0]
    rw [if_pos (by omega), if_pos (by omega), rdn_at hi, w64 (x := (i : Int) + 1) (by omega) (by omega)]
    have := ih (i + 1) k (wrap64 (wrap64 (a + (l[i].size : Int)) + 3)) (by omega) (by omega) (by omega)
    rw [Int.natCast_add, Int.natCast_one] at this
    rw [this, e]
    unfold entFrom
    rw [List.foldl_cons]
    congr 2
    unfold wrap64; omega
theorem ref_entries_all (x : S26) (hl : x.f3.length < 9223372036854775807) (k : Nat) (hk : x.f3.length + 1 ≤ k) : stillroomref06_entries.f k x.f0 x.f1 x.f2 x.f3 x.f4 = some (entSum x.f3) := by
  unfold stillroomref06_entries.f
  have := ref_entries_loop x.f0 x.f1 x.f2 x.f3 x.f4 hl _ 0 k 0 rfl (by omega) (by omega)
  rw [List.drop_zero] at this
  exact this
end Go.Proofs.YtepdnknhejjgnaaDoor
