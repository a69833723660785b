/- tree.count and the reference's size tell the same: at most 1024 nodes, at most 32 above one another. -/
import Derived.Test.YtepdnknhejjgnaaDoorANd
import Derived.Test.YtepdnknhejjgnaaDoorQArchiveEncodesx3
namespace Go.Proofs.YtepdnknhejjgnaaDoor
open Go.RowKit Go.Proofs.YtepdnknhejjgnaaDoor.QArchiveEncodes Go.Proofs.YtepdnknhejjgnaaDoorW.PrintWords
theorem len_nodes : ∀ l : List S26, l.length ≤ nodesL l
  | [] => by rw [nodesL]; simp
  | x :: l => by have := len_nodes l; have := nodes_pos x; rw [nodesL]; simp; omega

theorem count_loop (l : List S26) (hl : l.length ≤ 9223372036854775807) (room depth : Int) (hr : room ≤ 1024) (hd1 : 1 ≤ depth) (hd2 : depth ≤ 32)
    (ih : ∀ x ∈ l, ∀ (k : Nat) (room depth : Int), 4 * nodes x ≤ k → 0 ≤ room → room ≤ 1024 → 1 ≤ depth → depth ≤ 33 → tree_count.f k x.f0 x.f1 x.f2 x.f3 x.f4 room depth = some (if depth + deep x ≤ 33 ∧ (nodes x : Int) ≤ room then ((nodes x : Int), true) else (0, false))) :
    ∀ (d i k : Nat) (all : Int), l.length - i = d → i ≤ l.length → 4 * nodesL (l.drop i) + 1 ≤ k → 1 ≤ all → all ≤ room →
      tree_count.l0 k room depth all l (l.length : Int) (i : Int) = some (if depth + deepL (l.drop i) ≤ 32 ∧ all + nodesL (l.drop i) ≤ room then (all + nodesL (l.drop i), true) else (0, false)) := by
  intro d
  induction d with
  | zero =>
    intro i k all h1 h2 h3 h4 h5
    obtain ⟨k, rfl⟩ : ∃ m, k = m + 1 := ⟨k - 1, by omega⟩
    have e : l.drop i = [] := List.drop_eq_nil_of_le (by omega)
    rw [e]
    simp only [tree_count.l0]
    rw [if_neg (by omega), deepL, nodesL, if_pos (by constructor <;> omega)]
    simp
  | succ d ihd =>
    intro i k all h1 h2 h3 h4 h5
    obtain ⟨k, rfl⟩ : ∃ m, k = m + 1 := ⟨k - 1, by omega⟩
    have hi : i < l.length := by omega
    have e := drop_at hi
    rw [e, nodesL] at h3
    have hp := nodes_pos l[i]
    have hn := ih l[i] (List.getElem_mem hi) k (room - all) (depth + 1) (by omega) (by omega) (by omega) (by omega) (by omega)
    simp only [tree_count.l0]
    rw [if_pos (by omega), if_pos (by omega), if_pos (by omega), rd_at hi, w64 (by omega) (by omega), w64 (x := depth + 1) (by omega) (by omega), hn, e, deepL, nodesL]
    by_cases c : depth + 1 + deep l[i] ≤ 33 ∧ (nodes l[i] : Int) ≤ room - all
    · rw [if_pos c]
      simp only [Option.bind_some, if_true]
      rw [w64 (by omega) (by omega), w64 (x := (i : Int) + 1) (by omega) (by omega)]
      have := ihd (i + 1) k (all + nodes l[i]) (by omega) (by omega) (by omega) (by omega) (by omega)
      rw [Int.natCast_add, Int.natCast_one] at this
      rw [this]
      by_cases c2 : depth + deepL (l.drop (i + 1)) ≤ 32 ∧ all + nodes l[i] + nodesL (l.drop (i + 1)) ≤ room
      · rw [if_pos c2, if_pos (by constructor <;> omega)]
        congr 2
        omega
      · rw [if_neg c2, if_neg (by omega)]
    · rw [if_neg c]
      simp only [Option.bind_some, Bool.false_eq_true, if_false]
      rw [if_neg (by omega)]
theorem count_all (n : Nat) : ∀ (x : S26), nodes x ≤ n → fits x → ∀ (k : Nat) (room depth : Int), 4 * nodes x ≤ k → 0 ≤ room → room ≤ 1024 → 1 ≤ depth → depth ≤ 33 →
    tree_count.f k x.f0 x.f1 x.f2 x.f3 x.f4 room depth = some (if depth + deep x ≤ 33 ∧ (nodes x : Int) ≤ room then ((nodes x : Int), true) else (0, false)) := by
  induction n with
  | zero => intro x hx; have := nodes_pos x; omega
  | succ n ihn =>
    intro x hx hb k room depth h1 h2 h3 h4 h5
    have hn := nodes_eq x
    have hp := deep_eq x
    obtain ⟨hf2, hf3, hf4, hfl⟩ := (fits_eq x).1 hb
    obtain ⟨k, rfl⟩ : ∃ m, k = m + 1 := ⟨k - 1, by omega⟩
    obtain ⟨k, rfl⟩ : ∃ m, k = m + 1 := ⟨k - 1, by omega⟩
    simp only [tree_count.f]
    by_cases hd : depth > 32
    · rw [if_pos hd]
      simp only [tree_count.j0, if_true]
      rw [if_neg (by have := deep_pos x; omega)]
    · rw [if_neg hd]
      by_cases hr : room < 1
      · rw [decide_eq_true hr]
        simp only [tree_count.j0, if_true]
        rw [if_neg (by have := nodes_pos x; omega)]
      · rw [decide_eq_false hr]
        simp only [tree_count.j0, Bool.false_eq_true, if_false]
        have := count_loop x.f4 (by omega) room depth h3 h4 (by omega) (fun y hy => by
          have := nodes_mem hy
          exact ihn y (by omega) (fits_mem hfl hy)) _ 0 k 1 rfl (by omega) (by rw [List.drop_zero]; omega) (by omega) (by omega)
        rw [List.drop_zero] at this
        rw [show ((0 : Nat) : Int) = 0 from rfl] at this
        rw [this, hn, hp]
        by_cases c : depth + deepL x.f4 ≤ 32 ∧ 1 + (nodesL x.f4 : Int) ≤ room
        · rw [if_pos c, if_pos (by constructor <;> omega)]
          congr 2
        · rw [if_neg c, if_neg (by omega)]

/-- the reference's way -/
theorem size_loop (l : List S26) (hl : l.length ≤ 9223372036854775807) (depth : Int) (hd1 : 1 ≤ depth) (hd2 : depth ≤ 32) (g0 : Int) (g1 : Bool) (g2 : List Int) (g3 : List ByteArray)
    (ih : ∀ x ∈ l, ∀ (k : Nat) (depth : Int), 4 * nodes x ≤ k → 1 ≤ depth → depth ≤ 33 → ∃ r b, stillroomref06_size.f k x.f0 x.f1 x.f2 x.f3 x.f4 depth = some (r, b) ∧ (b = true ↔ depth + deep x ≤ 33 ∧ nodes x ≤ 1024) ∧ (b = true → r = nodes x)) :
    ∀ (d i k : Nat) (all : Int), l.length - i = d → i ≤ l.length → 4 * nodesL (l.drop i) + 1 ≤ k → 1 ≤ all → all ≤ 1024 →
      ∃ r b, stillroomref06_size.l0 k depth all (i : Int) g0 g1 g2 g3 l = some (r, b) ∧ (b = true ↔ depth + deepL (l.drop i) ≤ 32 ∧ all + nodesL (l.drop i) ≤ 1024) ∧ (b = true → r = all + nodesL (l.drop i)) := by
  intro d
  induction d with
  | zero =>
    intro i k all h1 h2 h3 h4 h5
    obtain ⟨k, rfl⟩ : ∃ m, k = m + 1 := ⟨k - 1, by omega⟩
    have e : l.drop i = [] := List.drop_eq_nil_of_le (by omega)
    rw [e]
    refine ⟨all, true, ?_, ?_, ?_⟩
    · simp only [stillroomref06_size.l0]
      rw [if_neg (by omega)]
    · rw [deepL, nodesL]; simp only [true_iff]; constructor <;> omega
    · rw [nodesL]; intro _; omega
  | succ d ihd =>
    intro i k all h1 h2 h3 h4 h5
    obtain ⟨k, rfl⟩ : ∃ m, k = m + 1 := ⟨k - 1, by omega⟩
    have hi : i < l.length := by omega
    have e := drop_at hi
    rw [e, nodesL] at h3
    have hp := nodes_pos l[i]
    obtain ⟨r, b, hn, hb, hrb⟩ := ih l[i] (List.getElem_mem hi) k (depth + 1) (by omega) (by omega) (by omega)
    simp only [stillroomref06_size.l0]
    rw [if_pos (by omega), if_pos (by omega), rd_at hi, w64 (x := depth + 1) (by omega) (by omega), hn, e, deepL, nodesL]
    simp only [Option.bind_some]
    cases b with
    | false =>
      have hb' : ¬ (depth + 1 + (deep l[i] : Int) ≤ 33 ∧ nodes l[i] ≤ 1024) := fun h => by cases hb.2 h
      refine ⟨wrap64 (all + r), false, by simp only [Bool.false_eq_true, if_false], ?_, fun h => by cases h⟩
      simp only [Bool.false_eq_true, false_iff]
      omega
    | true =>
      have hb' := hb.1 rfl
      have hr := hrb rfl
      subst hr
      simp only [if_true]
      rw [w64 (by omega) (by omega)]
      by_cases c : all + (nodes l[i] : Int) > 1024
      · rw [if_pos c]
        refine ⟨_, false, rfl, ?_, fun h => by cases h⟩
        simp only [Bool.false_eq_true, false_iff]
        omega
      · rw [if_neg c, w64 (x := (i : Int) + 1) (by omega) (by omega)]
        obtain ⟨r2, b2, e2, c2, d2⟩ := ihd (i + 1) k (all + nodes l[i]) (by omega) (by omega) (by omega) (by omega) (by omega)
        rw [Int.natCast_add, Int.natCast_one] at e2
        refine ⟨r2, b2, e2, c2.trans ⟨fun h => by omega, fun h => by omega⟩, fun h => by rw [d2 h]; omega⟩
theorem size_all (n : Nat) : ∀ (x : S26), nodes x ≤ n → fits x → ∀ (k : Nat) (depth : Int), 4 * nodes x ≤ k → 1 ≤ depth → depth ≤ 33 →
    ∃ r b, stillroomref06_size.f k x.f0 x.f1 x.f2 x.f3 x.f4 depth = some (r, b) ∧ (b = true ↔ depth + deep x ≤ 33 ∧ nodes x ≤ 1024) ∧ (b = true → r = nodes x) := by
  induction n with
  | zero => intro x hx; have := nodes_pos x; omega
  | succ n ihn =>
    intro x hx hb k depth h1 h4 h5
    have hn := nodes_eq x
    have hp := deep_eq x
    obtain ⟨hf2, hf3, hf4, hfl⟩ := (fits_eq x).1 hb
    obtain ⟨k, rfl⟩ : ∃ m, k = m + 1 := ⟨k - 1, by omega⟩
    simp only [stillroomref06_size.f]
    by_cases hd : depth > 32
    · rw [if_pos hd]
      refine ⟨_, _, rfl, ?_, fun h => by cases h⟩
      simp only [Bool.false_eq_true, false_iff]
      omega
    · rw [if_neg hd]
      obtain ⟨r, b, e, c, d⟩ := size_loop x.f4 (by omega) depth h4 (by omega) x.f0 x.f1 x.f2 x.f3 (fun y hy => by
          have := nodes_mem hy
          exact ihn y (by omega) (fits_mem hfl hy)) _ 0 k 1 rfl (by omega) (by rw [List.drop_zero]; omega) (by omega) (by omega)
      rw [List.drop_zero] at c d
      exact ⟨r, b, e, c.trans ⟨fun h => by omega, fun h => by omega⟩, fun h => by rw [d h]; omega⟩
end Go.Proofs.YtepdnknhejjgnaaDoor
