/- wrong and one tell 'bad'; the two needs tell 'need'; the law's pure half. -/
import Derived.Test.YtepdnknhejjgnaaDoorANdBad
import Derived.Test.YtepdnknhejjgnaaDoorQArchiveEncodesx5
namespace Go.Proofs.YtepdnknhejjgnaaDoor
open Go.RowKit Go.Proofs.YtepdnknhejjgnaaDoor.QArchiveEncodes Go.Proofs.YtepdnknhejjgnaaDoorW.PrintWords
theorem Ev.pos {α : Type} {c : Prop} [Decidable c] {A B : Nat → Option α} {r : α} (h : c) (k : Ev A r) : Ev (fun n => if c then A n else B n) r := Ev.congr (fun _ => if_pos h) k
theorem Ev.neg {α : Type} {c : Prop} [Decidable c] {A B : Nat → Option α} {r : α} (h : ¬ c) (k : Ev B r) : Ev (fun n => if c then A n else B n) r := Ev.congr (fun _ => if_neg h) k
theorem bad_eq (x : S26) : bad x = if kindOk x = false then 12 else if 31744 < x.f2.length ∨ (x.f0 = 3 ∧ 1024 < x.f2.length) ∨ 31744 < entSum x.f3 then 3 else if x.f0 = 3 ∧ x.f2.length = 0 then 2 else if namesBad x.f3 none = true then 17 else badL x.f4 := by cases x; rw [bad]
theorem tent_ev (x : S26) (hf : fits x) : Ev (fun k => tree_entries.f k x.f0 x.f1 x.f2 x.f3 x.f4) (entSum x.f3) :=
  ⟨x.f3.length + 1, fun k hk => tree_entries_all x (by have := ((fits_eq x).1 hf).2.1.1; omega) k hk⟩
theorem rent_ev (x : S26) (hf : fits x) : Ev (fun k => stillroomref06_entries.f k x.f0 x.f1 x.f2 x.f3 x.f4) (entSum x.f3) :=
  ⟨x.f3.length + 1, fun k hk => ref_entries_all x (by have := ((fits_eq x).1 hf).2.1.1; omega) k hk⟩
theorem wrong_all (n : Nat) : ∀ x : S26, nodes x ≤ n → fits x → Ev (fun k => tree_wrong.f k x.f0 x.f1 x.f2 x.f3 x.f4) (bad x) := by
  induction n with
  | zero => intro x hx; have := nodes_pos x; omega
  | succ n ihn =>
    intro x hx hf
    obtain ⟨hf2, ⟨hf3, hs⟩, hf4, hfl⟩ := (fits_eq x).1 hf
    have hn := nodes_eq x
    have h1 : Ev (fun k => tree_wrong.l1 k x.f4 (x.f4.length : Int) 0) (badL x.f4) := wrong_l1 x.f4 hf4 (fun y hy => ihn y (by have := nodes_mem hy; omega) (fits_mem hfl hy)) _ 0 rfl (by omega)
    have h0 : Ev (fun k => tree_wrong.l0 k x.f3 (x.f3.length : Int) 0 x.f0 x.f1 x.f2 x.f3 x.f4) (if namesBad x.f3 none = true then 17 else badL x.f4) := wrong_l0 x.f0 x.f1 x.f2 x.f3 x.f4 _ hf3 h1 _ 0 rfl (by omega)
    have hj1 : Ev (fun k => tree_wrong.j1 k x.f0 x.f1 x.f2 x.f3 x.f4) (if namesBad x.f3 none = true then 17 else badL x.f4) := Ev.step (fun k => by simp only [tree_wrong.j1]) h0
    have hjt : Ev (fun k => tree_wrong.j0 k true x.f0 x.f1 x.f2 x.f3 x.f4) 3 := Ev.step (f := fun _ => some 3) (fun k => by simp only [tree_wrong.j0, if_true]) (Ev.now _)
    have hjf : Ev (fun k => tree_wrong.j0 k false x.f0 x.f1 x.f2 x.f3 x.f4) (if x.f0 = 3 ∧ x.f2.length = 0 then 2 else if namesBad x.f3 none = true then 17 else badL x.f4) := by
      refine Ev.step (fun k => by simp only [tree_wrong.j0, Bool.false_eq_true, if_false]; exact rfl) ?_
      by_cases a : x.f0 = 3
      · refine Ev.pos a ?_
        by_cases b : (x.f2.length : Int) = 0
        · rw [if_pos (by omega)]
          exact Ev.pos b (Ev.now _)
        · rw [if_neg (by omega)]
          exact Ev.neg b hj1
      · rw [if_neg (by omega)]
        exact Ev.neg a hj1
    have hjd : ∀ c : Prop, [Decidable c] → Ev (fun k => tree_wrong.j0 k (decide c) x.f0 x.f1 x.f2 x.f3 x.f4) (if c then 3 else if x.f0 = 3 ∧ x.f2.length = 0 then 2 else if namesBad x.f3 none = true then 17 else badL x.f4) := fun c _ => by
      by_cases h : c
      · rw [if_pos h, decide_eq_true h]; exact hjt
      · rw [if_neg h, decide_eq_false h]; exact hjf
    refine Ev.step (fun k => by simp only [tree_wrong.f, kinds_all, Option.bind_some]; exact rfl) ?_
    rw [bad_eq]
    by_cases hk : kindOk x = true
    · rw [if_neg (by simp [hk])]
      refine Ev.pos hk ?_
      by_cases a : (x.f2.length : Int) > 31744
      · rw [if_pos (by omega)]
        exact Ev.pos a hjt
      · refine Ev.neg a ?_
        have hd := hjd (entSum x.f3 > 31744)
        by_cases b : x.f0 = 3
        · refine Ev.pos b ?_
          by_cases c : (x.f2.length : Int) > 1024
          · rw [if_pos (by omega)]
            exact Ev.pos c hjt
          · refine Ev.neg c (Ev.bind (f := fun k t => tree_wrong.j0 k (decide (t > 31744)) x.f0 x.f1 x.f2 x.f3 x.f4) (tent_ev x hf) ?_)
            by_cases e : entSum x.f3 > 31744
            · rw [if_pos e] at hd; rw [if_pos (by omega)]; exact hd
            · rw [if_neg e] at hd; rw [if_neg (by omega)]; exact hd
        · refine Ev.neg b (Ev.bind (f := fun k t => tree_wrong.j0 k (decide (t > 31744)) x.f0 x.f1 x.f2 x.f3 x.f4) (tent_ev x hf) ?_)
          by_cases e : entSum x.f3 > 31744
          · rw [if_pos e] at hd; rw [if_pos (by omega)]; exact hd
          · rw [if_neg e] at hd; rw [if_neg (by omega)]; exact hd
    · rw [if_pos (by simpa using hk)]
      exact Ev.neg hk (Ev.now _)
theorem one_kind (x : S26) (k : Nat) : stillroomref06_one.f (k + 1) x.f0 x.f1 x.f2 x.f3 x.f4 = stillroomref06_one.j0 k (!kindOk x) x.f0 x.f1 x.f2 x.f3 x.f4 := by
  have e2 : ((x.f2.length : Int) > 0) ↔ ¬ x.f2.length = 0 := by omega
  have e3 : ((x.f3.length : Int) > 0) ↔ ¬ x.f3.length = 0 := by omega
  have e4 : ((x.f4.length : Int) > 0) ↔ ¬ x.f4.length = 0 := by omega
  have e5 : ((x.f3.length : Int) != (x.f4.length : Int)) = !decide (x.f3.length = x.f4.length) := by
    by_cases h : x.f3.length = x.f4.length
    · simp [h]
    · rw [decide_eq_false h]
      simp only [Bool.not_false, bne_iff_ne, ne_eq]
      omega
  simp only [stillroomref06_one.f, kindOk, e2, e3, e4, e5]
  by_cases a : x.f0 = 2
  · have a1 : ¬ x.f0 < 1 := by omega
    have a2 : ¬ x.f0 > 3 := by omega
    have a3 : ¬ x.f0 = 1 := by omega
    rw [if_neg a1, if_neg a2, if_pos a, if_neg a3, if_pos a]
    cases x.f1 <;> by_cases b : x.f2.length = 0 <;> simp [b]
  · by_cases a3 : x.f0 = 3
    · have a1 : ¬ x.f0 < 1 := by omega
      have a2 : ¬ x.f0 > 3 := by omega
      have a4 : ¬ x.f0 = 1 := by omega
      rw [if_neg a1, if_neg a2, if_neg a, if_neg a4, if_neg a, if_pos a3]
      cases x.f1 <;> by_cases b : x.f3.length = 0 <;> by_cases c : x.f4.length = 0 <;> simp [b, c]
    · by_cases a1 : x.f0 = 1
      · rw [if_neg (by omega), if_neg (by omega), if_neg a, if_pos a1, if_neg a, if_neg a3, if_pos a1]
        by_cases b : x.f3.length = 0 <;> by_cases c : x.f4.length = 0 <;> simp [b, c]
      · by_cases c : x.f0 < 1
        · simp [a, a1, a3, c]
        · have d : x.f0 > 3 := by omega
          simp [a, a1, a3, c, d]
theorem one_all (n : Nat) : ∀ x : S26, nodes x ≤ n → fits x → Ev (fun k => stillroomref06_one.f k x.f0 x.f1 x.f2 x.f3 x.f4) (bad x) := by
  induction n with
  | zero => intro x hx; have := nodes_pos x; omega
  | succ n ihn =>
    intro x hx hf
    obtain ⟨hf2, ⟨hf3, hs⟩, hf4, hfl⟩ := (fits_eq x).1 hf
    have hn := nodes_eq x
    have h1 : Ev (fun k => stillroomref06_one.l1 k 0 x.f0 x.f1 x.f2 x.f3 x.f4) (badL x.f4) := one_l1 x.f0 x.f1 x.f2 x.f3 x.f4 hf4 (fun y hy => ihn y (by have := nodes_mem hy; omega) (fits_mem hfl hy)) _ 0 rfl (by omega)
    have h0 : Ev (fun k => stillroomref06_one.l0 k 0 x.f0 x.f1 x.f2 x.f3 x.f4) (if namesBad x.f3 none = true then 17 else badL x.f4) := one_l0 x.f0 x.f1 x.f2 x.f3 x.f4 _ hf3 hs h1 _ 0 rfl (by omega)
    have hj2 : ∀ b, Ev (fun k => stillroomref06_one.j2 k b x.f0 x.f1 x.f2 x.f3 x.f4) (if b = true then 2 else if namesBad x.f3 none = true then 17 else badL x.f4) := fun b => by
      refine Ev.step (fun k => by simp only [stillroomref06_one.j2]; exact rfl) ?_
      cases b with
      | true => exact Ev.pos rfl (Ev.now _)
      | false => exact Ev.neg (by simp) h0
    have hjt : Ev (fun k => stillroomref06_one.j1 k true x.f0 x.f1 x.f2 x.f3 x.f4) 3 := Ev.step (f := fun _ => some 3) (fun k => by simp only [stillroomref06_one.j1, if_true]) (Ev.now _)
    have hjf : Ev (fun k => stillroomref06_one.j1 k false x.f0 x.f1 x.f2 x.f3 x.f4) (if x.f0 = 3 ∧ x.f2.length = 0 then 2 else if namesBad x.f3 none = true then 17 else badL x.f4) := by
      refine Ev.step (fun k => by simp only [stillroomref06_one.j1, Bool.false_eq_true, if_false]; exact rfl) ?_
      by_cases a : x.f0 = 3
      · refine Ev.pos a ?_
        have := hj2 ((x.f2.length : Int) == 0)
        by_cases b : (x.f2.length : Int) = 0
        · rw [if_pos (by omega)]
          rw [if_pos (by simpa using b)] at this
          exact this
        · rw [if_neg (by omega)]
          rw [if_neg (by simpa using b)] at this
          exact this
      · rw [if_neg (by omega)]
        exact Ev.neg a (by have := hj2 false; simpa using this)
    have hjd : ∀ c : Prop, [Decidable c] → Ev (fun k => stillroomref06_one.j1 k (decide c) x.f0 x.f1 x.f2 x.f3 x.f4) (if c then 3 else if x.f0 = 3 ∧ x.f2.length = 0 then 2 else if namesBad x.f3 none = true then 17 else badL x.f4) := fun c _ => by
      by_cases h : c
      · rw [if_pos h, decide_eq_true h]; exact hjt
      · rw [if_neg h, decide_eq_false h]; exact hjf
    refine Ev.step (fun k => one_kind x k) ?_
    rw [bad_eq]
    by_cases hk : kindOk x = true
    · rw [if_neg (by simp [hk]), hk]
      have hk2 : x.f0 = 2 → x.f2.length = 0 := fun h => by
        unfold kindOk at hk
        rw [if_pos h] at hk
        simp at hk
        simp [hk.1.1]
      have hk3 : x.f0 = 1 ∨ x.f0 = 2 ∨ x.f0 = 3 := by
        unfold kindOk at hk
        by_cases a : x.f0 = 2
        · exact .inr (.inl a)
        · by_cases b : x.f0 = 3
          · exact .inr (.inr b)
          · by_cases c : x.f0 = 1
            · exact .inl c
            · rw [if_neg a, if_neg b, if_neg c] at hk; cases hk
      have hd := hjd (entSum x.f3 > 31744)
      refine Ev.step (fun k => by simp only [stillroomref06_one.j0, Bool.not_true, Bool.false_eq_true, if_false]; exact rfl) ?_
      have hb : Ev (fun k => (stillroomref06_entries.f k x.f0 x.f1 x.f2 x.f3 x.f4).bind fun t => stillroomref06_one.j1 k (decide (t > 31744)) x.f0 x.f1 x.f2 x.f3 x.f4) (if entSum x.f3 > 31744 then 3 else if x.f0 = 3 ∧ x.f2.length = 0 then 2 else if namesBad x.f3 none = true then 17 else badL x.f4) :=
        Ev.bind (f := fun k t => stillroomref06_one.j1 k (decide (t > 31744)) x.f0 x.f1 x.f2 x.f3 x.f4) (rent_ev x hf) hd
      by_cases a : x.f0 = 1
      · refine Ev.pos a ?_
        by_cases b : (x.f2.length : Int) > 31744
        · rw [if_pos (by omega)]
          exact Ev.pos b hjt
        · refine Ev.neg b (Ev.neg (by omega) ?_)
          by_cases e : entSum x.f3 > 31744
          · rw [if_pos e] at hb; rw [if_pos (by omega)]; exact hb
          · rw [if_neg e] at hb; rw [if_neg (by omega)]; exact hb
      · refine Ev.neg a ?_
        by_cases b : x.f0 = 3
        · refine Ev.pos b ?_
          by_cases c : (x.f2.length : Int) > 1024
          · rw [if_pos (by omega)]
            exact Ev.pos c hjt
          · refine Ev.neg c ?_
            by_cases e : entSum x.f3 > 31744
            · rw [if_pos e] at hb; rw [if_pos (by omega)]; exact hb
            · rw [if_neg e] at hb; rw [if_neg (by omega)]; exact hb
        · refine Ev.neg b ?_
          by_cases e : entSum x.f3 > 31744
          · rw [if_pos e] at hb; rw [if_pos (by omega)]; exact hb
          · rw [if_neg e] at hb; rw [if_neg (by omega)]; exact hb
    · have hk' : kindOk x = false := by simpa using hk
      rw [if_pos hk', hk']
      exact Ev.step (f := fun _ => some 12) (fun k => by simp only [stillroomref06_one.j0, Bool.not_false, if_true]) (Ev.now _)
/-- the sectors of a node, as the machine sums them -/
def right (x : S26) : Int := if deep x ≤ 32 ∧ nodes x ≤ 1024 then bad x else 3
theorem tright_all (x : S26) (hf : fits x) : Ev (fun k => tree_Right.f k x.f0 x.f1 x.f2 x.f3 x.f4) (right x) := by
  have hc : Ev (fun k => tree_count.f k x.f0 x.f1 x.f2 x.f3 x.f4 1024 1) (if (1 : Int) + deep x ≤ 33 ∧ (nodes x : Int) ≤ 1024 then ((nodes x : Int), true) else (0, false)) :=
    ⟨4 * nodes x, fun k hk => count_all (nodes x) x (Nat.le_refl _) hf k 1024 1 hk (by omega) (by omega) (by omega) (by omega)⟩
  unfold tree_Right.f right
  refine Ev.bind hc ?_
  by_cases c : (1 : Int) + deep x ≤ 33 ∧ (nodes x : Int) ≤ 1024
  · rw [if_pos c, if_pos (by omega)]
    exact Ev.pos rfl (Ev.bind (f := fun _ t => some t) (wrong_all _ x (Nat.le_refl _) hf) (Ev.now _))
  · rw [if_neg c, if_neg (by omega)]
    exact Ev.neg (by simp) (Ev.now _)
theorem rright_all (x : S26) (hf : fits x) : Ev (fun k => stillroomref06_Right.f k x.f0 x.f1 x.f2 x.f3 x.f4) (right x) := by
  obtain ⟨r, b, hc, hb, _⟩ := size_all (nodes x) x (Nat.le_refl _) hf (4 * nodes x) 1 (Nat.le_refl _) (by omega) (by omega)
  have hc : Ev (fun k => stillroomref06_size.f k x.f0 x.f1 x.f2 x.f3 x.f4 1) (r, b) := Ev.of (fun k => stillroomref06_size.mono _ _ _ _ _ _ k) hc
  unfold stillroomref06_Right.f right
  refine Ev.bind hc ?_
  cases b with
  | true =>
    have := hb.1 rfl
    rw [if_pos (by omega)]
    exact Ev.pos rfl (Ev.bind (f := fun _ t => some t) (one_all _ x (Nat.le_refl _) hf) (Ev.now _))
  | false =>
    have : ¬ ((1 : Int) + deep x ≤ 33 ∧ nodes x ≤ 1024) := fun h => by cases hb.2 h
    rw [if_neg (by omega)]
    exact Ev.neg (by simp) (Ev.now _)
end Go.Proofs.YtepdnknhejjgnaaDoor
