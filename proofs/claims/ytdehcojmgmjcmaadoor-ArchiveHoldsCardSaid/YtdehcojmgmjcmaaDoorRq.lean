/- stillroomref06.Same: whether two nodes are alike. -/
import Derived.Test.YtdehcojmgmjcmaaDoorRp
import Derived.Test.YtdehcojmgmjcmaaDoorQArchiveBackx4
namespace Go.Proofs.YtdehcojmgmjcmaaDoor
set_option linter.unusedVariables false
set_option linter.unusedSimpArgs false
open Go.RowKit QArchiveBack Go.Proofs.YtdehcojmgmjcmaaDoorW.PrintWords Go.Proofs.YtdehcojmgmjcmaaDoorW.PrintLast Go.Proofs.YtdehcojmgmjcmaaDoorW.PrintMore
noncomputable def sm (x y : S26) : Bool := @decide (norm x = norm y) (Classical.propDecidable _)
noncomputable def smL (x y : List S26) : Bool := @decide (normL x = normL y) (Classical.propDecidable _)
theorem sm_true {x y : S26} : sm x y = true ↔ norm x = norm y := by unfold sm; exact @decide_eq_true_iff _ (Classical.propDecidable _)
theorem smL_true {x y : List S26} : smL x y = true ↔ normL x = normL y := by unfold smL; exact @decide_eq_true_iff _ (Classical.propDecidable _)
theorem smL_cons (x y : S26) (xs ys : List S26) : smL (x :: xs) (y :: ys) = (sm x y && smL xs ys) := by
  rw [Bool.eq_iff_iff, Bool.and_eq_true, smL_true, sm_true, smL_true, normL, normL, List.cons.injEq]
theorem sm_false {x y : S26} (h : norm x ≠ norm y) : sm x y = false := by
  cases e : sm x y
  · rfl
  · exact absurd (sm_true.1 e) h
theorem norm_iff (x y : S26) : norm x = norm y ↔ (x.f0 = y.f0 ∧ x.f1 = y.f1 ∧ strOfNums x.f2 = strOfNums y.f2 ∧ x.f3 = y.f3 ∧ normL x.f4 = normL y.f4) := by
  rw [norm_eq, norm_eq y]
  constructor
  · intro h
    injection h with h0 h1 h2 h3 h4
    exact ⟨h0, h1, by rw [← strOf_bytesOf (strOfNums x.f2), h2, strOf_bytesOf], h3, h4⟩
  · rintro ⟨h0, h1, h2, h3, h4⟩
    rw [h0, h1, h2, h3, h4]
theorem bytes_ext {a b : ByteArray} : a.toList = b.toList ↔ a = b := by
  constructor
  · intro e
    rw [Lib.toList_data, Lib.toList_data] at e
    cases a; cases b
    congr 1
    exact Array.toList_inj.1 e
  · rintro rfl; rfl
section
variable (a0 : Int) (a1 : Bool) (a2 : List Int) (a3 : List ByteArray) (l : List S26) (b0 : Int) (b1 : Bool) (b2 : List Int) (b3 : List ByteArray) (m : List S26)
theorem same_l1 (hlm : l.length = m.length) (hl : l.length ≤ 1599289640354) (ih : ∀ x ∈ l, ∀ y, y ∈ m → Ev (fun k => stillroomref06_Same.f k x.f0 x.f1 x.f2 x.f3 x.f4 y.f0 y.f1 y.f2 y.f3 y.f4) (sm x y)) :
    ∀ d i : Nat, l.length - i = d → i ≤ l.length → Ev (fun k => stillroomref06_Same.l1 k (i : Int) a0 a1 a2 a3 l b0 b1 b2 b3 m) (smL (l.drop i) (m.drop i)) := by
  intro d
  induction d with
  | zero =>
    intro i h1 h2
    rw [List.drop_eq_nil_of_le (by omega), List.drop_eq_nil_of_le (by omega)]
    refine Ev.step (f := fun _ => some true) (fun k => ?_) (by rw [show smL [] [] = true from smL_true.2 rfl]; exact Ev.now _)
    simp only [stillroomref06_Same.l1]
    rw [if_neg (by omega)]
  | succ d ihd =>
    intro i h1 h2
    have hi : i < l.length := by omega
    have hj : i < m.length := by omega
    rw [drop_at hi, drop_at hj, smL_cons]
    refine Ev.step (f := fun k => (stillroomref06_Same.f k l[i].f0 l[i].f1 l[i].f2 l[i].f3 l[i].f4 m[i].f0 m[i].f1 m[i].f2 m[i].f3 m[i].f4).bind fun t => if t = true then stillroomref06_Same.l1 k ((i + 1 : Nat) : Int) a0 a1 a2 a3 l b0 b1 b2 b3 m else some false) (fun k => ?_) ?_
    · simp only [stillroomref06_Same.l1]
      rw [if_pos (by omega), if_pos (by omega), if_pos (by omega), rd_at hi, rd_at hj, w64 (by omega) (by omega)]
      rfl
    · refine Ev.bind (f := fun k t => if t = true then stillroomref06_Same.l1 k ((i + 1 : Nat) : Int) a0 a1 a2 a3 l b0 b1 b2 b3 m else some false) (ih _ (List.getElem_mem hi) _ (List.getElem_mem hj)) ?_
      cases sm l[i] m[i]
      · simp only [Bool.false_and, Bool.false_eq_true, if_false]
        exact Ev.now _
      · simp only [Bool.true_and, if_true]
        exact ihd (i + 1) (by omega) (by omega)
theorem same_l0 (hlm : l.length = m.length) (hl : l.length ≤ 1599289640354) (hab : a3.length = b3.length) (ha : a3.length ≤ 8796093021952) (ih : ∀ x ∈ l, ∀ y, y ∈ m → Ev (fun k => stillroomref06_Same.f k x.f0 x.f1 x.f2 x.f3 x.f4 y.f0 y.f1 y.f2 y.f3 y.f4) (sm x y)) :
    ∀ d i : Nat, a3.length - i = d → i ≤ a3.length → Ev (fun k => stillroomref06_Same.l0 k (i : Int) a0 a1 a2 a3 l b0 b1 b2 b3 m) (if a3.drop i = b3.drop i then smL l m else false) := by
  intro d
  induction d with
  | zero =>
    intro i h1 h2
    rw [List.drop_eq_nil_of_le (by omega), List.drop_eq_nil_of_le (by omega), if_pos rfl]
    refine Ev.step (f := fun k => stillroomref06_Same.l1 k ((0 : Nat) : Int) a0 a1 a2 a3 l b0 b1 b2 b3 m) (fun k => ?_) ?_
    · simp only [stillroomref06_Same.l0]
      rw [if_neg (by omega)]
      rfl
    · have := same_l1 a0 a1 a2 a3 l b0 b1 b2 b3 m hlm hl ih l.length 0 (by omega) (by omega)
      rw [List.drop_zero, List.drop_zero] at this
      exact this
  | succ d ihd =>
    intro i h1 h2
    have hi : i < a3.length := by omega
    have hj : i < b3.length := by omega
    rw [drop_at hi, drop_at hj]
    refine Ev.step (f := fun k => if a3[i].toList = b3[i].toList then stillroomref06_Same.l0 k ((i + 1 : Nat) : Int) a0 a1 a2 a3 l b0 b1 b2 b3 m else some false) (fun k => ?_) ?_
    · simp only [stillroomref06_Same.l0]
      rw [if_pos (by omega), if_pos (by omega), if_pos (by omega), rdn_at hi, rdn_at hj, w64 (by omega) (by omega)]
      rfl
    · by_cases c : a3[i] = b3[i]
      · refine Ev.pos (by rw [c]) ?_
        have := ihd (i + 1) (by omega) (by omega)
        rw [c]
        simp only [List.cons.injEq, true_and]
        exact this
      · refine Ev.neg (fun e => c (bytes_ext.1 e)) ?_
        rw [if_neg (by intro e; exact c (List.cons.inj e).1)]
        exact Ev.now _
theorem same_j0 (hl : l.length ≤ 1599289640354) (hab : a3.length = b3.length) (ha : a3.length ≤ 8796093021952) (ih : ∀ x ∈ l, ∀ y, y ∈ m → Ev (fun k => stillroomref06_Same.f k x.f0 x.f1 x.f2 x.f3 x.f4 y.f0 y.f1 y.f2 y.f3 y.f4) (sm x y)) :
    Ev (fun k => stillroomref06_Same.j0 k ((l.length : Int) != (m.length : Int)) a0 a1 a2 a3 l b0 b1 b2 b3 m) (if l.length = m.length then (if a3 = b3 then smL l m else false) else false) := by
  by_cases c : l.length = m.length
  · rw [if_pos c]
    refine Ev.step (f := fun k => stillroomref06_Same.l0 k ((0 : Nat) : Int) a0 a1 a2 a3 l b0 b1 b2 b3 m) (fun k => ?_) ?_
    · rw [stillroomref06_Same.j0, if_neg (by rw [c]; simp)]
      rfl
    · have := same_l0 a0 a1 a2 a3 l b0 b1 b2 b3 m c hl hab ha ih a3.length 0 (by omega) (by omega)
      rw [List.drop_zero, List.drop_zero] at this
      exact this
  · rw [if_neg c]
    refine Ev.step (f := fun _ => some false) (fun k => ?_) (Ev.now _)
    rw [stillroomref06_Same.j0, if_pos (by simp; omega)]
theorem same_jt : Ev (fun k => stillroomref06_Same.j0 k true a0 a1 a2 a3 l b0 b1 b2 b3 m) false := by
  refine Ev.step (f := fun _ => some false) (fun k => ?_) (Ev.now _)
  rw [stillroomref06_Same.j0, if_pos rfl]
end
theorem same_all (n : Nat) : ∀ x y : S26, nodes x ≤ n → fits x → Ev (fun k => stillroomref06_Same.f k x.f0 x.f1 x.f2 x.f3 x.f4 y.f0 y.f1 y.f2 y.f3 y.f4) (sm x y) := by
  induction n with
  | zero => intro x y hx; have := nodes_pos x; omega
  | succ n ihn =>
    intro x y hx hf
    have hno := nodes_eq x
    obtain ⟨hf2, ⟨hf3, _⟩, hf4, hfl⟩ := (fits_eq x).1 hf
    have ih : ∀ z ∈ x.f4, ∀ u, u ∈ y.f4 → Ev (fun k => stillroomref06_Same.f k z.f0 z.f1 z.f2 z.f3 z.f4 u.f0 u.f1 u.f2 u.f3 u.f4) (sm z u) := fun z hz u _ => ihn z u (by have := nodes_mem hz; omega) (fits_mem hfl hz)
    by_cases c0 : x.f0 = y.f0
    · by_cases c1 : x.f1 = y.f1
      · by_cases c2 : strOfNums x.f2 = strOfNums y.f2
        · by_cases c3 : x.f3.length = y.f3.length
          · have hj := same_j0 x.f0 x.f1 x.f2 x.f3 x.f4 y.f0 y.f1 y.f2 y.f3 y.f4 hf4 c3 hf3 ih
            have e : (if x.f4.length = y.f4.length then (if x.f3 = y.f3 then smL x.f4 y.f4 else false) else false) = sm x y := by
              rw [Bool.eq_iff_iff, sm_true, norm_iff]
              by_cases d4 : x.f4.length = y.f4.length
              · rw [if_pos d4]
                by_cases d3 : x.f3 = y.f3
                · rw [if_pos d3, smL_true]
                  exact ⟨fun h => ⟨c0, c1, c2, d3, h⟩, fun h => h.2.2.2.2⟩
                · rw [if_neg d3]
                  exact ⟨fun h => absurd h (by decide), fun h => absurd h.2.2.2.1 d3⟩
              · rw [if_neg d4]
                exact ⟨fun h => absurd h (by decide), fun h => absurd (by have := congrArg List.length h.2.2.2.2; rw [normL_len, normL_len] at this; exact this) d4⟩
            rw [e] at hj
            refine Ev.step (f := fun k => stillroomref06_Same.j0 k ((x.f4.length : Int) != (y.f4.length : Int)) x.f0 x.f1 x.f2 x.f3 x.f4 y.f0 y.f1 y.f2 y.f3 y.f4) (fun k => ?_) hj
            rw [stillroomref06_Same.f, if_pos c0, if_neg (by rw [c1]; simp), if_pos (by rw [c2]), if_pos (by omega)]
          · rw [sm_false (fun h => c3 (by rw [((norm_iff x y).1 h).2.2.2.1]))]
            refine Ev.step (f := fun k => stillroomref06_Same.j0 k true x.f0 x.f1 x.f2 x.f3 x.f4 y.f0 y.f1 y.f2 y.f3 y.f4) (fun k => ?_) (same_jt _ _ _ _ _ _ _ _ _ _)
            rw [stillroomref06_Same.f, if_pos c0, if_neg (by rw [c1]; simp), if_pos (by rw [c2]), if_neg (by omega)]
        · rw [sm_false (fun h => c2 ((norm_iff x y).1 h).2.2.1)]
          refine Ev.step (f := fun k => stillroomref06_Same.j0 k true x.f0 x.f1 x.f2 x.f3 x.f4 y.f0 y.f1 y.f2 y.f3 y.f4) (fun k => ?_) (same_jt _ _ _ _ _ _ _ _ _ _)
          rw [stillroomref06_Same.f, if_pos c0, if_neg (by rw [c1]; simp), if_neg (fun e => c2 (bytes_ext.1 e))]
      · rw [sm_false (fun h => c1 ((norm_iff x y).1 h).2.1)]
        refine Ev.step (f := fun k => stillroomref06_Same.j0 k true x.f0 x.f1 x.f2 x.f3 x.f4 y.f0 y.f1 y.f2 y.f3 y.f4) (fun k => ?_) (same_jt _ _ _ _ _ _ _ _ _ _)
        rw [stillroomref06_Same.f, if_pos c0, if_pos (by simpa using c1)]
    · rw [sm_false (fun h => c0 ((norm_iff x y).1 h).1)]
      refine Ev.step (f := fun k => stillroomref06_Same.j0 k true x.f0 x.f1 x.f2 x.f3 x.f4 y.f0 y.f1 y.f2 y.f3 y.f4) (fun k => ?_) (same_jt _ _ _ _ _ _ _ _ _ _)
      rw [stillroomref06_Same.f, if_neg c0]
end Go.Proofs.YtdehcojmgmjcmaaDoor
