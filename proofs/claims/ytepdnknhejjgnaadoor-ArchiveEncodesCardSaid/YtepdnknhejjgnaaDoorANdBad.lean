/- What wrong and one come to: both tell 'bad'; needs and needs tell 'need'. -/
import Derived.Test.YtepdnknhejjgnaaDoorANdOne
import Derived.Test.YtepdnknhejjgnaaDoorANdName
import Derived.Test.YtepdnknhejjgnaaDoorQArchiveEncodesx4
namespace Go.Proofs.YtepdnknhejjgnaaDoor
open Go.RowKit Go.Proofs.YtepdnknhejjgnaaDoor.QArchiveEncodes Go.Proofs.YtepdnknhejjgnaaDoorW.PrintWords
theorem wrong_l1 (l : List S26) (hl : l.length ≤ 1599289640354) (ih : ∀ x ∈ l, Ev (fun k => tree_wrong.f k x.f0 x.f1 x.f2 x.f3 x.f4) (bad x)) :
    ∀ d i : Nat, l.length - i = d → i ≤ l.length → Ev (fun k => tree_wrong.l1 k l (l.length : Int) (i : Int)) (badL (l.drop i)) := by
  intro d
  induction d with
  | zero =>
    intro i h1 h2
    have e : l.drop i = [] := List.drop_eq_nil_of_le (by omega)
    refine Ev.step (f := fun _ => some 0) (fun k => ?_) ?_
    · simp only [tree_wrong.l1]
      rw [if_neg (by omega)]
    · rw [e, badL]
      exact Ev.now 0
  | succ d ihd =>
    intro i h1 h2
    have hi : i < l.length := by omega
    refine Ev.step (f := fun k => (tree_wrong.f k l[i].f0 l[i].f1 l[i].f2 l[i].f3 l[i].f4).bind fun t => if t = 0 then tree_wrong.l1 k l (l.length : Int) ((i + 1 : Nat) : Int) else some t) (fun k => ?_) ?_
    · simp only [tree_wrong.l1]
      rw [if_pos (by omega), if_pos (by omega), if_pos (by omega), rd_at hi, w64 (by omega) (by omega)]
      rfl
    · refine Ev.bind (f := fun k t => if t = 0 then tree_wrong.l1 k l (l.length : Int) ((i + 1 : Nat) : Int) else some t) (ih _ (List.getElem_mem hi)) ?_
      rw [drop_at hi, badL]
      by_cases c : bad l[i] = 0
      · simp only [c, if_true]
        exact ihd (i + 1) (by omega) (by omega)
      · simp only [c, if_false]
        exact Ev.now _
theorem one_l1 (g0 : Int) (g1 : Bool) (g2 : List Int) (g3 : List ByteArray) (l : List S26) (hl : l.length ≤ 1599289640354) (ih : ∀ x ∈ l, Ev (fun k => stillroomref06_one.f k x.f0 x.f1 x.f2 x.f3 x.f4) (bad x)) :
    ∀ d i : Nat, l.length - i = d → i ≤ l.length → Ev (fun k => stillroomref06_one.l1 k (i : Int) g0 g1 g2 g3 l) (badL (l.drop i)) := by
  intro d
  induction d with
  | zero =>
    intro i h1 h2
    have e : l.drop i = [] := List.drop_eq_nil_of_le (by omega)
    refine Ev.step (f := fun _ => some 0) (fun k => ?_) ?_
    · simp only [stillroomref06_one.l1]
      rw [if_neg (by omega)]
    · rw [e, badL]
      exact Ev.now 0
  | succ d ihd =>
    intro i h1 h2
    have hi : i < l.length := by omega
    refine Ev.step (f := fun k => (stillroomref06_one.f k l[i].f0 l[i].f1 l[i].f2 l[i].f3 l[i].f4).bind fun t => if t = 0 then stillroomref06_one.l1 k ((i + 1 : Nat) : Int) g0 g1 g2 g3 l else some t) (fun k => ?_) ?_
    · simp only [stillroomref06_one.l1]
      rw [if_pos (by omega), if_pos (by omega), rd_at hi, w64 (by omega) (by omega)]
      rfl
    · refine Ev.bind (f := fun k t => if t = 0 then stillroomref06_one.l1 k ((i + 1 : Nat) : Int) g0 g1 g2 g3 l else some t) (ih _ (List.getElem_mem hi)) ?_
      rw [drop_at hi, badL]
      by_cases c : bad l[i] = 0
      · simp only [c, if_true]
        exact ihd (i + 1) (by omega) (by omega)
      · simp only [c, if_false]
        exact Ev.now _
/-- the name ahead -/
def prev (l : List ByteArray) : Nat → Option ByteArray
  | 0 => none
  | i + 1 => some (rdOf ByteArray.empty l (i : Int))
theorem namesBad_at (l : List ByteArray) {i : Nat} (hi : i < l.length) : namesBad (l.drop i) (prev l i) = (!nameOk l[i] || (match prev l i with | none => false | some q => !(Op.bytesLess q.toList l[i].toList)) || namesBad (l.drop (i + 1)) (prev l (i + 1))) := by
  have h : ∀ (a : ByteArray) (r : List ByteArray) (p : Option ByteArray), namesBad (a :: r) p = (!nameOk a || (match p with | none => false | some q => !(Op.bytesLess q.toList a.toList)) || namesBad r (some a)) := fun a r p => by cases p <;> rfl
  rw [drop_at hi, h, show prev l (i + 1) = some l[i] from by rw [prev, rdn_at hi]]
theorem wrong_l0 (f0 : Int) (f1 : Bool) (f2 : List Int) (l : List ByteArray) (f4 : List S26) (t : Int) (hl : l.length ≤ 8796093021952) (ht : Ev (fun k => tree_wrong.l1 k f4 (f4.length : Int) 0) t) :
    ∀ d i : Nat, l.length - i = d → i ≤ l.length → Ev (fun k => tree_wrong.l0 k l (l.length : Int) (i : Int) f0 f1 f2 l f4) (if namesBad (l.drop i) (prev l i) = true then 17 else t) := by
  intro d
  induction d with
  | zero =>
    intro i h1 h2
    have e : l.drop i = [] := List.drop_eq_nil_of_le (by omega)
    refine Ev.step (f := fun k => tree_wrong.l1 k f4 (f4.length : Int) 0) (fun k => ?_) ?_
    · simp only [tree_wrong.l0]
      rw [if_neg (by omega)]
    · rw [e, namesBad]
      exact ht
  | succ d ihd =>
    intro i h1 h2
    have hi : i < l.length := by omega
    have ih := ihd (i + 1) (by omega) (by omega)
    have hnb := namesBad_at l hi
    by_cases c1 : nameOk l[i] = true
    · cases i with
      | zero =>
        refine Ev.step (f := fun k => tree_wrong.l0 k l (l.length : Int) ((0 + 1 : Nat) : Int) f0 f1 f2 l f4) (fun k => ?_) ?_
        · simp only [tree_wrong.l0]
          rw [if_pos (by omega), if_pos (by omega), if_pos (by omega), rdn_at hi]
          unfold tree_isName.f
          simp only [Option.bind_some]
          rw [if_pos c1, if_neg (by omega), w64 (by omega) (by omega)]
          rfl
        · rw [show namesBad (l.drop 0) (prev l 0) = namesBad (l.drop (0 + 1)) (prev l (0 + 1)) from by rw [hnb]; simp [c1, prev]]; exact ih
      | succ i =>
        have hp : rdOf ByteArray.empty l (wrap64 (((i + 1 : Nat) : Int) - 1)) = rdOf ByteArray.empty l (i : Int) := by rw [w64 (by omega) (by omega)]; congr 1; omega
        by_cases c2 : Op.bytesLess (rdOf ByteArray.empty l (i : Int)).toList l[i + 1].toList = true
        · refine Ev.step (f := fun k => tree_wrong.l0 k l (l.length : Int) ((i + 1 + 1 : Nat) : Int) f0 f1 f2 l f4) (fun k => ?_) ?_
          · simp only [tree_wrong.l0]
            rw [if_pos (by omega), if_pos (by omega), if_pos (by omega), rdn_at hi]
            unfold tree_isName.f
            simp only [Option.bind_some]
            rw [hp, if_pos c1, if_pos (by omega), w64 (x := ((i + 1 : Nat) : Int) - 1) (by omega) (by omega), if_pos (by omega), if_pos (by omega), if_pos c2, w64 (by omega) (by omega)]
            rfl
          · rw [show namesBad (l.drop (i + 1)) (prev l (i + 1)) = namesBad (l.drop (i + 1 + 1)) (prev l (i + 1 + 1)) from by rw [hnb]; simp [c1, prev, c2]]; exact ih
        · refine Ev.step (f := fun k => some 17) (fun k => ?_) ?_
          · simp only [tree_wrong.l0]
            rw [if_pos (by omega), if_pos (by omega), if_pos (by omega), rdn_at hi]
            unfold tree_isName.f
            simp only [Option.bind_some]
            rw [hp, if_pos c1, if_pos (by omega), w64 (x := ((i + 1 : Nat) : Int) - 1) (by omega) (by omega), if_pos (by omega), if_pos (by omega), if_neg c2]
          · rw [show namesBad (l.drop (i + 1)) (prev l (i + 1)) = true from by rw [hnb]; simp [c1, prev, c2]]; exact Ev.now (17 : Int)
    · refine Ev.step (f := fun k => some 17) (fun k => ?_) ?_
      · simp only [tree_wrong.l0]
        rw [if_pos (by omega), if_pos (by omega), if_pos (by omega), rdn_at hi]
        unfold tree_isName.f
        simp only [Option.bind_some]
        rw [if_neg c1]
      · rw [show namesBad (l.drop i) (prev l i) = true from by rw [hnb]; simp [c1]]; exact Ev.now (17 : Int)
theorem one_l0 (f0 : Int) (f1 : Bool) (f2 : List Int) (l : List ByteArray) (f4 : List S26) (t : Int) (hl : l.length ≤ 8796093021952) (hs : ∀ s ∈ l, s.size ≤ 140737488351232) (ht : Ev (fun k => stillroomref06_one.l1 k 0 f0 f1 f2 l f4) t) :
    ∀ d i : Nat, l.length - i = d → i ≤ l.length → Ev (fun k => stillroomref06_one.l0 k (i : Int) f0 f1 f2 l f4) (if namesBad (l.drop i) (prev l i) = true then 17 else t) := by
  intro d
  induction d with
  | zero =>
    intro i h1 h2
    have e : l.drop i = [] := List.drop_eq_nil_of_le (by omega)
    refine Ev.step (f := fun k => stillroomref06_one.l1 k 0 f0 f1 f2 l f4) (fun k => ?_) ?_
    · simp only [stillroomref06_one.l0]
      rw [if_neg (by omega)]
    · rw [e, namesBad]
      exact ht
  | succ d ihd =>
    intro i h1 h2
    have hi : i < l.length := by omega
    have ih := ihd (i + 1) (by omega) (by omega)
    have hn : Ev (fun k => stillroomref06_Name.f k l[i]) (nameOk l[i]) := ⟨_, fun k hk => name_all l[i] (by have := hs _ (List.getElem_mem hi); omega) k hk⟩
    have hnb := namesBad_at l hi
    refine Ev.step (f := fun k => (stillroomref06_Name.f k l[i]).bind fun t162 => if t162 = true then (if (i : Int) > 0 then (if 0 ≤ wrap64 ((i : Int) - 1) then (if wrap64 ((i : Int) - 1) < (l.length : Int) then (if Op.bytesLess (rdOf ByteArray.empty l (wrap64 ((i : Int) - 1))).toList l[i].toList = true then stillroomref06_one.l0 k ((i + 1 : Nat) : Int) f0 f1 f2 l f4 else some 17) else none) else none) else stillroomref06_one.l0 k ((i + 1 : Nat) : Int) f0 f1 f2 l f4) else some 17) (fun k => ?_) ?_
    · simp only [stillroomref06_one.l0]
      rw [if_pos (by omega), if_pos (by omega), rdn_at hi, w64 (x := (i : Int) + 1) (by omega) (by omega)]
      rfl
    · refine Ev.bind (f := fun k t162 => if t162 = true then (if (i : Int) > 0 then (if 0 ≤ wrap64 ((i : Int) - 1) then (if wrap64 ((i : Int) - 1) < (l.length : Int) then (if Op.bytesLess (rdOf ByteArray.empty l (wrap64 ((i : Int) - 1))).toList l[i].toList = true then stillroomref06_one.l0 k ((i + 1 : Nat) : Int) f0 f1 f2 l f4 else some 17) else none) else none) else stillroomref06_one.l0 k ((i + 1 : Nat) : Int) f0 f1 f2 l f4) else some 17) hn ?_
      by_cases c1 : nameOk l[i] = true
      · cases i with
        | zero =>
          refine Ev.congr (f := fun k => stillroomref06_one.l0 k ((0 + 1 : Nat) : Int) f0 f1 f2 l f4) (fun k => ?_) ?_
          · rw [if_pos c1, if_neg (by omega)]
          · rw [show namesBad (l.drop 0) (prev l 0) = namesBad (l.drop (0 + 1)) (prev l (0 + 1)) from by rw [hnb]; simp [c1, prev]]; exact ih
        | succ i =>
          have hp : rdOf ByteArray.empty l (wrap64 (((i + 1 : Nat) : Int) - 1)) = rdOf ByteArray.empty l (i : Int) := by rw [w64 (by omega) (by omega)]; congr 1; omega
          by_cases c2 : Op.bytesLess (rdOf ByteArray.empty l (i : Int)).toList l[i + 1].toList = true
          · refine Ev.congr (f := fun k => stillroomref06_one.l0 k ((i + 1 + 1 : Nat) : Int) f0 f1 f2 l f4) (fun k => ?_) ?_
            · rw [hp, if_pos c1, if_pos (by omega), w64 (x := ((i + 1 : Nat) : Int) - 1) (by omega) (by omega), if_pos (by omega), if_pos (by omega), if_pos c2]
            · rw [show namesBad (l.drop (i + 1)) (prev l (i + 1)) = namesBad (l.drop (i + 1 + 1)) (prev l (i + 1 + 1)) from by rw [hnb]; simp [c1, prev, c2]]; exact ih
          · refine Ev.congr (f := fun k => some 17) (fun k => ?_) ?_
            · rw [hp, if_pos c1, if_pos (by omega), w64 (x := ((i + 1 : Nat) : Int) - 1) (by omega) (by omega), if_pos (by omega), if_pos (by omega), if_neg c2]
            · rw [show namesBad (l.drop (i + 1)) (prev l (i + 1)) = true from by rw [hnb]; simp [c1, prev, c2]]; exact Ev.now (17 : Int)
      · refine Ev.congr (f := fun k => some 17) (fun k => ?_) ?_
        · rw [if_neg c1]
        · rw [show namesBad (l.drop i) (prev l i) = true from by rw [hnb]; simp [c1]]; exact Ev.now (17 : Int)
end Go.Proofs.YtepdnknhejjgnaaDoor
