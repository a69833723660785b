/- Nodes as plain data: how many, how deep, what is wrong with one; what tree.Right tells. -/
import Derived.Test.YtdehcojmgmjcmaaDoorQArchiveBackx0
import Derived.Test.YtdehcojmgmjcmaaDoorQArchiveBackx1
import Derived.Test.YtdehcojmgmjcmaaDoorQArchiveBackx2
import Derived.Test.YtdehcojmgmjcmaaDoorQt
import Derived.Test.YtdehcojmgmjcmaaDoorIsName
namespace Go.Proofs.YtdehcojmgmjcmaaDoor
set_option linter.unusedVariables false
set_option linter.unusedSimpArgs false
open Go.RowKit QArchiveBack Go.Proofs.YtdehcojmgmjcmaaDoorW.PrintWords Go.Proofs.YtdehcojmgmjcmaaDoorW.PrintLast Go.Proofs.YtdehcojmgmjcmaaDoorW.PrintMore
mutual
def nodes : S26 → Nat
  | ⟨_, _, _, _, l⟩ => 1 + nodesL l
def nodesL : List S26 → Nat
  | [] => 0
  | x :: xs => nodes x + nodesL xs
end
mutual
def deep : S26 → Nat
  | ⟨_, _, _, _, l⟩ => 1 + deepL l
def deepL : List S26 → Nat
  | [] => 0
  | x :: xs => max (deep x) (deepL xs)
end
theorem nodes_eq (x : S26) : nodes x = 1 + nodesL x.f4 := by cases x; rw [nodes]
theorem deep_eq (x : S26) : deep x = 1 + deepL x.f4 := by cases x; rw [deep]
theorem nodes_mem {x : S26} {l : List S26} (h : x ∈ l) : nodes x ≤ nodesL l := by
  induction l with
  | nil => cases h
  | cons y l ih =>
    rw [nodesL]
    rcases List.mem_cons.1 h with rfl | h
    · omega
    · have := ih h; omega
theorem deep_mem {x : S26} {l : List S26} (h : x ∈ l) : deep x ≤ deepL l := by
  induction l with
  | nil => cases h
  | cons y l ih =>
    rw [deepL]
    rcases List.mem_cons.1 h with rfl | h
    · omega
    · have := ih h; omega
/-- the form of its kind -/
def kindOk (x : S26) : Bool :=
  if x.f0 = 2 then decide (x.f2.length = 0) && decide (x.f3.length = x.f4.length) && !x.f1
  else if x.f0 = 3 then decide (x.f3.length = 0) && decide (x.f4.length = 0) && !x.f1
  else if x.f0 = 1 then decide (x.f3.length = 0) && decide (x.f4.length = 0) else false
/-- the bytes of the entries, as the machine sums them -/
def entSum (l : List ByteArray) : Int := l.foldl (fun s n => wrap64 (s + ((n.size : Int) + 3))) 0
/-- is a name wrong, or not above the one ahead of it? -/
def namesBad : List ByteArray → Option ByteArray → Bool
  | [], _ => false
  | n :: l, p => !nameOk n || (match p with | none => false | some q => !(Op.bytesLess q.toList n.toList)) || namesBad l (some n)
mutual
/-- what is wrong with a node, or with one in it -/
def bad : S26 → Int
  | ⟨f0, f1, f2, f3, f4⟩ =>
    if kindOk ⟨f0, f1, f2, f3, f4⟩ = false then 12
    else if 31744 < f2.length ∨ (f0 = 3 ∧ 1024 < f2.length) ∨ 31744 < entSum f3 then 3
    else if f0 = 3 ∧ f2.length = 0 then 2
    else if namesBad f3 none = true then 17 else badL f4
def badL : List S26 → Int
  | [] => 0
  | x :: xs => if bad x = 0 then badL xs else bad x
end
mutual
/-- each list is as short as what comes in may be -/
def fits : S26 → Prop
  | ⟨_, _, f2, f3, f4⟩ => f2.length ≤ 140737488351232 ∧ (f3.length ≤ 8796093021952 ∧ ∀ s ∈ f3, s.size ≤ 140737488351232) ∧ f4.length ≤ 1599289640354 ∧ fitsL f4
def fitsL : List S26 → Prop
  | [] => True
  | x :: xs => fits x ∧ fitsL xs
end
theorem fits_eq (x : S26) : fits x ↔ (x.f2.length ≤ 140737488351232 ∧ (x.f3.length ≤ 8796093021952 ∧ ∀ s ∈ x.f3, s.size ≤ 140737488351232) ∧ x.f4.length ≤ 1599289640354 ∧ fitsL x.f4) := by cases x; rw [fits]
theorem fits_mem {x : S26} {l : List S26} (h : fitsL l) (hx : x ∈ l) : fits x := by
  induction l with
  | nil => cases hx
  | cons y l ih =>
    rw [fitsL] at h
    rcases List.mem_cons.1 hx with rfl | hx
    · exact h.1
    · exact ih h.2 hx
theorem rd_at {l : List S26} {i : Nat} (h : i < l.length) : rd_T26 l (i : Int) = l[i] := by
  unfold rd_T26
  simp [List.getD, h]
theorem rdn_at {l : List ByteArray} {i : Nat} (h : i < l.length) : rdOf ByteArray.empty l (i : Int) = l[i] := by
  unfold rdOf
  simp [List.getD, h]
theorem drop_at {α : Type} {l : List α} {i : Nat} (h : i < l.length) : l.drop i = l[i] :: l.drop (i + 1) := List.drop_eq_getElem_cons h
theorem w64 {x : Int} (h0 : -9223372036854775808 ≤ x) (h1 : x ≤ 9223372036854775807) : wrap64 x = x := by unfold wrap64; omega
theorem nodes_pos (x : S26) : 1 ≤ nodes x := by rw [nodes_eq]; omega
theorem deep_pos (x : S26) : 1 ≤ deep x := by rw [deep_eq]; omega
theorem len_nodes : ∀ l : List S26, l.length ≤ nodesL l
  | [] => by rw [nodesL]; simp
  | x :: l => by have := len_nodes l; have := nodes_pos x; rw [nodesL]; simp; omega

theorem count_loop (l : List S26) (hl : l.length ≤ 9223372036854775807) (room depth : Int) (hr : room ≤ 1024) (hd1 : 1 ≤ depth) (hd2 : depth ≤ 32)
    (ih : ∀ x ∈ l, ∀ (k : Nat) (room depth : Int), 4 * nodes x ≤ k → 0 ≤ room → room ≤ 1024 → 1 ≤ depth → depth ≤ 33 → tree_count.f k x.f0 x.f1 x.f2 x.f3 x.f4 room depth = some (if depth + deep x ≤ 33 ∧ (nodes x : Int) ≤ room then ((nodes x : Int), true) else (0, false))) :
    ∀ (d i k : Nat) (all : Int), l.length - i = d → i ≤ l.length → 4 * nodesL (l.drop i) + 1 ≤ k → 1 ≤ all → all ≤ room →
      tree_count.l0 k room depth all l (l.length : Int) (i : Int) = some (if depth + deepL (l.drop i) ≤ 32 ∧ all + nodesL (l.drop i) ≤ room then (all + nodesL (l.drop i), true) else (0, false)) := by
  intro d
  induction d with
  | zero =>
    intro i k all h1 h2 h3 h4 h5
    obtain ⟨k, rfl⟩ : ∃ m, k = m + 1 := ⟨k - 1, by omega⟩
    have e : l.drop i = [] := List.drop_eq_nil_of_le (by omega)
    rw [e]
    simp only [tree_count.l0]
    rw [if_neg (by omega), deepL, nodesL, if_pos (by constructor <;> omega)]
    simp
  | succ d ihd =>
    intro i k all h1 h2 h3 h4 h5
    obtain ⟨k, rfl⟩ : ∃ m, k = m + 1 := ⟨k - 1, by omega⟩
    have hi : i < l.length := by omega
    have e := drop_at hi
    rw [e, nodesL] at h3
    have hp := nodes_pos l[i]
    have hn := ih l[i] (List.getElem_mem hi) k (room - all) (depth + 1) (by omega) (by omega) (by omega) (by omega) (by omega)
    simp only [tree_count.l0]
    rw [if_pos (by omega), if_pos (by omega), if_pos (by omega), rd_at hi, w64 (by omega) (by omega), w64 (x := depth + 1) (by omega) (by omega), hn, e, deepL, nodesL]
    by_cases c : depth + 1 + deep l[i] ≤ 33 ∧ (nodes l[i] : Int) ≤ room - all
    · rw [if_pos c]
      simp only [Option.bind_some, if_true]
      rw [w64 (by omega) (by omega), w64 (x := (i : Int) + 1) (by omega) (by omega)]
      have := ihd (i + 1) k (all + nodes l[i]) (by omega) (by omega) (by omega) (by omega) (by omega)
      rw [Int.natCast_add, Int.natCast_one] at this
      rw [this]
      by_cases c2 : depth + deepL (l.drop (i + 1)) ≤ 32 ∧ all + nodes l[i] + nodesL (l.drop (i + 1)) ≤ room
      · rw [if_pos c2, if_pos (by constructor <;> omega)]
        congr 2
        omega
      · rw [if_neg c2, if_neg (by omega)]
    · rw [if_neg c]
      simp only [Option.bind_some, Bool.false_eq_true, if_false]
      rw [if_neg (by omega)]
theorem count_all (n : Nat) : ∀ (x : S26), nodes x ≤ n → fits x → ∀ (k : Nat) (room depth : Int), 4 * nodes x ≤ k → 0 ≤ room → room ≤ 1024 → 1 ≤ depth → depth ≤ 33 →
    tree_count.f k x.f0 x.f1 x.f2 x.f3 x.f4 room depth = some (if depth + deep x ≤ 33 ∧ (nodes x : Int) ≤ room then ((nodes x : Int), true) else (0, false)) := by
  induction n with
  | zero => intro x hx; have := nodes_pos x; omega
  | succ n ihn =>
    intro x hx hb k room depth h1 h2 h3 h4 h5
    have hn := nodes_eq x
    have hp := deep_eq x
    obtain ⟨hf2, hf3, hf4, hfl⟩ := (fits_eq x).1 hb
    obtain ⟨k, rfl⟩ : ∃ m, k = m + 1 := ⟨k - 1, by omega⟩
    obtain ⟨k, rfl⟩ : ∃ m, k = m + 1 := ⟨k - 1, by omega⟩
    simp only [tree_count.f]
    by_cases hd : depth > 32
    · rw [if_pos hd]
      simp only [tree_count.j0, if_true]
      rw [if_neg (by have := deep_pos x; omega)]
    · rw [if_neg hd]
      by_cases hr : room < 1
      · rw [decide_eq_true hr]
        simp only [tree_count.j0, if_true]
        rw [if_neg (by have := nodes_pos x; omega)]
      · rw [decide_eq_false hr]
        simp only [tree_count.j0, Bool.false_eq_true, if_false]
        have := count_loop x.f4 (by omega) room depth h3 h4 (by omega) (fun y hy => by
          have := nodes_mem hy
          exact ihn y (by omega) (fits_mem hfl hy)) _ 0 k 1 rfl (by omega) (by rw [List.drop_zero]; omega) (by omega) (by omega)
        rw [List.drop_zero] at this
        rw [show ((0 : Nat) : Int) = 0 from rfl] at this
        rw [this, hn, hp]
        by_cases c : depth + deepL x.f4 ≤ 32 ∧ 1 + (nodesL x.f4 : Int) ≤ room
        · rw [if_pos c, if_pos (by constructor <;> omega)]
          congr 2
        · rw [if_neg c, if_neg (by omega)]
theorem kinds_all (x : S26) : tree_kinds.f x.f0 x.f1 x.f2 x.f3 x.f4 = some (kindOk x) := by
  unfold tree_kinds.f kindOk
  have e1 : ((x.f2.length : Int) = 0) ↔ x.f2.length = 0 := by omega
  have e2 : ((x.f3.length : Int) = 0) ↔ x.f3.length = 0 := by omega
  have e3 : ((x.f4.length : Int) = 0) ↔ x.f4.length = 0 := by omega
  have e4 : ((x.f3.length : Int) = x.f4.length) ↔ x.f3.length = x.f4.length := by omega
  have e5 : (((x.f4.length : Int)) == 0) = decide (x.f4.length = 0) := by
    by_cases h : x.f4.length = 0
    · rw [h]; rfl
    · rw [decide_eq_false h, beq_eq_false_iff_ne]; omega
  simp only [e1, e2, e3, e4, e5]
  by_cases a : x.f0 = 2
  · simp only [a, if_true]
    by_cases b : x.f2.length = 0 <;> by_cases c : x.f3.length = x.f4.length <;> simp [b, c]
  · simp only [a, if_false]
    by_cases a3 : x.f0 = 3
    · simp only [a3, if_true]
      by_cases b : x.f3.length = 0 <;> by_cases c : x.f4.length = 0 <;> simp [b, c]
    · simp only [a3, if_false]
      by_cases a1 : x.f0 = 1
      · simp only [a1, if_true]
        by_cases b : x.f3.length = 0 <;> simp [b]
      · simp only [a1, if_false]
def entFrom (a : Int) (l : List ByteArray) : Int := l.foldl (fun s n => wrap64 (s + ((n.size : Int) + 3))) a
theorem entSum_eq (l : List ByteArray) : entSum l = entFrom 0 l := rfl
theorem tree_entries_loop (l : List ByteArray) (hl : l.length < 9223372036854775807) :
    ∀ (d i k : Nat) (a : Int), l.length - i = d → i ≤ l.length → d + 1 ≤ k → tree_entries.l0 k a l (l.length : Int) (i : Int) = some (entFrom a (l.drop i)) := by
  intro d
  induction d with
  | zero =>
    intro i k a h1 h2 h3
    obtain ⟨k, rfl⟩ : ∃ m, k = m + 1 := ⟨k - 1, by omega⟩
    have e : l.drop i = [] := List.drop_eq_nil_of_le (by omega)
    simp only [tree_entries.l0]
    rw [if_neg (by omega), e]
    rfl
  | succ d ih =>
    intro i k a h1 h2 h3
    obtain ⟨k, rfl⟩ : ∃ m, k = m + 1 := ⟨k - 1, by omega⟩
    have hi : i < l.length := by omega
    have e : l.drop i = l[i] :: l.drop (i + 1) := List.drop_eq_getElem_cons hi
    simp only [tree_entries.l0]
    rw [if_pos (by omega), if_pos (by omega), if_pos (by omega), rdn_at hi, w64 (x := (i : Int) + 1) (by omega) (by omega)]
    have := ih (i + 1) k (wrap64 (a + wrap64 ((l[i].size : Int) + 3))) (by omega) (by omega) (by omega)
    rw [Int.natCast_add, Int.natCast_one] at this
    rw [this, e]
    unfold entFrom
    rw [List.foldl_cons]
    congr 2
    unfold wrap64; omega
theorem tree_entries_all (x : S26) (hl : x.f3.length < 9223372036854775807) (k : Nat) (hk : x.f3.length + 1 ≤ k) : tree_entries.f k x.f0 x.f1 x.f2 x.f3 x.f4 = some (entSum x.f3) := by
  unfold tree_entries.f
  have := tree_entries_loop x.f3 hl _ 0 k 0 rfl (by omega) (by omega)
  rw [List.drop_zero] at this
  exact this
theorem wrong_l1 (l : List S26) (hl : l.length ≤ 1599289640354) (ih : ∀ x ∈ l, Ev (fun k => tree_wrong.f k x.f0 x.f1 x.f2 x.f3 x.f4) (bad x)) :
    ∀ d i : Nat, l.length - i = d → i ≤ l.length → Ev (fun k => tree_wrong.l1 k l (l.length : Int) (i : Int)) (badL (l.drop i)) := by
  intro d
  induction d with
  | zero =>
    intro i h1 h2
    have e : l.drop i = [] := List.drop_eq_nil_of_le (by omega)
    refine Ev.step (f := fun _ => some 0) (fun k => ?_) ?_
    · simp only [tree_wrong.l1]
      rw [if_neg (by omega)]
    · rw [e, badL]
      exact Ev.now 0
  | succ d ihd =>
    intro i h1 h2
    have hi : i < l.length := by omega
    refine Ev.step (f := fun k => (tree_wrong.f k l[i].f0 l[i].f1 l[i].f2 l[i].f3 l[i].f4).bind fun t => if t = 0 then tree_wrong.l1 k l (l.length : Int) ((i + 1 : Nat) : Int) else some t) (fun k => ?_) ?_
    · simp only [tree_wrong.l1]
      rw [if_pos (by omega), if_pos (by omega), if_pos (by omega), rd_at hi, w64 (by omega) (by omega)]
      rfl
    · refine Ev.bind (f := fun k t => if t = 0 then tree_wrong.l1 k l (l.length : Int) ((i + 1 : Nat) : Int) else some t) (ih _ (List.getElem_mem hi)) ?_
      rw [drop_at hi, badL]
      by_cases c : bad l[i] = 0
      · simp only [c, if_true]
        exact ihd (i + 1) (by omega) (by omega)
      · simp only [c, if_false]
        exact Ev.now _
/-- the name ahead -/
def prev (l : List ByteArray) : Nat → Option ByteArray
  | 0 => none
  | i + 1 => some (rdOf ByteArray.empty l (i : Int))
theorem namesBad_at (l : List ByteArray) {i : Nat} (hi : i < l.length) : namesBad (l.drop i) (prev l i) = (!nameOk l[i] || (match prev l i with | none => false | some q => !(Op.bytesLess q.toList l[i].toList)) || namesBad (l.drop (i + 1)) (prev l (i + 1))) := by
  have h : ∀ (a : ByteArray) (r : List ByteArray) (p : Option ByteArray), namesBad (a :: r) p = (!nameOk a || (match p with | none => false | some q => !(Op.bytesLess q.toList a.toList)) || namesBad r (some a)) := fun a r p => by cases p <;> rfl
  rw [drop_at hi, h, show prev l (i + 1) = some l[i] from by rw [prev, rdn_at hi]]
theorem wrong_l0 (f0 : Int) (f1 : Bool) (f2 : List Int) (l : List ByteArray) (f4 : List S26) (t : Int) (hl : l.length ≤ 8796093021952) (ht : Ev (fun k => tree_wrong.l1 k f4 (f4.length : Int) 0) t) :
    ∀ d i : Nat, l.length - i = d → i ≤ l.length → Ev (fun k => tree_wrong.l0 k l (l.length : Int) (i : Int) f0 f1 f2 l f4) (if namesBad (l.drop i) (prev l i) = true then 17 else t) := by
  intro d
  induction d with
  | zero =>
    intro i h1 h2
    have e : l.drop i = [] := List.drop_eq_nil_of_le (by omega)
    refine Ev.step (f := fun k => tree_wrong.l1 k f4 (f4.length : Int) 0) (fun k => ?_) ?_
    · simp only [tree_wrong.l0]
      rw [if_neg (by omega)]
    · rw [e, namesBad]
      exact ht
  | succ d ihd =>
    intro i h1 h2
    have hi : i < l.length := by omega
    have ih := ihd (i + 1) (by omega) (by omega)
    have hnb := namesBad_at l hi
    by_cases c1 : nameOk l[i] = true
    · cases i with
      | zero =>
        refine Ev.step (f := fun k => tree_wrong.l0 k l (l.length : Int) ((0 + 1 : Nat) : Int) f0 f1 f2 l f4) (fun k => ?_) ?_
        · simp only [tree_wrong.l0]
          rw [if_pos (by omega), if_pos (by omega), if_pos (by omega), rdn_at hi]
          unfold tree_isName.f
          simp only [Option.bind_some]
          rw [if_pos c1, if_neg (by omega), w64 (by omega) (by omega)]
          rfl
        · rw [show namesBad (l.drop 0) (prev l 0) = namesBad (l.drop (0 + 1)) (prev l (0 + 1)) from by rw [hnb]; simp [c1, prev]]; exact ih
      | succ i =>
        have hp : rdOf ByteArray.empty l (wrap64 (((i + 1 : Nat) : Int) - 1)) = rdOf ByteArray.empty l (i : Int) := by rw [w64 (by omega) (by omega)]; congr 1; omega
        by_cases c2 : Op.bytesLess (rdOf ByteArray.empty l (i : Int)).toList l[i + 1].toList = true
        · refine Ev.step (f := fun k => tree_wrong.l0 k l (l.length : Int) ((i + 1 + 1 : Nat) : Int) f0 f1 f2 l f4) (fun k => ?_) ?_
          · simp only [tree_wrong.l0]
            rw [if_pos (by omega), if_pos (by omega), if_pos (by omega), rdn_at hi]
            unfold tree_isName.f
            simp only [Option.bind_some]
            rw [hp, if_pos c1, if_pos (by omega), w64 (x := ((i + 1 : Nat) : Int) - 1) (by omega) (by omega), if_pos (by omega), if_pos (by omega), if_pos c2, w64 (by omega) (by omega)]
            rfl
          · rw [show namesBad (l.drop (i + 1)) (prev l (i + 1)) = namesBad (l.drop (i + 1 + 1)) (prev l (i + 1 + 1)) from by rw [hnb]; simp [c1, prev, c2]]; exact ih
        · refine Ev.step (f := fun k => some 17) (fun k => ?_) ?_
          · simp only [tree_wrong.l0]
            rw [if_pos (by omega), if_pos (by omega), if_pos (by omega), rdn_at hi]
            unfold tree_isName.f
            simp only [Option.bind_some]
            rw [hp, if_pos c1, if_pos (by omega), w64 (x := ((i + 1 : Nat) : Int) - 1) (by omega) (by omega), if_pos (by omega), if_pos (by omega), if_neg c2]
          · rw [show namesBad (l.drop (i + 1)) (prev l (i + 1)) = true from by rw [hnb]; simp [c1, prev, c2]]; exact Ev.now (17 : Int)
    · refine Ev.step (f := fun k => some 17) (fun k => ?_) ?_
      · simp only [tree_wrong.l0]
        rw [if_pos (by omega), if_pos (by omega), if_pos (by omega), rdn_at hi]
        unfold tree_isName.f
        simp only [Option.bind_some]
        rw [if_neg c1]
      · rw [show namesBad (l.drop i) (prev l i) = true from by rw [hnb]; simp [c1]]; exact Ev.now (17 : Int)
theorem Ev.pos {α : Type} {c : Prop} [Decidable c] {A B : Nat → Option α} {r : α} (h : c) (k : Ev A r) : Ev (fun n => if c then A n else B n) r := Ev.congr (fun _ => if_pos h) k
theorem Ev.neg {α : Type} {c : Prop} [Decidable c] {A B : Nat → Option α} {r : α} (h : ¬ c) (k : Ev B r) : Ev (fun n => if c then A n else B n) r := Ev.congr (fun _ => if_neg h) k
theorem bad_eq (x : S26) : bad x = if kindOk x = false then 12 else if 31744 < x.f2.length ∨ (x.f0 = 3 ∧ 1024 < x.f2.length) ∨ 31744 < entSum x.f3 then 3 else if x.f0 = 3 ∧ x.f2.length = 0 then 2 else if namesBad x.f3 none = true then 17 else badL x.f4 := by cases x; rw [bad]
theorem tent_ev (x : S26) (hf : fits x) : Ev (fun k => tree_entries.f k x.f0 x.f1 x.f2 x.f3 x.f4) (entSum x.f3) :=
  ⟨x.f3.length + 1, fun k hk => tree_entries_all x (by have := ((fits_eq x).1 hf).2.1.1; omega) k hk⟩
theorem wrong_all (n : Nat) : ∀ x : S26, nodes x ≤ n → fits x → Ev (fun k => tree_wrong.f k x.f0 x.f1 x.f2 x.f3 x.f4) (bad x) := by
  induction n with
  | zero => intro x hx; have := nodes_pos x; omega
  | succ n ihn =>
    intro x hx hf
    obtain ⟨hf2, ⟨hf3, hs⟩, hf4, hfl⟩ := (fits_eq x).1 hf
    have hn := nodes_eq x
    have h1 : Ev (fun k => tree_wrong.l1 k x.f4 (x.f4.length : Int) 0) (badL x.f4) := wrong_l1 x.f4 hf4 (fun y hy => ihn y (by have := nodes_mem hy; omega) (fits_mem hfl hy)) _ 0 rfl (by omega)
    have h0 : Ev (fun k => tree_wrong.l0 k x.f3 (x.f3.length : Int) 0 x.f0 x.f1 x.f2 x.f3 x.f4) (if namesBad x.f3 none = true then 17 else badL x.f4) := wrong_l0 x.f0 x.f1 x.f2 x.f3 x.f4 _ hf3 h1 _ 0 rfl (by omega)
    have hj1 : Ev (fun k => tree_wrong.j1 k x.f0 x.f1 x.f2 x.f3 x.f4) (if namesBad x.f3 none = true then 17 else badL x.f4) := Ev.step (fun k => by simp only [tree_wrong.j1]) h0
    have hjt : Ev (fun k => tree_wrong.j0 k true x.f0 x.f1 x.f2 x.f3 x.f4) 3 := Ev.step (f := fun _ => some 3) (fun k => by simp only [tree_wrong.j0, if_true]) (Ev.now _)
    have hjf : Ev (fun k => tree_wrong.j0 k false x.f0 x.f1 x.f2 x.f3 x.f4) (if x.f0 = 3 ∧ x.f2.length = 0 then 2 else if namesBad x.f3 none = true then 17 else badL x.f4) := by
      refine Ev.step (fun k => by simp only [tree_wrong.j0, Bool.false_eq_true, if_false]; exact rfl) ?_
      by_cases a : x.f0 = 3
      · refine Ev.pos a ?_
        by_cases b : (x.f2.length : Int) = 0
        · rw [if_pos (by omega)]
          exact Ev.pos b (Ev.now _)
        · rw [if_neg (by omega)]
          exact Ev.neg b hj1
      · rw [if_neg (by omega)]
        exact Ev.neg a hj1
    have hjd : ∀ c : Prop, [Decidable c] → Ev (fun k => tree_wrong.j0 k (decide c) x.f0 x.f1 x.f2 x.f3 x.f4) (if c then 3 else if x.f0 = 3 ∧ x.f2.length = 0 then 2 else if namesBad x.f3 none = true then 17 else badL x.f4) := fun c _ => by
      by_cases h : c
      · rw [if_pos h, decide_eq_true h]; exact hjt
      · rw [if_neg h, decide_eq_false h]; exact hjf
    refine Ev.step (fun k => by simp only [tree_wrong.f, kinds_all, Option.bind_some]; exact rfl) ?_
    rw [bad_eq]
    by_cases hk : kindOk x = true
    · rw [if_neg (by simp [hk])]
      refine Ev.pos hk ?_
      by_cases a : (x.f2.length : Int) > 31744
      · rw [if_pos (by omega)]
        exact Ev.pos a hjt
      · refine Ev.neg a ?_
        have hd := hjd (entSum x.f3 > 31744)
        by_cases b : x.f0 = 3
        · refine Ev.pos b ?_
          by_cases c : (x.f2.length : Int) > 1024
          · rw [if_pos (by omega)]
            exact Ev.pos c hjt
          · refine Ev.neg c (Ev.bind (f := fun k t => tree_wrong.j0 k (decide (t > 31744)) x.f0 x.f1 x.f2 x.f3 x.f4) (tent_ev x hf) ?_)
            by_cases e : entSum x.f3 > 31744
            · rw [if_pos e] at hd; rw [if_pos (by omega)]; exact hd
            · rw [if_neg e] at hd; rw [if_neg (by omega)]; exact hd
        · refine Ev.neg b (Ev.bind (f := fun k t => tree_wrong.j0 k (decide (t > 31744)) x.f0 x.f1 x.f2 x.f3 x.f4) (tent_ev x hf) ?_)
          by_cases e : entSum x.f3 > 31744
          · rw [if_pos e] at hd; rw [if_pos (by omega)]; exact hd
          · rw [if_neg e] at hd; rw [if_neg (by omega)]; exact hd
    · rw [if_pos (by simpa using hk)]
      exact Ev.neg hk (Ev.now _)
/-- the sectors of a node, as the machine sums them -/
def right (x : S26) : Int := if deep x ≤ 32 ∧ nodes x ≤ 1024 then bad x else 3
theorem tright_all (x : S26) (hf : fits x) : Ev (fun k => tree_Right.f k x.f0 x.f1 x.f2 x.f3 x.f4) (right x) := by
  have hc : Ev (fun k => tree_count.f k x.f0 x.f1 x.f2 x.f3 x.f4 1024 1) (if (1 : Int) + deep x ≤ 33 ∧ (nodes x : Int) ≤ 1024 then ((nodes x : Int), true) else (0, false)) :=
    ⟨4 * nodes x, fun k hk => count_all (nodes x) x (Nat.le_refl _) hf k 1024 1 hk (by omega) (by omega) (by omega) (by omega)⟩
  unfold tree_Right.f right
  refine Ev.bind hc ?_
  by_cases c : (1 : Int) + deep x ≤ 33 ∧ (nodes x : Int) ≤ 1024
  · rw [if_pos c, if_pos (by omega)]
    exact Ev.pos rfl (Ev.bind (f := fun _ t => some t) (wrong_all _ x (Nat.le_refl _) hf) (Ev.now _))
  · rw [if_neg c, if_neg (by omega)]
    exact Ev.neg (by simp) (Ev.now _)
end Go.Proofs.YtdehcojmgmjcmaaDoor
