/- Nodes as plain data: how many, how deep, what is wrong with one. -/
import Derived.Test.YtepdnknhejjgnaaDoorQArchiveEncodesx0
import Derived.Test.YtepdnknhejjgnaaDoorIsName
namespace Go.Proofs.YtepdnknhejjgnaaDoor
open Go.RowKit Go.Proofs.YtepdnknhejjgnaaDoor.QArchiveEncodes Go.Proofs.YtepdnknhejjgnaaDoorW.PrintWords
mutual
def nodes : S26 → Nat
  | ⟨_, _, _, _, l⟩ => 1 + nodesL l
def nodesL : List S26 → Nat
  | [] => 0
  | x :: xs => nodes x + nodesL xs
end
mutual
def deep : S26 → Nat
  | ⟨_, _, _, _, l⟩ => 1 + deepL l
def deepL : List S26 → Nat
  | [] => 0
  | x :: xs => max (deep x) (deepL xs)
end
theorem nodes_eq (x : S26) : nodes x = 1 + nodesL x.f4 := by cases x; rw [nodes]
theorem deep_eq (x : S26) : deep x = 1 + deepL x.f4 := by cases x; rw [deep]
theorem nodes_mem {x : S26} {l : List S26} (h : x ∈ l) : nodes x ≤ nodesL l := by
  induction l with
  | nil => cases h
  | cons y l ih =>
    rw [nodesL]
    rcases List.mem_cons.1 h with rfl | h
    · omega
    · have := ih h; omega
theorem deep_mem {x : S26} {l : List S26} (h : x ∈ l) : deep x ≤ deepL l := by
  induction l with
  | nil => cases h
  | cons y l ih =>
    rw [deepL]
    rcases List.mem_cons.1 h with rfl | h
    · omega
    · have := ih h; omega
/-- the form of its kind -/
def kindOk (x : S26) : Bool :=
  if x.f0 = 2 then decide (x.f2.length = 0) && decide (x.f3.length = x.f4.length) && !x.f1
  else if x.f0 = 3 then decide (x.f3.length = 0) && decide (x.f4.length = 0) && !x.f1
  else if x.f0 = 1 then decide (x.f3.length = 0) && decide (x.f4.length = 0) else false
/-- the bytes of the entries, as the machine sums them -/
def entSum (l : List ByteArray) : Int := l.foldl (fun s n => wrap64 (s + ((n.size : Int) + 3))) 0
/-- is a name wrong, or not above the one ahead of it? -/
def namesBad : List ByteArray → Option ByteArray → Bool
  | [], _ => false
  | n :: l, p => !nameOk n || (match p with | none => false | some q => !(Op.bytesLess q.toList n.toList)) || namesBad l (some n)
mutual
/-- what is wrong with a node, or with one in it -/
def bad : S26 → Int
  | ⟨f0, f1, f2, f3, f4⟩ =>
    if kindOk ⟨f0, f1, f2, f3, f4⟩ = false then 12
    else if 31744 < f2.length ∨ (f0 = 3 ∧ 1024 < f2.length) ∨ 31744 < entSum f3 then 3
    else if f0 = 3 ∧ f2.length = 0 then 2
    else if namesBad f3 none = true then 17 else badL f4
def badL : List S26 → Int
  | [] => 0
  | x :: xs => if bad x = 0 then badL xs else bad x
end
mutual
/-- each list is as short as what comes in may be -/
def fits : S26 → Prop
  | ⟨_, _, f2, f3, f4⟩ => f2.length ≤ 140737488351232 ∧ (f3.length ≤ 8796093021952 ∧ ∀ s ∈ f3, s.size ≤ 140737488351232) ∧ f4.length ≤ 1599289640354 ∧ fitsL f4
def fitsL : List S26 → Prop
  | [] => True
  | x :: xs => fits x ∧ fitsL xs
end
theorem fits_eq (x : S26) : fits x ↔ (x.f2.length ≤ 140737488351232 ∧ (x.f3.length ≤ 8796093021952 ∧ ∀ s ∈ x.f3, s.size ≤ 140737488351232) ∧ x.f4.length ≤ 1599289640354 ∧ fitsL x.f4) := by cases x; rw [fits]
theorem fits_mem {x : S26} {l : List S26} (h : fitsL l) (hx : x ∈ l) : fits x := by
  induction l with
  | nil => cases hx
  | cons y l ih =>
    rw [fitsL] at h
    rcases List.mem_cons.1 hx with rfl | hx
    · exact h.1
    · exact ih h.2 hx
theorem rd_at {l : List S26} {i : Nat} (h : i < l.length) : rd_T26 l (i : Int) = l[i] := by
  unfold rd_T26
  simp [List.getD, h]
theorem rdn_at {l : List ByteArray} {i : Nat} (h : i < l.length) : rdOf ByteArray.empty l (i : Int) = l[i] := by
  unfold rdOf
  simp [List.getD, h]
theorem drop_at {α : Type} {l : List α} {i : Nat} (h : i < l.length) : l.drop i = l[i] :: l.drop (i + 1) := List.drop_eq_getElem_cons h
theorem w64 {x : Int} (h0 : -9223372036854775808 ≤ x) (h1 : x ≤ 9223372036854775807) : wrap64 x = x := by unfold wrap64; omega
theorem nodes_pos (x : S26) : 1 ≤ nodes x := by rw [nodes_eq]; omega
theorem deep_pos (x : S26) : 1 ≤ deep x := by rw [deep_eq]; omega
end Go.Proofs.YtepdnknhejjgnaaDoor
