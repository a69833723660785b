/- A text of a valid info is read back by either reader; so both read the same (plain law). -/
import Derived.Test.YtcmlifbfegblgaaDoorBv
import Derived.Test.YtcmlifbfegblgaaDoorBq
namespace Go.Proofs.YtcmlifbfegblgaaDoor
set_option linter.unusedVariables false
set_option linter.unusedSimpArgs false
open Go.RowKit Go.Proofs.YtcmlifbfegblgaaDoorW.PrintWords Go.Proofs.YtcmlifbfegblgaaDoorW.PrintLast Go.Proofs.YtcmlifbfegblgaaDoorW.PrintMore
open Go.Proofs.YtcmlifbfegblgaaDoor.QObjectTexts

theorem ba_ext {a b : ByteArray} (h : a.data.toList = b.data.toList) : a = b := ByteArray.ext (Array.toList_inj.1 h)
theorem data_app (a b : ByteArray) : (a ++ b).data.toList = a.data.toList ++ b.data.toList := by rw [ByteArray.data_append, Array.toList_append]
def flat (rs : List ByteArray) : List UInt8 := (rs.map fun r => r.data.toList ++ [10]).flatten
theorem flat_cons (r : ByteArray) (rs : List ByteArray) : flat (r :: rs) = r.data.toList ++ 10 :: flat rs := by simp [flat]
theorem flat_app (a b : List ByteArray) : flat (a ++ b) = flat a ++ flat b := by simp [flat]
theorem join_nl : ∀ (r : List (List UInt8)) (x : List UInt8), x ++ Lib.joinTail [10] r ++ [10] = ((x :: r).map (· ++ [10])).flatten
  | [], x => by simp [Lib.joinTail]
  | y :: r, x => by
    have ih := join_nl r y
    simp only [Lib.joinTail, List.map_cons, List.flatten_cons] at ih ⊢
    rw [← ih]
    simp [Lib.joinTail]
theorem text_flat (h d : ByteArray) (l : List ByteArray) : (textOf h d l).data.toList = flat (rowsAll h d l) := by
  unfold textOf
  rw [data_app]
  have hne : ∃ x r, rowsAll h d l = x :: r := by
    unfold rowsAll rows
    split
    · exact ⟨_, _, rfl⟩
    · exact ⟨_, _, rfl⟩
  obtain ⟨x, r, e⟩ := hne
  rw [e, List.map_cons, Lib.join_cons]
  have := join_nl (r.map (·.data.toList)) x.data.toList
  show x.data.toList ++ Lib.joinTail [10] (r.map (·.data.toList)) ++ [10] = _
  rw [this]
  simp [flat, Function.comp_def]
theorem radd_flat : ∀ (l : List ByteArray) (t : ByteArray), (l.foldl raddRef t).data.toList = t.data.toList ++ flat (l.map (refW ++ ·))
  | [], t => by simp [flat]
  | x :: r, t => by
    rw [List.foldl_cons, radd_flat r, List.map_cons, flat_cons]
    unfold raddRef
    rw [data_app, data_app, data_app, data_app]
    show ((t.data.toList ++ refW.data.toList) ++ x.data.toList) ++ [10] ++ _ = _
    simp
theorem rtext_flat (h d : ByteArray) (l : List ByteArray) : (rtextOf h d l).data.toList = flat (rowsAll h d l) := by
  unfold rtextOf rowsAll
  rw [radd_flat, flat_app]
  congr 1
  unfold rstart rows
  split
  · rw [data_app, data_app]
    show (hashW.data.toList ++ h.data.toList) ++ [10] = _
    simp [flat, data_app]
  · rw [data_app, data_app, data_app, data_app, data_app]
    show ((((hashW.data.toList ++ h.data.toList) ++ [10]) ++ derW.data.toList) ++ d.data.toList) ++ [10] = _
    simp [flat, data_app]
theorem texts_eq (h d : ByteArray) (l : List ByteArray) : rtextOf h d l = textOf h d l := ba_ext ((rtext_flat h d l).trans (text_flat h d l).symm)

theorem lnsA_row : ∀ (x acc rest : List UInt8), 10 ∉ x → lnsA acc (x ++ 10 :: rest) = (acc ++ x ++ [10]) :: lnsA [] rest
  | [], acc, rest, _ => by simp [lnsA]
  | b :: r, acc, rest, h => by
    have hb : (b == 10) = false := beq_eq_false_iff_ne.2 (fun e => h (by simp [e]))
    rw [List.cons_append, lnsA, hb]
    simp only [Bool.false_eq_true, if_false]
    rw [lnsA_row r _ rest (fun hr => h (by simp [hr]))]
    simp
theorem lnsA_flat : ∀ rs : List ByteArray, (∀ r ∈ rs, (10 : UInt8) ∉ r.data.toList) → lnsA [] (flat rs) = rs.map fun r => r.data.toList ++ [10]
  | [], _ => rfl
  | r :: rs, h => by
    rw [flat_cons, lnsA_row _ _ _ (h r (by simp)), lnsA_flat rs (fun x hx => h x (by simp [hx]))]
    simp
theorem lines_flat (s : ByteArray) (rs : List ByteArray) (hs : s.data.toList = flat rs) (h : ∀ r ∈ rs, (10 : UInt8) ∉ r.data.toList) : linesOf s = rs.map (· ++ nlW) := by
  unfold linesOf
  rw [hs, lnsA_flat rs h, List.map_map]
  apply List.map_congr_left
  intro r _
  apply ba_ext
  rw [data_app]
  rfl
theorem trim_row (r : ByteArray) : trimNl (r ++ nlW) = r := by
  apply ba_ext
  unfold trimNl
  rw [data_app]
  show (Lib.trimSuffix (r.data.toList ++ [10]) [10]) = _
  unfold Lib.trimSuffix Lib.hasSuffix
  simp
theorem index_row : ∀ (wl x : List UInt8), 32 ∉ wl → Lib.indexByte (wl ++ 32 :: x) 32 = wl.length
  | [], x, _ => by simp [Lib.indexByte]
  | b :: r, x, h => by
    have hb : (b == 32) = false := beq_eq_false_iff_ne.2 (fun e => h (by simp [e]))
    have ih := index_row r x (fun hr => h (by simp [hr]))
    rw [List.cons_append]
    unfold Lib.indexByte
    rw [hb, ih]
    have hne : (((r.length : Int)) == -1) = false := by
      apply beq_eq_false_iff_ne.2
      omega
    simp only [hne, Bool.false_eq_true, if_false, List.length_cons]
    omega
theorem word_row (wl x : List UInt8) (s : ByteArray) (h : 32 ∉ wl) (hs : s.data.toList = wl ++ 32 :: x) : wordOf s = ⟨wl.toArray⟩ ∧ restOf s = ⟨x.toArray⟩ := by
  have hb : blank s = some wl.length := by
    unfold blank
    rw [hs, index_row wl x h, if_neg (by omega)]
    simp
  have hsz : s.size = wl.length + 1 + x.length := by
    have := congrArg List.length hs
    simp at this
    omega
  unfold wordOf restOf
  rw [hb]
  constructor
  · apply ba_ext
    simp only
    rw [extract_list, hs]
    simp
  · apply ba_ext
    simp only
    rw [extract_list, hs, List.take_of_length_le (by simp; omega)]
    show (wl ++ 32 :: x).drop (wl.length + 1) = x
    rw [List.drop_append]
    simp
end Go.Proofs.YtcmlifbfegblgaaDoor
