/- strings.Lines: its iterator hands over the lines of its text, each with its end. -/
import Derived.Test.YtcmlifbfegblgaaDoorBa
import Derived.Test.YtcmlifbfegblgaaDoorShelf
import Derived.Lib.IndexLaws
namespace Go.Proofs.YtcmlifbfegblgaaDoor
set_option linter.unusedVariables false
set_option linter.unusedSimpArgs false
open Go.RowKit
attribute [local go_sem] Oper.semAt_some

def lnsA : List UInt8 → List UInt8 → List (List UInt8)
  | acc, [] => if acc = [] then [] else [acc]
  | acc, b :: r => if b == 10 then (acc ++ [b]) :: lnsA [] r else lnsA (acc ++ [b]) r
def linesOf (s : ByteArray) : List ByteArray := (lnsA [] s.data.toList).map fun l => ⟨l.toArray⟩

theorem lnsA_none : ∀ (l acc : List UInt8), Lib.indexByte l 10 = -1 → lnsA acc l = if acc ++ l = [] then [] else [acc ++ l]
  | [], acc, _ => by simp [lnsA]
  | b :: r, acc, h => by
    unfold Lib.indexByte at h
    by_cases hb : (b == 10) = true
    · rw [if_pos hb] at h; omega
    · rw [if_neg hb] at h
      have hr : Lib.indexByte r 10 = -1 := by
        by_cases h2 : (Lib.indexByte r 10 == -1) = true
        · simpa using h2
        · rw [if_neg h2] at h; have := Lib.indexByte_ge r 10; simp at h2; omega
      rw [lnsA, if_neg hb, lnsA_none r _ hr]
      simp
theorem lnsA_some : ∀ (l acc : List UInt8) (k : Nat), Lib.indexByte l 10 = k → lnsA acc l = (acc ++ l.take (k + 1)) :: lnsA [] (l.drop (k + 1))
  | [], acc, k, h => by unfold Lib.indexByte at h; omega
  | b :: r, acc, k, h => by
    unfold Lib.indexByte at h
    by_cases hb : (b == 10) = true
    · rw [if_pos hb] at h
      obtain rfl : k = 0 := by omega
      rw [lnsA, if_pos hb]
      simp
    · rw [if_neg hb] at h
      by_cases h2 : (Lib.indexByte r 10 == -1) = true
      · rw [if_pos h2] at h; omega
      · rw [if_neg h2] at h
        obtain ⟨j, rfl⟩ : ∃ j, k = j + 1 := ⟨k - 1, by have := Lib.indexByte_ge r 10; simp at h2; omega⟩
        rw [lnsA, if_neg hb, lnsA_some r _ j (by omega)]
        simp
theorem extract_list (s : ByteArray) (a b : Nat) : (s.extract a b).data.toList = (s.data.toList.take b).drop a := by
  simp [ByteArray.extract, ByteArray.copySlice, List.drop_take]
theorem drew_grown {w w' : World} {row : Option Nat} (h : w.grownBy w' row) : w.grownBy w'.drew row := ⟨h.os, h.tape, h.output, h.size, h.block⟩
theorem linesOf_nil : linesOf ⟨#[]⟩ = [] := rfl
theorem linesOf_none (s : ByteArray) (h : Lib.indexByte s.data.toList 10 = -1) (h0 : 0 < s.size) : linesOf s = [s] := by
  have h1 : s.data.toList ≠ [] := by intro e; have := congrArg List.length e; simp at this; rw [ByteArray.size, this] at h0; simp at h0
  simp [linesOf, lnsA_none _ _ h, h1]
theorem linesOf_some (s : ByteArray) (k : Nat) (h : Lib.indexByte s.data.toList 10 = k) : linesOf s = s.extract 0 (k + 1) :: linesOf (s.extract (k + 1) s.size) := by
  unfold linesOf
  rw [lnsA_some _ _ k h, extract_list, List.map_cons]
  congr 1
  · apply ByteArray.ext; apply Array.ext'; simp [extract_list]
  · rw [show s.data.toList.take s.size = s.data.toList from List.take_of_length_le (Nat.le_of_eq (by rw [Array.length_toList]; rfl))]

set_option maxHeartbeats 1000000 in
theorem lines_seq (n : Nat) (hn : 1 ≤ n) (q : Nat) (s : ByteArray) (w : World) (hs : s.size ≤ 140737488355328) (hbox : Boxed w q 9 (.string s)) :
    BoxSeq Fence.wide n Tryd.prog 45 #[.pointer (some ⟨q, 0, none⟩)] (fun x => #[.string x]) q (linesOf s) w := by
  intro l J W hW hJ hY h0
  refine callsIn_of_wp Tryd.func45 rfl trivial ?_ rfl
  simp only [Tryd.ntmps45, List.size_toArray, List.length_cons, List.length_nil, Nat.reduceAdd, Nat.reduceSub, Array.replicate_succ, Array.replicate_zero, List.push_toArray, List.append_toArray, List.nil_append, List.cons_append]
  have hb0 : Boxed W q 9 (.string s) := hW.trans hbox
  clear hW hbox
  gi_wp2
  gi_loopw [3, 4] (fun _ _ wr => ∃ (pre : List ByteArray) (rest : ByteArray), pre ++ linesOf rest = linesOf s ∧ J pre wr ∧ Boxed wr q 9 (.string rest) ∧ rest.size ≤ 140737488355328)
    (fun _ _ wr => match wr.cell? ⟨q, 0, none⟩ with | some (.string r) => r.size | _ => 0)
  case atStart => exact ⟨[], s, rfl, h0, hb0, hs⟩
  case round =>
    obtain ⟨pre, rest, hx, hj, hbx, hsz⟩ := hrel
    have hc := hbx.cell
    have hf := hbx.frozen
    have hmix : Tryd.prog.follows .mixedOrders = true := by kernel_rfl
    have hcall := (callsIn_wide (n := n - 1)).2 (Tryd.strings_IndexByte rest 10 wr)
    by_cases h0 : rest.size = 0
    · have hr : rest = ⟨#[]⟩ := by apply ByteArray.ext; exact Array.eq_empty_of_size_eq_zero h0
      subst hr
      rw [linesOf_nil, List.append_nil] at hx
      subst hx
      gi_wp2
      go_end0
      exact ⟨⟨_, rfl⟩, hj⟩
    · have hpos : 0 < rest.size := Nat.pos_of_ne_zero h0
      rcases Int.lt_or_le (Lib.indexByte rest.data.toList 10) 0 with hi | hi
      · have hi1 : Lib.indexByte rest.data.toList 10 = -1 := by have := Lib.indexByte_ge rest.data.toList 10; omega
        rw [show ((10 : Int).toNat.toUInt8) = 10 from rfl, hi1] at hcall
        rw [linesOf_none rest hi1 hpos] at hx
        have hbx1 := hbx.set (.string ⟨#[]⟩)
        have hj1 := hJ _ _ _ _ hj (grownBy_setCell' wr q (.string ⟨#[]⟩)) (fun r e => by cases e; rfl)
        obtain ⟨fn, tmps, assign, body, hy, hR⟩ := hY pre rest _ hj1 (by rw [hx]; exact List.prefix_refl _)
        gi_wp2_with (refine ⟨trivial, ?_⟩; gi_at_call 46; refine hcall.mono ?_; rintro e w' ⟨rfl, rfl⟩)
        refine hR.mono ?_
        rintro e W3 ⟨rfl, hJ3, hk3⟩
        have hb3 : Boxed W3 q 9 (.string ⟨#[]⟩) := hk3.trans hbx1
        gi_wp2
        go_roundw
        case rel => exact ⟨pre ++ [rest], ⟨#[]⟩, by rw [linesOf_nil, List.append_nil]; exact hx, hJ3, hb3, by decide⟩
        case measure => rw [hb3.cell, hc]; exact hpos
      · obtain ⟨k, hk⟩ := Int.eq_ofNat_of_zero_le hi
        have hlt : k < rest.size := by
          have := (Lib.indexByte_some hk).1
          have h2 := (List.getElem?_eq_some_iff.1 this).1
          rwa [Array.length_toList] at h2
        rw [show ((10 : Int).toNat.toUInt8) = 10 from rfl, hk] at hcall
        rw [linesOf_some rest k hk] at hx
        have hbx1 : Boxed (wr.setCell ⟨q, 0, none⟩ (.string (rest.extract (k + 1) rest.size))).drew q 9 (.string (rest.extract (k + 1) rest.size)) := hbx.set (.string (rest.extract (k + 1) rest.size))
        have hj1 := hJ _ _ _ _ hj (drew_grown (grownBy_setCell' wr q (.string (rest.extract (k + 1) rest.size)))) (fun r e => by cases e; rfl)
        obtain ⟨fn, tmps, assign, body, hy, hR⟩ := hY pre (rest.extract 0 (k + 1)) _ hj1 (by rw [← hx]; exact ⟨linesOf (rest.extract (k + 1) rest.size), by rw [List.append_assoc]; rfl⟩)
        have hw1 : wrap64 ((k : Int) + 1) = ((k + 1 : Nat) : Int) := by unfold wrap64; omega
        gi_wp2_with (refine ⟨trivial, ?_⟩; gi_at_call 46; refine hcall.mono ?_; rintro e w' ⟨rfl, rfl⟩)
        gi_region
        gi_wp2
        refine hR.mono ?_
        rintro e W3 ⟨rfl, hJ3, hk3⟩
        have hb3 : Boxed W3 q 9 (.string (rest.extract (k + 1) rest.size)) := hk3.trans hbx1
        have hsz3 : (rest.extract (k + 1) rest.size).size = rest.size - (k + 1) := by simp
        gi_wp2
        go_roundw
        case rel => exact ⟨pre ++ [rest.extract 0 (k + 1)], rest.extract (k + 1) rest.size, by rw [List.append_assoc]; exact hx, hJ3, hb3, by omega⟩
        case measure => rw [hb3.cell, hc]; show (rest.extract (k + 1) rest.size).size < rest.size; omega
end Go.Proofs.YtcmlifbfegblgaaDoor
