/- object.dir and object.Open over trees that no call made. -/
import Derived.Test.YtecahdjopdfeeaaGreatDoorOm
import Derived.Test.YtecahdjopdfeeaaGreatDoorOi
namespace Go.Proofs.YtecahdjopdfeeaaGreatDoor
set_option linter.unusedVariables false
set_option linter.unusedSimpArgs false
open Go.RowKit
set_option maxHeartbeats 1000000 in
theorem dir_no (v : Value) (s : ByteArray) (w : World) (h : NoTree w v) (hsh : w.ShapedOpen Tryz.prog) (hs : s.size < 4294967281) :
    Calls Tryz.prog 28 #[v, .string s] w fun e w' => e = .returned (.tuple #[zeroNode, .int .i64 1]) ∧ Below w.heap.size w w' := by
  have H := Lib.hid h
  have HS := Lib.hid hsh
  clear h hsh
  go_enter Tryz.func28, Tryz.ntmps28
  go_wp2_with fail
  have HB0 := Lib.hid ((Below.refl w.heap.size w).alloc (Nat.le_refl _) (.cells #[.int .i64 0, .bool false, .slice none 0 0, .slice none 0 0, .slice none 0 0] 33))
  refine (get_no v s _ (H.out.below HB0.out) (shaped_below HS.out HB0.out) hs).mono ?_
  rintro e w1 ⟨rfl, hb1⟩
  unfold zeroNode
  have hrow : w1.heap[w.heap.size]? = some (.cells #[.int .i64 0, .bool false, .slice none 0 0, .slice none 0 0, .slice none 0 0] 33) := (hb1.block _ (by simp)).trans (heap_alloc_new _ _)
  have HB := Lib.hid (HB0.out.trans (hb1.mono (by simp)))
  have hlt : w.heap.size < w1.heap.size := (Array.getElem?_eq_some_iff.1 hrow).1
  go_wp2_with fail
  refine (is_unlike _).mono ?_
  rintro e w' ⟨rfl, rfl⟩
  have HB1 := Lib.hid (HB.out.alloc HB.out.size (.cells #[.int .i64 0, .bool false, .slice none 0 0, .slice none 0 0, .slice none 0 0] 33))
  have hrow2 : (w1.alloc (.cells #[.int .i64 0, .bool false, .slice none 0 0, .slice none 0 0, .slice none 0 0] 33)).heap[w.heap.size]? = some (.cells #[.int .i64 0, .bool false, .slice none 0 0, .slice none 0 0, .slice none 0 0] 33) := (Below.heap_alloc _ _ _ hlt).trans hrow
  have hnew := heap_alloc_new w1 (.cells #[.int .i64 0, .bool false, .slice none 0 0, .slice none 0 0, .slice none 0 0] 33)
  have hne : w.heap.size ≠ w1.heap.size := Nat.ne_of_lt hlt
  generalize (w1.alloc (.cells #[.int .i64 0, .bool false, .slice none 0 0, .slice none 0 0, .slice none 0 0] 33)) = w2 at hrow2 hnew HB1 ⊢
  have hc0 : w2.cell? ⟨w.heap.size, 0, none⟩ = some (.int .i64 0) := by rw [cell_of_row _ _ 0 _ _ _ hrow2]; rfl
  have hc1 : w2.cell? ⟨w.heap.size, 1, none⟩ = some (.bool false) := by rw [cell_of_row _ _ 1 _ _ _ hrow2]; rfl
  have hc2 : w2.cell? ⟨w.heap.size, 2, none⟩ = some (.slice none 0 0) := by rw [cell_of_row _ _ 2 _ _ _ hrow2]; rfl
  have hc3 : w2.cell? ⟨w.heap.size, 3, none⟩ = some (.slice none 0 0) := by rw [cell_of_row _ _ 3 _ _ _ hrow2]; rfl
  have hc4 : w2.cell? ⟨w.heap.size, 4, none⟩ = some (.slice none 0 0) := by rw [cell_of_row _ _ 4 _ _ _ hrow2]; rfl
  have hf : ∀ j : Nat, w2.frozen? ⟨w.heap.size, j, none⟩ = false := fun j => by simp [World.frozen?, hrow2]
  have hf0 := hf 0
  have hf1 := hf 1
  have hf2 := hf 2
  have hf3 := hf 3
  have hf4 := hf 4
  have hn0 : w2.cell? ⟨w1.heap.size, 0, none⟩ = some (.int .i64 0) := by rw [cell_of_row _ _ 0 _ _ _ hnew]; rfl
  have hn1 : w2.cell? ⟨w1.heap.size, 1, none⟩ = some (.bool false) := by rw [cell_of_row _ _ 1 _ _ _ hnew]; rfl
  have hn2 : w2.cell? ⟨w1.heap.size, 2, none⟩ = some (.slice none 0 0) := by rw [cell_of_row _ _ 2 _ _ _ hnew]; rfl
  have hn3 : w2.cell? ⟨w1.heap.size, 3, none⟩ = some (.slice none 0 0) := by rw [cell_of_row _ _ 3 _ _ _ hnew]; rfl
  have hn4 : w2.cell? ⟨w1.heap.size, 4, none⟩ = some (.slice none 0 0) := by rw [cell_of_row _ _ 4 _ _ _ hnew]; rfl
  clear hrow hrow2 hnew hb1 HB0 hf hlt
  go_wp2
  refine bodyPost_ret (v := .tuple #[zeroNode, .int .i64 1]) (by simp [results, Tryz.results28, go_sem, hc0, hc1, hc2, hc3, hc4, zeroNode]) rfl ⟨rfl, ?_⟩
  have hb := HB1.out
  exact ((((hb.setCell (Nat.le_refl _) _).setCell (Nat.le_refl _) _).setCell (Nat.le_refl _) _).setCell (Nat.le_refl _) _).setCell (Nat.le_refl _) _
set_option maxHeartbeats 1000000 in
theorem oopen_no (v : Value) (w : World) (h : NoTree w v) (hsh : w.ShapedOpen Tryz.prog) :
    Calls Tryz.prog 13 #[v] w fun e w' => e = .returned (.tuple #[.pointer none, .int .i64 1]) ∧ Below w.heap.size w w' := by
  have H := Lib.hid h
  have HS := Lib.hid hsh
  clear h hsh
  go_enter Tryz.func13, Tryz.ntmps13
  go_wp2_with fail
  refine (dir_no v _ _ H.out HS.out (by decide)).mono ?_
  rintro e w1 ⟨rfl, hb⟩
  have HB := Lib.hid hb
  clear hb
  unfold zeroNode
  go_wp2
  refine bodyPost_ret (v := .tuple #[.pointer none, .int .i64 1]) (by simp [results, Tryz.results13, go_sem]) rfl ⟨rfl, ?_⟩
  exact HB.out.alloc HB.out.size _
end Go.Proofs.YtecahdjopdfeeaaGreatDoor
