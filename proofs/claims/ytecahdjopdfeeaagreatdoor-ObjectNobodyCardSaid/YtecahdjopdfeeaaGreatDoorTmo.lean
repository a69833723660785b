/- Get, Remove, Put of trees that no call made. -/
import Derived.Test.YtecahdjopdfeeaaGreatDoorTn
namespace Go.Proofs.YtecahdjopdfeeaaGreatDoor
open Go.RowKit
theorem shaped_below {w w' : World} (h : w.ShapedOpen Tryz.prog) (hb : Below w.heap.size w w') : w'.ShapedOpen Tryz.prog :=
  h.keptBut (hb.frame (fun _ => False)) (fun _ hp => hp.elim)
def zeroNode : Value := .agg #[.int .i64 0, .bool false, .slice none 0 0, .slice none 0 0, .slice none 0 0]
set_option maxHeartbeats 1000000 in
theorem get_no (v : Value) (s : ByteArray) (w : World) (h : NoTree w v) (hsh : w.ShapedOpen Tryz.prog) (hs : s.size < 4294967281) :
    Calls Tryz.prog 16 #[v, .string s] w fun e w' => e = .returned (.tuple #[zeroNode, .int .i64 1]) ∧ Below w.heap.size w w' := by
  have H := Lib.hid h
  have HS := Lib.hid hsh
  clear h hsh
  go_enter Tryz.func16, Tryz.ntmps16
  go_wp2_with fail
  have HB0 := Lib.hid ((Below.refl w.heap.size w).alloc (Nat.le_refl _) (.cells #[.int .i64 0, .bool false, .slice none 0 0, .slice none 0 0, .slice none 0 0] 33))
  refine (split_any s _ (shaped_below HS.out HB0.out) hs).mono ?_
  rintro e w1 ⟨⟨v1, b1, rfl⟩, hb1⟩
  have hrow : w1.heap[w.heap.size]? = some (.cells #[.int .i64 0, .bool false, .slice none 0 0, .slice none 0 0, .slice none 0 0] 33) := (hb1.block _ (by simp)).trans (heap_alloc_new _ _)
  have HB := Lib.hid (HB0.out.trans (hb1.mono (by simp)))
  have hc0 : w1.cell? ⟨w.heap.size, 0, none⟩ = some (.int .i64 0) := by rw [cell_of_row _ _ 0 _ _ _ hrow]; rfl
  have hc1 : w1.cell? ⟨w.heap.size, 1, none⟩ = some (.bool false) := by rw [cell_of_row _ _ 1 _ _ _ hrow]; rfl
  have hc2 : w1.cell? ⟨w.heap.size, 2, none⟩ = some (.slice none 0 0) := by rw [cell_of_row _ _ 2 _ _ _ hrow]; rfl
  have hc3 : w1.cell? ⟨w.heap.size, 3, none⟩ = some (.slice none 0 0) := by rw [cell_of_row _ _ 3 _ _ _ hrow]; rfl
  have hc4 : w1.cell? ⟨w.heap.size, 4, none⟩ = some (.slice none 0 0) := by rw [cell_of_row _ _ 4 _ _ _ hrow]; rfl
  have hf : ∀ j : Nat, w1.frozen? ⟨w.heap.size, j, none⟩ = false := fun j => by simp [World.frozen?, hrow]
  have hf0 := hf 0
  have hf1 := hf 1
  have hf2 := hf 2
  have hf3 := hf 3
  have hf4 := hf 4
  clear hrow hb1 HB0 hf
  go_wp2_with fail
  refine (tnone_any v _ (H.out.below HB.out)).mono ?_
  rintro e w' ⟨rfl, rfl⟩
  go_wp2
  refine bodyPost_ret (v := .tuple #[zeroNode, .int .i64 1]) (by simp [results, Tryz.results16, go_sem, hc0, hc1, hc2, hc3, hc4, zeroNode]) rfl ⟨rfl, ?_⟩
  have hb := HB.out
  exact ((((hb.setCell (Nat.le_refl _) _).setCell (Nat.le_refl _) _).setCell (Nat.le_refl _) _).setCell (Nat.le_refl _) _).setCell (Nat.le_refl _) _
set_option maxHeartbeats 1000000 in
theorem remove_no (v : Value) (s : ByteArray) (w : World) (h : NoTree w v) (hsh : w.ShapedOpen Tryz.prog) (hs : s.size < 4294967281) :
    Calls Tryz.prog 24 #[v, .string s] w fun e w' => e = .returned (.int .i64 1) ∧ Below w.heap.size w w' := by
  have H := Lib.hid h
  have HS := Lib.hid hsh
  clear h hsh
  go_enter Tryz.func24, Tryz.ntmps24
  go_wp2_with fail
  refine (split_any s _ HS.out hs).mono ?_
  rintro e w1 ⟨⟨v1, b1, rfl⟩, hb1⟩
  have HB := Lib.hid hb1
  clear hb1
  go_wp2_with fail
  refine (tnone_any v _ (H.out.below HB.out)).mono ?_
  rintro e w' ⟨rfl, rfl⟩
  go_wp2
  go_ret
  exact ⟨rfl, HB.out⟩
set_option maxHeartbeats 1000000 in
theorem put_no (v : Value) (s : ByteArray) (n : Value) (w : World) (h : NoTree w v) (hsh : w.ShapedOpen Tryz.prog) (hs : s.size < 4294967281) (hn : n = .agg #[.int .i64 1, .bool false, .slice none 0 0, .slice none 0 0, .slice none 0 0]) :
    Calls Tryz.prog 22 #[v, .string s, n] w fun e w' => e = .returned (.int .i64 1) ∧ Below w.heap.size w w' := by
  subst hn
  have H := Lib.hid h
  have HS := Lib.hid hsh
  clear h hsh
  go_enter Tryz.func22, Tryz.ntmps22
  go_wp2_with fail
  have HB0 := Lib.hid ((Below.refl w.heap.size w).alloc (Nat.le_refl _) (.cells #[.int .i64 1, .bool false, .slice none 0 0, .slice none 0 0, .slice none 0 0] 33))
  refine (split_any s _ (shaped_below HS.out HB0.out) hs).mono ?_
  rintro e w1 ⟨⟨v1, b1, rfl⟩, hb1⟩
  have HB := Lib.hid (HB0.out.trans (hb1.mono (by simp)))
  clear hb1 HB0
  go_wp2_with fail
  refine (tnone_any v _ (H.out.below HB.out)).mono ?_
  rintro e w' ⟨rfl, rfl⟩
  go_wp2
  go_ret
  exact ⟨rfl, HB.out⟩
end Go.Proofs.YtecahdjopdfeeaaGreatDoor
