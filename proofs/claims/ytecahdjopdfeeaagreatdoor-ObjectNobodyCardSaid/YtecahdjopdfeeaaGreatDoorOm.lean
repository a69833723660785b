/- Objects that no call made: what their methods tell: nothing, and error 1. -/
import Derived.Test.YtecahdjopdfeeaaGreatDoorTmo
import Derived.Laws.Cover3
import Derived.Laws.IdiomRangeMap
namespace Go.Proofs.YtecahdjopdfeeaaGreatDoor
set_option linter.unusedVariables false
set_option linter.unusedSimpArgs false
open Go.RowKit
/-- objects that no call made -/
inductive NoObj (w : World) : Value → Prop
  | nil : NoObj w (.pointer none)
  | zero (b : Nat) (h : w.cell? ⟨b, 1, none⟩ = some (.map none)) : NoObj w (.pointer (some ⟨b, 0, none⟩))
theorem NoObj.below {w w' : World} {v : Value} (h : NoObj w v) (hb : Below w.heap.size w w') : NoObj w' v := by
  cases h with
  | nil => exact .nil
  | zero b h => exact .zero b ((hb.cell (World.block_lt_of_cell? _ _ h)).trans h)
theorem NoObj.ptr {w : World} {v : Value} (h : NoObj w v) : ∃ q, v = .pointer q := by
  cases h with
  | nil => exact ⟨_, rfl⟩
  | zero b h => exact ⟨_, rfl⟩
theorem eq_map_nil (P : Program) (w : World) (t k e : TypeId) (h : P.underlying t = some (.map k e)) : (binOp .eql t (.map none) (.map none)).run P w = .ok (.bool true) w := by
  simp only [binOp]
  simp [run_equal_map_nil w t k e none h]
theorem onone_nil (w : World) : Calls Tryz.prog 35 #[.pointer none] w fun e w' => e = .returned (.bool true) ∧ w = w' := by
  go_enter Tryz.func35, Tryz.ntmps35
  go_wp2
  go_ret
  exact ⟨rfl, rfl⟩
theorem onone_zero (b : Nat) (w : World) (h : w.cell? ⟨b, 1, none⟩ = some (.map none)) : Calls Tryz.prog 35 #[.pointer (some ⟨b, 0, none⟩)] w fun e w' => e = .returned (.bool true) ∧ w = w' := by
  have hq := eq_map_nil Tryz.prog w _ _ _ Tryz.underlying25
  go_enter Tryz.func35, Tryz.ntmps35
  go_wp2
  go_ret
  exact ⟨rfl, rfl⟩
theorem onone_any (v : Value) (w : World) (h : NoObj w v) : Calls Tryz.prog 35 #[v] w fun e w' => e = .returned (.bool true) ∧ w = w' := by
  cases h with
  | nil => exact onone_nil w
  | zero b h => exact onone_zero b w h
theorem known_no (v : Value) (p : ByteArray) (w : World) (h : NoObj w v) : Calls Tryz.prog 15 #[v, .string p] w fun e w' => e = .returned (.int .i64 1) ∧ w = w' := by
  have H := Lib.hid h
  clear h
  go_enter Tryz.func15, Tryz.ntmps15
  go_wp2_with fail
  refine (onone_any v _ H.out).mono ?_
  rintro e w' ⟨rfl, rfl⟩
  go_wp2
  go_ret
  exact ⟨rfl, rfl⟩
def okNode : Value := .agg #[.int .i64 1, .bool false, .slice none 0 0, .slice none 0 0, .slice none 0 0]
set_option maxHeartbeats 1000000 in
theorem oget_no (v : Value) (p : ByteArray) (w : World) (h : NoObj w v) : Calls Tryz.prog 5 #[v, .string p] w fun e w' => e = .returned (.tuple #[zeroNode, .int .i64 1]) ∧ Below w.heap.size w w' := by
  have H := Lib.hid h
  clear h
  go_enter Tryz.func5, Tryz.ntmps5
  go_wp2_with fail
  have HB0 := Lib.hid ((Below.refl w.heap.size w).alloc (Nat.le_refl _) (.cells #[.int .i64 0, .bool false, .slice none 0 0, .slice none 0 0, .slice none 0 0] 33))
  refine (known_no v p _ (H.out.below HB0.out)).mono ?_
  rintro e w' ⟨rfl, rfl⟩
  go_wp2
  refine bodyPost_ret (v := .tuple #[zeroNode, .int .i64 1]) (by simp [results, Tryz.results5, go_sem, zeroNode]) rfl ?_
  exact ⟨rfl, HB0.out⟩
set_option maxHeartbeats 1000000 in
theorem info_no (v : Value) (p : ByteArray) (w : World) (h : NoObj w v) : Calls Tryz.prog 6 #[v, .string p] w fun e w' => e = .returned (.tuple #[.agg #[.string ⟨#[]⟩, .string ⟨#[]⟩, .string ⟨#[]⟩, .slice none 0 0], .int .i64 1]) ∧ Below w.heap.size w w' := by
  have H := Lib.hid h
  clear h
  go_enter Tryz.func6, Tryz.ntmps6
  go_wp2_with fail
  have HB0 := Lib.hid ((Below.refl w.heap.size w).alloc (Nat.le_refl _) (.cells #[.string ⟨#[]⟩, .string ⟨#[]⟩, .string ⟨#[]⟩, .slice none 0 0] 38))
  refine (known_no v p _ (H.out.below HB0.out)).mono ?_
  rintro e w' ⟨rfl, rfl⟩
  go_wp2
  refine bodyPost_ret (v := .tuple #[.agg #[.string ⟨#[]⟩, .string ⟨#[]⟩, .string ⟨#[]⟩, .slice none 0 0], .int .i64 1]) (by simp [results, Tryz.results6, go_sem]) rfl ?_
  exact ⟨rfl, HB0.out⟩
theorem verify_no (v : Value) (p : ByteArray) (w : World) (h : NoObj w v) : Calls Tryz.prog 11 #[v, .string p] w fun e w' => e = .returned (.int .i64 1) ∧ Below w.heap.size w w' := by
  have H := Lib.hid h
  clear h
  go_enter Tryz.func11, Tryz.ntmps11
  go_wp2_with fail
  refine (oget_no v p _ H.out).mono ?_
  rintro e w' ⟨rfl, hb⟩
  have HB := Lib.hid hb
  clear hb
  unfold zeroNode
  go_wp2
  go_ret
  exact ⟨rfl, HB.out.alloc HB.out.size _⟩
theorem delete_no (v : Value) (p : ByteArray) (w : World) (h : NoObj w v) : Calls Tryz.prog 12 #[v, .string p] w fun e w' => e = .returned (.int .i64 1) ∧ Below w.heap.size w w' := by
  have H := Lib.hid h
  clear h
  go_enter Tryz.func12, Tryz.ntmps12
  go_wp2_with fail
  refine (known_no v p _ H.out).mono ?_
  rintro e w' ⟨rfl, rfl⟩
  go_wp2
  go_ret
  exact ⟨rfl, Below.refl _ _⟩
set_option maxHeartbeats 1000000 in
theorem wrong_no (v : Value) (p d : ByteArray) (w : World) (h : NoObj w v) : Calls Tryz.prog 18 #[v, .string p, okNode, .slice none 0 0, .string d] w fun e w' => e = .returned (.int .i64 1) ∧ Below w.heap.size w w' := by
  unfold okNode
  obtain ⟨q, rfl⟩ := h.ptr
  have H := Lib.hid h
  clear h
  go_enter Tryz.func18, Tryz.ntmps18
  go_wp2_with fail
  have s1 : ∀ (u : World) (o : Obj), (u.alloc o).heap.size = u.heap.size + 1 := fun u o => by simp
  have HB0 := Lib.hid ((((Below.refl w.heap.size w).alloc (Nat.le_refl _) (.cells #[.pointer q] 23)).alloc (by simp) (.cells #[.string p] 9)).alloc (by simp; omega) (.cells #[.int .i64 1, .bool false, .slice none 0 0, .slice none 0 0, .slice none 0 0] 33))
  refine (onone_any (.pointer q) _ (H.out.below HB0.out)).mono ?_
  rintro e w' ⟨rfl, rfl⟩
  go_wp2
  go_ret
  exact ⟨rfl, HB0.out⟩
theorem add_no (v : Value) (p d : ByteArray) (w : World) (h : NoObj w v) : Calls Tryz.prog 7 #[v, .string p, okNode, .slice none 0 0, .string d] w fun e w' => e = .returned (.int .i64 1) ∧ Below w.heap.size w w' := by
  unfold okNode
  obtain ⟨q, rfl⟩ := h.ptr
  have H := Lib.hid h
  clear h
  go_enter Tryz.func7, Tryz.ntmps7
  go_wp2_with fail
  have HB0 := Lib.hid ((Below.refl w.heap.size w).alloc (Nat.le_refl _) (.cells #[.int .i64 1, .bool false, .slice none 0 0, .slice none 0 0, .slice none 0 0] 33))
  have hw := wrong_no (.pointer q) p d _ (H.out.below HB0.out)
  unfold okNode at hw
  refine hw.mono ?_
  rintro e w' ⟨rfl, hb⟩
  have HB := Lib.hid (HB0.out.trans (hb.mono HB0.out.size))
  clear hb hw
  go_wp2
  go_ret
  exact ⟨rfl, HB.out⟩
theorem list_nil (w : World) : Calls Tryz.prog 10 #[.pointer none] w fun e w' => e = .returned (.slice none 0 0) ∧ Below w.heap.size w w' := by
  go_enter Tryz.func10, Tryz.ntmps10
  go_wp2
  go_ret
  exact ⟨rfl, Below.refl _ _⟩
set_option maxRecDepth 100000 in
theorem list_zero (b : Nat) (w : World) (h : w.cell? ⟨b, 1, none⟩ = some (.map none)) : Calls Tryz.prog 10 #[.pointer (some ⟨b, 0, none⟩)] w fun e w' => e = .returned (.slice none 0 0) ∧ Below w.heap.size w w' := by
  have hr := run_range_nilMap (P := Tryz.prog) w _ _ _ Tryz.underlying25
  have hn : ∀ ty, _ := fun ty => run_next_nilMap (P := Tryz.prog) w ty 0 0 #[]
  go_enter Tryz.func10, Tryz.ntmps10
  go_wp2_with fail
  refine wp_loop_rounds 1 ?_
  rw [rounds_succ]
  go_wp2_with fail
  refine (Tryz.slices_Sort_string_none none 0 _).mono ?_
  rintro e w' ⟨rfl, rfl⟩
  go_wp2
  go_ret
  exact ⟨rfl, (Below.refl _ _).alloc (Nat.le_refl _) _⟩
end Go.Proofs.YtecahdjopdfeeaaGreatDoor
