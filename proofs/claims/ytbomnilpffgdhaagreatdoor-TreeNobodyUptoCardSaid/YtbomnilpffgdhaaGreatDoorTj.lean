/- A journal over a disk of nine empty sectors, a tree over it: Open, super, open, Mount, Format, New. -/
import Derived.Test.YtbomnilpffgdhaaGreatDoorTd
import Derived.RegionTactic
import Derived.ChangeAlike
namespace Go.Proofs.YtbomnilpffgdhaaGreatDoor
open Go.RowKit
def OpenPost (w : World) (e : Ending) (w' : World) : Prop := ∃ J : Nat, e = .returned (.tuple #[.pointer (some ⟨J, 0, none⟩), .int .i64 0]) ∧ Below w.heap.size w w'
set_option maxHeartbeats 1000000 in
theorem wopen_no (D G : Nat) (w : World) (h : ZDisk w D G) : Calls Tryz.prog 53 #[.pointer (some ⟨D, 0, none⟩), .int .i64 0, .int .i64 4] w (OpenPost w) := by
  have H := Lib.hid h
  clear h
  have hmm := @run_makeMap Tryz.prog
  go_enter Tryz.func53, Tryz.ntmps53
  go_wp2_with fail
  refine (sectors_nine D G _ H.out).mono ?_
  rintro e w' ⟨rfl, rfl⟩
  go_wp2_with fail
  refine (sectors_nine D G _ H.out).mono ?_
  rintro e w' ⟨rfl, rfl⟩
  go_wp2_with fail
  have HB0 := Lib.hid (((Below.refl w.heap.size w).alloc (Nat.le_refl _) (.map #[] 0)).alloc (by simp) (.cells #[.pointer (some ⟨D, 0, none⟩), .int .i64 0, .int .i64 4, .map (some w.heap.size)] 139))
  refine (read_any D G 0 _ (H.out.below HB0.out) (by omega)).mono ?_
  rintro e w1 ⟨g, c, rfl, hc, hcm, hz, hb⟩
  have HZ := Lib.hid hz
  have HB := Lib.hid (HB0.out.trans (hb.mono (by simp; omega)))
  clear hz hb HB0
  go_wp2_with fail
  refine (stands_no _ g c _ HZ.out hc).mono ?_
  rintro e w' ⟨rfl, rfl⟩
  go_wp2
  go_ret2
  exact ⟨_, rfl, HB.out⟩
set_option maxHeartbeats 1000000 in
theorem super_no (T D G : Nat) (w : World) (h : ZDisk w D G) (ht : w.cell? ⟨T, 0, none⟩ = some (.pointer (some ⟨D, 0, none⟩))) : Calls Tryz.prog 31 #[.pointer (some ⟨T, 0, none⟩)] w fun e w' => e = .returned (.tuple #[.int .i64 0, .bool false]) ∧ Below w.heap.size w w' := by
  have H := Lib.hid h
  clear h
  go_enter Tryz.func31, Tryz.ntmps31
  go_wp2_with fail
  refine (read_any D G 4 _ H.out (by omega)).mono ?_
  rintro e w1 ⟨g, c, rfl, hc, hcm, hz, hb⟩
  have HZ := Lib.hid hz
  have HB := Lib.hid hb
  have q1 := cut_mid g c hc
  have q2 := cut_low g c hc
  clear hz hb
  go_wp2_with fail
  refine (number_zero _ g 8 (c - 8) (HZ.out.part (by omega) (by omega))).mono ?_
  rintro e w' ⟨rfl, rfl⟩
  obtain ⟨z, hz, hcv⟩ := conv_zeros w1 g c (HZ.out.part (by omega) (by omega))
  go_wp2
  go_ret2
  exact ⟨rfl, HB.out⟩
theorem byte_info : (Tryz.prog.info? 5).map (fun i => (i.zero, i.size, i.bytes)) = some (some (.int .u8 0), 1, 1) := by kernel_rfl
theorem zeros_block : ∃ Z : Array Value, (∀ i, i < 2304 → Z[i]? = some (.int .u8 0)) ∧ ∀ W : World, (Instr.makeSlice 25 (.int .i64 2304) (.int .i64 2304)).run Tryz.prog W = .ok (.slice (some ⟨W.heap.size, 0, none⟩) 2304 2304) (W.alloc (.cells Z 5)) := by
  obtain ⟨i0, hi, hz0, hz1, hz2⟩ := info_parts byte_info
  refine ⟨madeCells #[.int .u8 0] 2304, fun i hi => ?_, fun W => ?_⟩
  · have : i % 1 = 0 := Nat.mod_one i
    simp [madeCells, hi, this]
  · have h := run_make (P := Tryz.prog) W 25 5 i0 (.int .u8 0) Tryz.underlying25 hi hz0 .i64 .i64 2304 2304 (by omega) (by omega) (by rw [hz2]; omega) (by omega)
    rw [h, hz1]
    rfl
theorem three_alloc (w : World) (a b c : Obj) : (((w.alloc a).alloc b).alloc c).heap[w.heap.size]? = some a ∧ (((w.alloc a).alloc b).alloc c).heap[w.heap.size + 1]? = some b ∧ (((w.alloc a).alloc b).alloc c).heap[w.heap.size + 1 + 1]? = some c := by
  have s1 : (w.alloc a).heap.size = w.heap.size + 1 := by simp
  have s2 : ((w.alloc a).alloc b).heap.size = w.heap.size + 1 + 1 := by simp
  refine ⟨?_, ?_, ?_⟩
  · rw [Below.heap_alloc _ _ _ (by rw [s2]; omega), Below.heap_alloc _ _ _ (by rw [s1]; omega)]
    exact heap_alloc_new w a
  · rw [Below.heap_alloc _ _ _ (by rw [s2]; omega)]
    have := heap_alloc_new (w.alloc a) b
    rwa [s1] at this
  · have := heap_alloc_new ((w.alloc a).alloc b) c
    rwa [s2] at this
def NewPost (w : World) (e : Ending) (w' : World) : Prop := ∃ D G : Nat, e = .returned (.tuple #[.pointer (some ⟨D, 0, none⟩), .int .i64 0]) ∧ ZDisk w' D G ∧ Below w.heap.size w w'
theorem new_disk (Z : Array Value) (hZ : ∀ i, i < 2304 → Z[i]? = some (.int .u8 0)) (D G : Nat) (v u x : Value) (w' : World) (hz : w'.heap[G]? = some (.cells Z 5)) (hd : w'.heap[D]? = some (.cells #[v, .slice (some ⟨G, 0, none⟩) 2304 2304, u, x] 47)) : ZDisk w' D G :=
  ⟨by rw [cell_of_row _ _ 1 _ _ _ hd]; rfl, ⟨fun i hi => by rw [Nat.zero_add, cell_of_row _ _ i _ _ _ hz, hZ i hi]⟩⟩
set_option maxHeartbeats 1000000 in
theorem new_nine (w : World) : Calls Tryz.prog 14 #[.int .i64 9] w (NewPost w) := by
  obtain ⟨Z, hZ, hmk⟩ := zeros_block
  have HZ := Lib.hid hZ
  clear hZ
  go_enter Tryz.func14, Tryz.ntmps14
  go_wp2
  go_region
  · go_wp2
    go_ret2
    have h3 := three_alloc w (.cells Z 5) (.cells Z 5) (.cells #[.slice (some ⟨w.heap.size, 0, none⟩) 2304 2304, .slice (some ⟨w.heap.size + 1, 0, none⟩) 2304 2304, .slice none 0 0, .slice none 0 0] 47)
    exact ⟨_, _, rfl, new_disk Z HZ.out _ (w.heap.size + 1) _ _ _ _ h3.2.1 h3.2.2, by go_grown⟩
  · go_wp2
    go_ret2
    have h3 := three_alloc w (.cells Z 5) (.cells Z 5) (.cells #[.slice (some ⟨w.heap.size + 1, 0, none⟩) 2304 2304, .slice (some ⟨w.heap.size, 0, none⟩) 2304 2304, .slice none 0 0, .slice none 0 0] 47)
    exact ⟨_, _, rfl, new_disk Z HZ.out _ w.heap.size _ _ _ _ h3.1 h3.2.2, by go_grown⟩
/-- open: no disk, a disk that no call made, the disk of nine sectors -/
theorem topen_nil (w : World) : Calls Tryz.prog 29 #[.pointer none] w fun e w' => e = .returned (.tuple #[.pointer none, .int .i64 1]) ∧ w = w' := by
  go_enter Tryz.func29, Tryz.ntmps29
  go_wp2_with fail
  refine (sectors_nil _).mono ?_
  rintro e w' ⟨rfl, rfl⟩
  go_wp2
  go_ret2
  exact ⟨rfl, rfl⟩
theorem topen_none (b : Nat) (w : World) (h : w.cell? ⟨b, 1, none⟩ = some (.slice none 0 0)) : Calls Tryz.prog 29 #[.pointer (some ⟨b, 0, none⟩)] w fun e w' => e = .returned (.tuple #[.pointer none, .int .i64 1]) ∧ w = w' := by
  go_enter Tryz.func29, Tryz.ntmps29
  go_wp2_with fail
  refine (sectors_none b _ h).mono ?_
  rintro e w' ⟨rfl, rfl⟩
  go_wp2
  go_ret2
  exact ⟨rfl, rfl⟩
def TOpenPost (D : Nat) (w : World) (e : Ending) (w' : World) : Prop := ∃ T : Nat, e = .returned (.tuple #[.pointer (some ⟨T, 0, none⟩), .int .i64 0]) ∧ w'.cell? ⟨T, 0, none⟩ = some (.pointer (some ⟨D, 0, none⟩)) ∧ Below w.heap.size w w'
set_option maxHeartbeats 1000000 in
theorem topen_nine (D G : Nat) (w : World) (h : ZDisk w D G) : Calls Tryz.prog 29 #[.pointer (some ⟨D, 0, none⟩)] w (TOpenPost D w) := by
  have H := Lib.hid h
  clear h
  go_enter Tryz.func29, Tryz.ntmps29
  go_wp2_with fail
  refine (sectors_nine D G _ H.out).mono ?_
  rintro e w' ⟨rfl, rfl⟩
  go_wp2_with fail
  refine (sectors_nine D G _ H.out).mono ?_
  rintro e w' ⟨rfl, rfl⟩
  go_wp2_with fail
  refine (wopen_no D G _ H.out).mono ?_
  rintro e w1 ⟨J, rfl, hb⟩
  have HB := Lib.hid hb
  clear hb
  go_wp2
  go_ret2
  exact ⟨_, rfl, by rw [cell_of_row _ _ 0 _ _ _ (heap_alloc_new w1 _)]; rfl, HB.out.alloc HB.out.size _⟩
/-- Mount and Format -/
theorem format_nil (w : World) : Calls Tryz.prog 12 #[.pointer none] w fun e w' => e = .returned (.tuple #[.pointer none, .int .i64 1]) ∧ w = w' := by
  go_enter Tryz.func12, Tryz.ntmps12
  go_wp2_with fail
  refine (topen_nil _).mono ?_
  rintro e w' ⟨rfl, rfl⟩
  go_wp2
  go_ret2
  exact ⟨rfl, rfl⟩
theorem mount_none (b : Nat) (w : World) (h : w.cell? ⟨b, 1, none⟩ = some (.slice none 0 0)) : Calls Tryz.prog 13 #[.pointer (some ⟨b, 0, none⟩)] w fun e w' => e = .returned (.tuple #[.pointer none, .int .i64 1]) ∧ w = w' := by
  go_enter Tryz.func13, Tryz.ntmps13
  go_wp2_with fail
  refine (topen_none b _ h).mono ?_
  rintro e w' ⟨rfl, rfl⟩
  go_wp2
  go_ret2
  exact ⟨rfl, rfl⟩
set_option maxHeartbeats 1000000 in
theorem mount_nine (D G : Nat) (w : World) (h : ZDisk w D G) : Calls Tryz.prog 13 #[.pointer (some ⟨D, 0, none⟩)] w fun e w' => e = .returned (.tuple #[.pointer none, .int .i64 10]) ∧ Below w.heap.size w w' := by
  have H := Lib.hid h
  clear h
  go_enter Tryz.func13, Tryz.ntmps13
  go_wp2_with fail
  refine (topen_nine D G _ H.out).mono ?_
  rintro e w1 ⟨T, rfl, ht, hb⟩
  have HB := Lib.hid hb
  have HT := Lib.hid ht
  clear hb ht
  go_wp2_with fail
  refine (super_no T D G _ (H.out.below HB.out) HT.out).mono ?_
  rintro e w2 ⟨rfl, hb2⟩
  have HB2 := Lib.hid (HB.out.trans (hb2.mono HB.out.size))
  clear hb2
  go_wp2
  go_ret2
  exact ⟨rfl, HB2.out⟩
end Go.Proofs.YtbomnilpffgdhaaGreatDoor
