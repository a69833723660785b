/- The walks of the reference's New and Bytes (package stillroomref05): a list of bools. -/
import Derived.Test.YtaadbikaeofnoaaDoorAb
namespace Go.Proofs.YtaadbikaeofnoaaDoor
open Go.RowKit

/-- block b is a reference's set, its bools lie in block g: n may be in it, S are -/
structure RefAt (w : World) (b g n S : Nat) : Prop where
  head : w.heap[b]? = some (.cells #[.slice (some ⟨g, 0, none⟩) n n] 54 (0, 0))
  row : w.heap[g]? = some (.cells (insc n S) 4 (0, 0))
  ne : b ≠ g
theorem RefAt.cell0 {w : World} {b g n S : Nat} (h : RefAt w b g n S) : w.cell? ⟨b, 0, none⟩ = some (.slice (some ⟨g, 0, none⟩) n n) := by
  rw [cell_of_row w b 0 _ _ _ h.head]; rfl
theorem RefAt.cell {w : World} {b g n S : Nat} (h : RefAt w b g n S) {k : Nat} (hk : k < n) : w.cell? ⟨g, k, none⟩ = some (.bool (S.testBit k)) := (cell_of_row w g k _ _ _ h.row).trans (insc_at hk)
theorem RefAt.free {w : World} {b g n S : Nat} (h : RefAt w b g n S) (j : Nat) : w.frozen? ⟨g, j, none⟩ = false := frozen_of_row w g j _ _ h.row
theorem RefAt.ltb {w : World} {b g n S : Nat} (h : RefAt w b g n S) : b < w.heap.size := (Array.getElem?_eq_some_iff.1 h.head).1
theorem RefAt.ltg {w : World} {b g n S : Nat} (h : RefAt w b g n S) : g < w.heap.size := (Array.getElem?_eq_some_iff.1 h.row).1
theorem RefAt.grown {w w' : World} {b g n S : Nat} (h : RefAt w b g n S) {r : Option Nat} (hg : w.grownBy w' r) (hb : some b ≠ r) (hr : some g ≠ r) : RefAt w' b g n S :=
  ⟨(hg.block b h.ltb hb).trans h.head, (hg.block g h.ltg hr).trans h.row, h.ne⟩
theorem RefAt.set {w : World} {b g n S S' k : Nat} {v : Bool} (h : RefAt w b g n S) (hk : k < n) (hv : v = S'.testBit k) (ho : ∀ j, j < n → j ≠ k → S'.testBit j = S.testBit j) : RefAt (w.setCell ⟨g, k, none⟩ (.bool v)) b g n S' :=
  ⟨by rw [heap_setCell_other _ _ _ _ h.ne]; exact h.head, by rw [heap_setCell_same w g k _ _ _ h.row, insc_upd hk hv ho], h.ne⟩

theorem make_bools (n : Int) (h0 : 0 ≤ n) (h1 : n ≤ 2048) (w : World) : (Instr.makeSlice 27 (.int .i64 n) (.int .i64 n)).run Tryd.prog w = .ok (.slice (some ⟨w.heap.size, 0, none⟩) n.toNat n.toNat) (w.alloc (.cells (insc n.toNat 0) 4)) := by
  obtain ⟨i, hi, hz, hs, hb⟩ := info_parts (show (Tryd.prog.info? 4).map (fun i => (i.zero, i.size, i.bytes)) = some (some (.bool false), 1, 1) by kernel_rfl)
  rw [run_make w 27 4 i _ Tryd.underlying27 hi hz .i64 .i64 n n (by omega) (by omega) (by rw [hb]; omega) (by omega), hs, Nat.mul_one, ← insc_made]
  rfl

set_option maxHeartbeats 400000 in
theorem rnew_bad (n : Int) (w : World) (h : n < 1 ∨ 2048 < n) : Calls Tryd.prog 15 #[.int .i64 n] w fun e w' => e = .returned (.tuple #[.pointer none, .int .i64 2]) ∧ w = w' := by
  rcases h with h | h
  · go_enter Tryd.func15, Tryd.ntmps15
    go_wp2
    go_ret2
    exact ⟨rfl, rfl⟩
  · have h' : ¬ n < 1 := by omega
    go_enter Tryd.func15, Tryd.ntmps15
    go_wp2
    go_ret2
    exact ⟨rfl, rfl⟩
theorem two_new (w : World) (A B : Obj) : ((w.alloc A).alloc B).heap[w.heap.size + 1]? = some B := heap_alloc2_new w A B
set_option maxHeartbeats 400000 in
theorem rnew_ok (n : Int) (w : World) (h : 1 ≤ n) (h2 : n ≤ 2048) : Calls Tryd.prog 15 #[.int .i64 n] w fun e w' => e = .returned (.tuple #[.pointer (some ⟨w.heap.size + 1, 0, none⟩), .int .i64 0]) ∧ w.grownBy w' none ∧ RefAt w' (w.heap.size + 1) w.heap.size n.toNat 0 := by
  have hmk := make_bools n (by omega) h2
  have H := Lib.hid (show RefAt ((w.alloc (.cells (insc n.toNat 0) 4)).alloc (.cells #[.slice (some ⟨w.heap.size, 0, none⟩) n.toNat n.toNat] 54)) (w.heap.size + 1) w.heap.size n.toNat 0 from ⟨heap_alloc2_new _ _ _, heap_alloc2_old _ _ _, by omega⟩)
  go_enter Tryd.func15, Tryd.ntmps15
  go_wp2
  go_ret2
  exact ⟨rfl, grown_trans (grown_alloc _ _) (grown_alloc _ _), H.out⟩

def RBytesRel (w : World) (c S : Nat) (k : Int) (wr : World) : Prop := w.grownBy wr none ∧ BytAt wr c (S % 2 ^ k.toNat)
theorem RBytesRel.skip {w wr : World} {c S : Nat} {k : Int} (h : RBytesRel w c S k wr) (h0 : 0 ≤ k) (hb : S.testBit k.toNat = false) : RBytesRel w c S (k + 1) wr := by
  refine ⟨h.1, ?_⟩
  rw [show (k + 1).toNat = k.toNat + 1 by omega, low_step_not hb]
  exact h.2
theorem RBytesRel.next {w wr : World} {c S : Nat} {k : Int} (h : RBytesRel w c S k wr) (hc : w.heap.size ≤ c) (h0 : 0 ≤ k) (h1 : k < 2048) (hb : S.testBit k.toNat = true) {v : Int} (hv : v = (dg 8 (S % 2 ^ k.toNat) (k / 8).toNat : Int)) :
    RBytesRel w c S (k + 1) (wr.setCell ⟨c, (k / 8).toNat, none⟩ (.int .u8 ((v + 2 ^ (k % 8).toNat) % 256))) := by
  refine ⟨grown_set_new h.1 hc _ _, ?_⟩
  rw [show (k + 1).toNat = k.toNat + 1 by omega]
  refine h.2.set (by omega) ?_ fun j _ hj => low_byte_other (by omega)
  have e1 : (k / 8).toNat = k.toNat / 8 := by omega
  have e2 : (k % 8).toNat = k.toNat % 8 := by omega
  rw [hv, e1, e2]
  have h2 := low_byte_same hb
  have h3 := dg_lt 8 (S % 2 ^ (k.toNat + 1)) (k.toNat / 8)
  rw [h2] at h3 ⊢
  rw [← two_pow_cast]
  generalize 2 ^ (k.toNat % 8) = p at h3 ⊢
  generalize dg 8 (S % 2 ^ k.toNat) (k.toNat / 8) = d at h3 ⊢
  omega
set_option maxHeartbeats 800000 in
theorem rbytes_ok (b g n S : Nat) (w : World) (hs : RefAt w b g n S) (hn : n ≤ 2048) (hS : S < 2 ^ n) :
    Calls Tryd.prog 20 #[.pointer (some ⟨b, 0, none⟩)] w fun e w' => e = .returned (.slice (some ⟨w.heap.size, 0, none⟩) 256 256) ∧ w.grownBy w' none ∧ BytAt w' w.heap.size S := by
  have HS := Lib.hid hs; clear hs
  have HL := Lib.hid hS; clear hS
  have hmk := make_bytes
  have H0 := Lib.hid (show RBytesRel w w.heap.size S 0 (w.alloc (.cells (bytc 0) 5)) from ⟨grown_alloc _ _, by show _ = _; rw [Int.toNat_zero, Nat.pow_zero, Nat.mod_one]; exact heap_alloc_new _ _⟩)
  go_enter Tryd.func20, Tryd.ntmps20
  go_wp2
  clear hmk
  go_loopw [4] (fun i wr => ∃ k : Int, 0 ≤ k ∧ k ≤ n ∧ i = .int .i64 k ∧ RBytesRel w w.heap.size S k wr) (fun i _ => (2048 - intOf i).toNat)
  case atStart => exact ⟨0, by omega, by omega, rfl, H0.out⟩
  case round =>
    obtain ⟨k, hk0, hk1, rfl, hr⟩ := hrel
    have hR := HS.out.grown hr.1 (by simp) (by simp)
    have hc0 := hR.cell0
    by_cases hlt : k < n
    · have hcc := hR.cell (k := k.toNat) (by omega)
      by_cases ht : S.testBit k.toNat = true
      · obtain ⟨v, hve⟩ : ∃ v, v = (dg 8 (S % 2 ^ k.toNat) (k / 8).toNat : Int) := ⟨_, rfl⟩
        have HN := Lib.hid (hr.next (Nat.le_refl _) hk0 (by omega) ht hve)
        have hv := hr.2.cell (k := (k / 8).toNat) (by omega)
        have hf := hr.2.free (k / 8).toNat
        rw [← hve] at hv
        rw [ht] at hcc
        clear hve hr ht hR
        go_wp2
        exact ⟨⟨k + 1, by omega, by omega, rfl, HN.out⟩, by simp [intOf]; omega⟩
      · have ht' : S.testBit k.toNat = false := by simpa using ht
        have HN := Lib.hid (hr.skip hk0 ht')
        rw [ht'] at hcc
        clear hr ht ht' hR
        go_wp2
        exact ⟨⟨k + 1, by omega, by omega, rfl, HN.out⟩, by simp [intOf]; omega⟩
    · have hS2 : BytAt wr w.heap.size S := by
        have := hr.2
        rwa [show k.toNat = n by omega, low_all HL.out] at this
      have HR := Lib.hid hS2
      have HG := Lib.hid hr.1
      clear hS2 hr hR
      go_wp2
      go_ret
      exact ⟨rfl, HG.out, HR.out⟩
end Go.Proofs.YtaadbikaeofnoaaDoor
