/- The walks of (*alloc.Set).Bytes and of the reference's New, Read, Bytes: the reference keeps bools; what both tell are the same 256 bytes. -/
import Derived.Test.YtaadbikaeofnoaaDoorAr
namespace Go.Proofs.YtaadbikaeofnoaaDoor
open Go.RowKit

/-- block b holds 256 bytes, those of S -/
def BytAt (w : World) (b S : Nat) : Prop := w.heap[b]? = some (.cells (bytc S) 5 (0, 0))
theorem BytAt.cell {w : World} {b S : Nat} (h : BytAt w b S) {k : Nat} (hk : k < 256) : w.cell? ⟨b, k, none⟩ = some (.int .u8 (dg 8 S k)) := (cell_of_row w b k _ _ _ h).trans (bytc_at S hk)
theorem BytAt.free {w : World} {b S : Nat} (h : BytAt w b S) (j : Nat) : w.frozen? ⟨b, j, none⟩ = false := frozen_of_row w b j _ _ h
theorem BytAt.lt {w : World} {b S : Nat} (h : BytAt w b S) : b < w.heap.size := (Array.getElem?_eq_some_iff.1 h).1
theorem BytAt.grown {w w' : World} {b S : Nat} (h : BytAt w b S) {r : Option Nat} (hg : w.grownBy w' r) (hr : some b ≠ r) : BytAt w' b S := (hg.block b h.lt hr).trans h
theorem BytAt.set {w : World} {b S S' k : Nat} {v : Int} (h : BytAt w b S) (hk : k < 256) (hv : v = (dg 8 S' k : Int)) (ho : ∀ j, j < 256 → j ≠ k → dg 8 S' j = dg 8 S j) : BytAt (w.setCell ⟨b, k, none⟩ (.int .u8 v)) b S' := by
  unfold BytAt
  rw [heap_setCell_same w b k _ _ _ h, bytc_upd hk hv ho]
/-- the string of such a block -/
theorem BytAt.text {w : World} {b S : Nat} (h : BytAt w b S) (cap : Nat) : (convert 40 9 (.slice (some ⟨b, 0, none⟩) 256 cap)).run Tryd.prog w = .ok (.string (strOfNums (bytl S))) w :=
  run_convert_bytes_arg w 40 5 Tryd.underlying40 Tryd.underlying5 b 0 256 cap (bytl S) (bytl_length S) (fun i hi => by rw [bytl_getD S i hi, Nat.zero_add]; exact h.cell hi) 9 Tryd.underlying9
theorem make_bytes (w : World) : (Instr.makeSlice 40 (.int .i64 256) (.int .i64 256)).run Tryd.prog w = .ok (.slice (some ⟨w.heap.size, 0, none⟩) 256 256) (w.alloc (.cells (bytc 0) 5)) := by
  obtain ⟨i, hi, hz, hs, hb⟩ := info_parts (show (Tryd.prog.info? 5).map (fun i => (i.zero, i.size, i.bytes)) = some (some (.int .u8 0), 1, 1) by kernel_rfl)
  rw [run_make w 40 5 i _ Tryd.underlying40 hi hz .i64 .i64 256 256 (by omega) (by omega) (by rw [hb]; omega) (by omega), hs]
  show _ = Result.ok _ (w.alloc (.cells (bytc 0) 5))
  rw [← bytc_made]
  rfl
theorem new_at (w : World) (o : Obj) : w.heap.size < (w.alloc o).heap.size := by show w.heap.size < (w.heap.push _).size; simp

def BytesRel (w : World) (c S : Nat) (k : Int) (wr : World) : Prop := w.grownBy wr none ∧ BytAt wr c (S % 2 ^ (8 * k.toNat))
theorem byte_step (S : Nat) (k : Nat) : IntKind.u8.wrap (wd S (k / 8) / 2 ^ (8 * (k % 8))) = (dg 8 (S % 2 ^ (8 * (k + 1))) k : Int) := by
  rw [low8_same, ← word_byte, IntKind.wrap_u8]
  unfold wd
  rw [← two_pow_cast, Int.natCast_emod, Int.natCast_ediv]
  rfl
theorem BytesRel.next {w wr : World} {c S : Nat} {k : Int} (h : BytesRel w c S k wr) (hc : w.heap.size ≤ c) (h0 : 0 ≤ k) (h1 : k < 256) {v : Int} (hv : v = wd S (k / 8).toNat) :
    BytesRel w c S (k + 1) (wr.setCell ⟨c, k.toNat, none⟩ (.int .u8 (IntKind.u8.wrap (v / 2 ^ (8 * (k % 8)).toNat)))) := by
  obtain ⟨k, rfl⟩ := Int.eq_ofNat_of_zero_le h0
  have e1 : ((k : Int) / 8).toNat = k / 8 := by omega
  have e2 : (8 * ((k : Int) % 8)).toNat = 8 * (k % 8) := by omega
  have e3 : ((k : Int) + 1).toNat = k + 1 := by omega
  rw [e1] at hv
  subst hv
  have hs := h.2
  rw [Int.toNat_natCast] at hs
  rw [e2, Int.toNat_natCast]
  refine ⟨grown_set_new h.1 hc _ _, ?_⟩
  rw [e3]
  exact hs.set (by omega) (byte_step S k) fun j _ hj => low8_other hj
set_option maxHeartbeats 800000 in
theorem bytes_ok (b : Nat) (n : Int) (S : Nat) (w : World) (hs : SetAt w b n S) (hn : 1 ≤ n) (hS : S < 2 ^ (8 * 256)) :
    Calls Tryd.prog 12 #[.pointer (some ⟨b, 0, none⟩)] w fun e w' => e = .returned (.slice (some ⟨w.heap.size, 0, none⟩) 256 256) ∧ w.grownBy w' none ∧ BytAt w' w.heap.size S := by
  have hc := hs.head
  have hbl := hs.lt
  have HS := Lib.hid hs; clear hs
  have HL := Lib.hid hS; clear hS
  have hmk := make_bytes
  have H0 := Lib.hid (show BytesRel w w.heap.size S 0 (w.alloc (.cells (bytc 0) 5)) from ⟨grown_alloc _ _, by show _ = _; rw [Int.toNat_zero, Nat.mul_zero, Nat.pow_zero, Nat.mod_one]; exact heap_alloc_new _ _⟩)
  go_enter Tryd.func12, Tryd.ntmps12
  go_wp2_with (go_at_call 22; refine (none_no _ _ _ hc hn).mono ?_; rintro e w' ⟨rfl, rfl⟩)
  clear hmk
  go_loopw [4, 10] (fun _ i wr => ∃ k : Int, 0 ≤ k ∧ k ≤ 256 ∧ i = .int .i64 k ∧ BytesRel w w.heap.size S k wr) (fun _ i _ => (256 - intOf i).toNat)
  case atStart => exact ⟨0, by omega, by omega, rfl, H0.out⟩
  case round =>
    obtain ⟨k, hk0, hk1, rfl, hr⟩ := hrel
    clear hc
    by_cases hlt : k < 256
    · obtain ⟨v, hve⟩ : ∃ v, v = wd S (k / 8).toNat := ⟨_, rfl⟩
      have HN := Lib.hid (hr.next (Nat.le_refl _) hk0 hlt hve)
      have hv := (HS.out.grown hr.1 (by simp)).word (k := (k / 8).toNat) (by omega)
      have v0 := wd_nonneg S (k / 8).toNat
      have hcc := hr.2.cell (k := k.toNat) (by omega)
      have hf := hr.2.free k.toNat
      rw [← hve] at hv v0
      generalize dg 8 (S % 2 ^ (8 * k.toNat)) k.toNat = u at hcc
      clear hve hr
      go_wp2
      exact ⟨⟨k + 1, by omega, by omega, rfl, HN.out⟩, by simp [intOf]; omega⟩
    · have hS2 : BytAt wr w.heap.size S := by
        have := hr.2
        rwa [show k.toNat = 256 by omega, low_all HL.out] at this
      have HR := Lib.hid hS2
      have HG := Lib.hid hr.1
      clear hS2 hr
      go_wp2
      go_ret
      exact ⟨rfl, HG.out, HR.out⟩
end Go.Proofs.YtaadbikaeofnoaaDoor
