/- The walks of the reference's New, Read and Bytes (package stillroomref05): a list of bools. -/
import Derived.Test.YtaadbikaeofnoaaAb
namespace Go.Proofs.Ytaadbikaeofnoaa
open Go.RowKit

/-- block b is a reference's set, its bools lie in block g: n may be in it, S are -/
structure RefAt (w : World) (b g n S : Nat) : Prop where
  head : w.heap[b]? = some (.cells #[.slice (some ⟨g, 0, none⟩) n n] 59 (0, 0))
  row : w.heap[g]? = some (.cells (insc n S) 4 (0, 0))
  ne : b ≠ g
theorem RefAt.cell0 {w : World} {b g n S : Nat} (h : RefAt w b g n S) : w.cell? ⟨b, 0, none⟩ = some (.slice (some ⟨g, 0, none⟩) n n) := by
  rw [cell_of_row w b 0 _ _ _ h.head]; rfl
theorem RefAt.cell {w : World} {b g n S : Nat} (h : RefAt w b g n S) {k : Nat} (hk : k < n) : w.cell? ⟨g, k, none⟩ = some (.bool (S.testBit k)) := (cell_of_row w g k _ _ _ h.row).trans (insc_at hk)
theorem RefAt.free {w : World} {b g n S : Nat} (h : RefAt w b g n S) (j : Nat) : w.frozen? ⟨g, j, none⟩ = false := frozen_of_row w g j _ _ h.row
theorem RefAt.ltb {w : World} {b g n S : Nat} (h : RefAt w b g n S) : b < w.heap.size := (Array.getElem?_eq_some_iff.1 h.head).1
theorem RefAt.ltg {w : World} {b g n S : Nat} (h : RefAt w b g n S) : g < w.heap.size := (Array.getElem?_eq_some_iff.1 h.row).1
theorem RefAt.grown {w w' : World} {b g n S : Nat} (h : RefAt w b g n S) {r : Option Nat} (hg : w.grownBy w' r) (hb : some b ≠ r) (hr : some g ≠ r) : RefAt w' b g n S :=
  ⟨(hg.block b h.ltb hb).trans h.head, (hg.block g h.ltg hr).trans h.row, h.ne⟩
theorem RefAt.set {w : World} {b g n S S' k : Nat} {v : Bool} (h : RefAt w b g n S) (hk : k < n) (hv : v = S'.testBit k) (ho : ∀ j, j < n → j ≠ k → S'.testBit j = S.testBit j) : RefAt (w.setCell ⟨g, k, none⟩ (.bool v)) b g n S' :=
  ⟨by rw [heap_setCell_other _ _ _ _ h.ne]; exact h.head, by rw [heap_setCell_same w g k _ _ _ h.row, insc_upd hk hv ho], h.ne⟩

theorem make_bools (n : Int) (h0 : 0 ≤ n) (h1 : n ≤ 2048) (w : World) : (Instr.makeSlice 57 (.int .i64 n) (.int .i64 n)).run Try.prog w = .ok (.slice (some ⟨w.heap.size, 0, none⟩) n.toNat n.toNat) (w.alloc (.cells (insc n.toNat 0) 4)) := by
  obtain ⟨i, hi, hz, hs, hb⟩ := info_parts (show (Try.prog.info? 4).map (fun i => (i.zero, i.size, i.bytes)) = some (some (.bool false), 1, 1) by kernel_rfl)
  rw [run_make w 57 4 i _ Try.underlying57 hi hz .i64 .i64 n n (by omega) (by omega) (by rw [hb]; omega) (by omega), hs, Nat.mul_one, ← insc_made]
  rfl

set_option maxHeartbeats 400000 in
theorem rnew_bad (n : Int) (w : World) (h : n < 1 ∨ 2048 < n) : Calls Try.prog 25 #[.int .i64 n] w fun e w' => e = .returned (.tuple #[.pointer none, .int .i64 2]) ∧ w = w' := by
  rcases h with h | h
  · go_enter Try.func25, Try.ntmps25
    go_wp2
    go_ret2
    exact ⟨rfl, rfl⟩
  · have h' : ¬ n < 1 := by omega
    go_enter Try.func25, Try.ntmps25
    go_wp2
    go_ret2
    exact ⟨rfl, rfl⟩
theorem two_new (w : World) (A B : Obj) : ((w.alloc A).alloc B).heap[w.heap.size + 1]? = some B := heap_alloc2_new w A B
set_option maxHeartbeats 400000 in
theorem rnew_ok (n : Int) (w : World) (h : 1 ≤ n) (h2 : n ≤ 2048) : Calls Try.prog 25 #[.int .i64 n] w fun e w' => e = .returned (.tuple #[.pointer (some ⟨w.heap.size + 1, 0, none⟩), .int .i64 0]) ∧ w.grownBy w' none ∧ RefAt w' (w.heap.size + 1) w.heap.size n.toNat 0 := by
  have hmk := make_bools n (by omega) h2
  have H := Lib.hid (show RefAt ((w.alloc (.cells (insc n.toNat 0) 4)).alloc (.cells #[.slice (some ⟨w.heap.size, 0, none⟩) n.toNat n.toNat] 59)) (w.heap.size + 1) w.heap.size n.toNat 0 from ⟨heap_alloc2_new _ _ _, heap_alloc2_old _ _ _, by omega⟩)
  go_enter Try.func25, Try.ntmps25
  go_wp2
  go_ret2
  exact ⟨rfl, grown_trans (grown_alloc _ _) (grown_alloc _ _), H.out⟩

def RReadRel (w : World) (b g n S : Nat) (k : Int) (wr : World) : Prop := w.grownBy wr none ∧ RefAt wr b g n (S % 2 ^ k.toNat)
theorem RReadRel.skip {w wr : World} {b g n S : Nat} {k : Int} (h : RReadRel w b g n S k wr) (h0 : 0 ≤ k) (hb : S.testBit k.toNat = false) : RReadRel w b g n S (k + 1) wr := by
  refine ⟨h.1, ?_⟩
  rw [show (k + 1).toNat = k.toNat + 1 by omega, low_step_not hb]
  exact h.2
theorem RReadRel.next {w wr : World} {b g n S : Nat} {k : Int} (h : RReadRel w b g n S k wr) (hg : w.heap.size ≤ g) (h0 : 0 ≤ k) (h1 : k < n) (hb : S.testBit k.toNat = true) : RReadRel w b g n S (k + 1) (wr.setCell ⟨g, k.toNat, none⟩ (.bool true)) := by
  refine ⟨grown_set_new h.1 hg _ _, ?_⟩
  rw [show (k + 1).toNat = k.toNat + 1 by omega]
  refine h.2.set (by omega) ?_ fun j _ hj => ?_
  · rw [low_bit, hb]; simp
  · rw [low_bit, low_bit, show decide (j < k.toNat + 1) = decide (j < k.toNat) from decide_eq_decide.2 (by omega)]
/-- the test of a bit, as the walk spells it -/
theorem byte_bit {z : List Int} (hz : z.length = 256) (hx : ∀ x ∈ z, 0 ≤ x ∧ x ≤ 255) {k : Int} (h0 : 0 ≤ k) (h1 : k < 2048) {x : Int} (hxe : x = z.getD (k / 8).toNat 0) : ((x / 2 ^ (k % 8).toNat).tmod 2 == 1) = (toS z).testBit k.toNat := by
  obtain ⟨k, rfl⟩ := Int.eq_ofNat_of_zero_le h0
  have e1 : ((k : Int) / 8).toNat = k / 8 := by omega
  have e2 : ((k : Int) % 8).toNat = k % 8 := by omega
  rw [e1] at hxe
  rw [e2, Int.toNat_natCast, digit_bit, hxe, ← toS_digit z hx (k / 8) (by omega), ← two_pow_cast]
  rw [← Int.natCast_ediv, Int.tmod_eq_emod_of_nonneg (Int.natCast_nonneg _)]
  generalize dg 8 (toS z) (k / 8) / 2 ^ (k % 8) = a
  have : a % 2 = 0 ∨ a % 2 = 1 := by omega
  rw [Bool.eq_iff_iff]
  simp
  omega

set_option maxHeartbeats 400000 in
theorem rread_arg (a : Option Addr) (len cap : Nat) (n : Int) (w : World) (h : n < 1 ∨ 2048 < n) :
    Calls Try.prog 7 #[.slice a len cap, .int .i64 n] w fun e w' => e = .returned (.tuple #[.pointer none, .int .i64 2]) ∧ w = w' := by
  go_enter Try.func7, Try.ntmps7
  go_wp2_with (go_at_call 25; refine (rnew_bad _ _ h).mono ?_; rintro e w' ⟨rfl, rfl⟩)
  go_ret2
  exact ⟨rfl, rfl⟩
set_option maxHeartbeats 400000 in
theorem rread_len (a : Option Addr) (len cap : Nat) (n : Int) (w : World) (h : 1 ≤ n) (h2 : n ≤ 2048) (hl : len ≠ 256) :
    Calls Try.prog 7 #[.slice a len cap, .int .i64 n] w fun e w' => e = .returned (.tuple #[.pointer none, .int .i64 2]) ∧ w.grownBy w' none := by
  have hl' : ((len : Int) != 256) = true := by rw [bne_iff_ne]; omega
  go_enter Try.func7, Try.ntmps7
  go_wp2_with (go_at_call 25; refine (rnew_ok _ _ h h2).mono ?_; rintro e w' ⟨rfl, hg, hs⟩)
  go_ret2
  exact ⟨rfl, hg⟩
set_option maxHeartbeats 800000 in
theorem rread_any (ab off cap : Nat) (n : Int) (z : List Int) (w : World) (h : 1 ≤ n) (h2 : n ≤ 2048) (hz : Bytes256 w ab off z) :
    Calls Try.prog 7 #[.slice (some ⟨ab, off, none⟩) 256 cap, .int .i64 n] w fun e w' =>
      (toS z < 2 ^ n.toNat → e = .returned (.tuple #[.pointer (some ⟨w.heap.size + 1, 0, none⟩), .int .i64 0]) ∧ RefAt w' (w.heap.size + 1) w.heap.size n.toNat (toS z)) ∧
      (¬ toS z < 2 ^ n.toNat → e = .returned (.tuple #[.pointer none, .int .i64 10])) ∧ w.grownBy w' none := by
  have HZ := Lib.hid hz; clear hz
  go_enter Try.func7, Try.ntmps7
  go_wp2_with (go_at_call 25; refine (rnew_ok _ _ h h2).mono ?_; rintro e w1 ⟨rfl, hg, hs⟩)
  go_loopw [8, 9] (fun i _ wr => ∃ k : Int, 0 ≤ k ∧ k ≤ 2048 ∧ i = .int .i64 k ∧ RReadRel w (w.heap.size + 1) w.heap.size n.toNat (toS z) k wr ∧ Hid (∀ t : Nat, n.toNat ≤ t → t < k.toNat → (toS z).testBit t = false)) (fun i _ _ => (2048 - intOf i).toNat)
  case atStart => exact ⟨0, by omega, by omega, rfl, ⟨hg, by rw [Int.toNat_zero, Nat.pow_zero, Nat.mod_one]; exact hs⟩, Lib.hid fun t ht1 ht2 => by omega⟩
  case round =>
    obtain ⟨k, hk0, hk1, rfl, hr, hno⟩ := hrel
    clear hg hs
    by_cases hlt : k < 2048
    · obtain ⟨ha, hx0, hx1⟩ := (HZ.out.grown hr.1).at (k / 8).toNat (by omega)
      obtain ⟨x, hxe⟩ : ∃ x, x = z.getD (k / 8).toNat 0 := ⟨_, rfl⟩
      have hb := byte_bit HZ.out.1 HZ.out.2.1 hk0 hlt hxe
      rw [← hxe] at ha hx0 hx1
      clear hxe
      by_cases ht : (toS z).testBit k.toNat = true
      · rw [ht] at hb
        by_cases hn : n ≤ k
        · have HBAD : Hid (¬ toS z < 2 ^ n.toNat) := Lib.hid fun hlt2 => by
            have := Nat.testBit_lt_two_pow (Nat.lt_of_lt_of_le hlt2 (Nat.pow_le_pow_right (by omega) (show n.toNat ≤ k.toNat by omega)))
            rw [this] at ht; cases ht
          have HG := Lib.hid hr.1
          clear hr ht
          go_wp2
          go_ret2
          exact ⟨fun hlt2 => absurd hlt2 HBAD.out, fun _ => rfl, HG.out⟩
        · have hn' : k < n := by omega
          have HN := Lib.hid (hr.next (Nat.le_refl _) hk0 (by omega) ht)
          have hc0 := hr.2.cell0
          have hcc := hr.2.cell (k := k.toNat) (by omega)
          have hf := hr.2.free k.toNat
          generalize (toS z % 2 ^ k.toNat).testBit k.toNat = u at hcc
          clear hr ht hn
          go_wp2
          exact ⟨⟨k + 1, by omega, by omega, rfl, HN.out, Lib.hid fun t ht1 ht2 => by omega⟩, by simp [intOf]; omega⟩
      · have ht' : (toS z).testBit k.toNat = false := by simpa using ht
        have HN := Lib.hid (hr.skip hk0 ht')
        have HB2 := Lib.hid ht'
        rw [ht'] at hb
        clear hr ht ht'
        go_wp2
        refine ⟨⟨k + 1, by omega, by omega, rfl, HN.out, Lib.hid fun t ht1 ht2 => ?_⟩, by simp [intOf]; omega⟩
        by_cases e : t = k.toNat
        · subst e; exact HB2.out
        · exact hno.out t ht1 (by omega)
    · have HL : Hid (toS z < 2 ^ n.toNat) := Lib.hid (small_of_bits (p := 8 * 256) HZ.out.lt fun t h1 h3 => hno.out t h1 (by omega))
      have HG := Lib.hid hr.1
      have h3 := hr.2
      rw [show k.toNat = 8 * 256 by omega, low_all HZ.out.lt] at h3
      have HR := Lib.hid h3
      clear h3 hr
      go_wp2
      go_ret2
      exact ⟨fun _ => ⟨rfl, HR.out⟩, fun hbad => absurd HL.out (by omega), HG.out⟩

def RBytesRel (w : World) (c S : Nat) (k : Int) (wr : World) : Prop := w.grownBy wr none ∧ BytAt wr c (S % 2 ^ k.toNat)
theorem RBytesRel.skip {w wr : World} {c S : Nat} {k : Int} (h : RBytesRel w c S k wr) (h0 : 0 ≤ k) (hb : S.testBit k.toNat = false) : RBytesRel w c S (k + 1) wr := by
  refine ⟨h.1, ?_⟩
  rw [show (k + 1).toNat = k.toNat + 1 by omega, low_step_not hb]
  exact h.2
theorem RBytesRel.next {w wr : World} {c S : Nat} {k : Int} (h : RBytesRel w c S k wr) (hc : w.heap.size ≤ c) (h0 : 0 ≤ k) (h1 : k < 2048) (hb : S.testBit k.toNat = true) {v : Int} (hv : v = (dg 8 (S % 2 ^ k.toNat) (k / 8).toNat : Int)) :
    RBytesRel w c S (k + 1) (wr.setCell ⟨c, (k / 8).toNat, none⟩ (.int .u8 ((v + 2 ^ (k % 8).toNat) % 256))) := by
  refine ⟨grown_set_new h.1 hc _ _, ?_⟩
  rw [show (k + 1).toNat = k.toNat + 1 by omega]
  refine h.2.set (by omega) ?_ fun j _ hj => low_byte_other (by omega)
  have e1 : (k / 8).toNat = k.toNat / 8 := by omega
  have e2 : (k % 8).toNat = k.toNat % 8 := by omega
  rw [hv, e1, e2]
  have h2 := low_byte_same hb
  have h3 := dg_lt 8 (S % 2 ^ (k.toNat + 1)) (k.toNat / 8)
  rw [h2] at h3 ⊢
  rw [← two_pow_cast]
  generalize 2 ^ (k.toNat % 8) = p at h3 ⊢
  generalize dg 8 (S % 2 ^ k.toNat) (k.toNat / 8) = d at h3 ⊢
  omega
set_option maxHeartbeats 800000 in
theorem rbytes_ok (b g n S : Nat) (w : World) (hs : RefAt w b g n S) (hn : n ≤ 2048) (hS : S < 2 ^ n) :
    Calls Try.prog 10 #[.pointer (some ⟨b, 0, none⟩)] w fun e w' => e = .returned (.slice (some ⟨w.heap.size, 0, none⟩) 256 256) ∧ w.grownBy w' none ∧ BytAt w' w.heap.size S := by
  have HS := Lib.hid hs; clear hs
  have HL := Lib.hid hS; clear hS
  have hmk := make_bytes
  have H0 := Lib.hid (show RBytesRel w w.heap.size S 0 (w.alloc (.cells (bytc 0) 5)) from ⟨grown_alloc _ _, by show _ = _; rw [Int.toNat_zero, Nat.pow_zero, Nat.mod_one]; exact heap_alloc_new _ _⟩)
  go_enter Try.func10, Try.ntmps10
  go_wp2
  clear hmk
  go_loopw [4] (fun i wr => ∃ k : Int, 0 ≤ k ∧ k ≤ n ∧ i = .int .i64 k ∧ RBytesRel w w.heap.size S k wr) (fun i _ => (2048 - intOf i).toNat)
  case atStart => exact ⟨0, by omega, by omega, rfl, H0.out⟩
  case round =>
    obtain ⟨k, hk0, hk1, rfl, hr⟩ := hrel
    have hR := HS.out.grown hr.1 (by simp) (by simp)
    have hc0 := hR.cell0
    by_cases hlt : k < n
    · have hcc := hR.cell (k := k.toNat) (by omega)
      by_cases ht : S.testBit k.toNat = true
      · obtain ⟨v, hve⟩ : ∃ v, v = (dg 8 (S % 2 ^ k.toNat) (k / 8).toNat : Int) := ⟨_, rfl⟩
        have HN := Lib.hid (hr.next (Nat.le_refl _) hk0 (by omega) ht hve)
        have hv := hr.2.cell (k := (k / 8).toNat) (by omega)
        have hf := hr.2.free (k / 8).toNat
        rw [← hve] at hv
        rw [ht] at hcc
        clear hve hr ht hR
        go_wp2
        exact ⟨⟨k + 1, by omega, by omega, rfl, HN.out⟩, by simp [intOf]; omega⟩
      · have ht' : S.testBit k.toNat = false := by simpa using ht
        have HN := Lib.hid (hr.skip hk0 ht')
        rw [ht'] at hcc
        clear hr ht ht' hR
        go_wp2
        exact ⟨⟨k + 1, by omega, by omega, rfl, HN.out⟩, by simp [intOf]; omega⟩
    · have hS2 : BytAt wr w.heap.size S := by
        have := hr.2
        rwa [show k.toNat = n by omega, low_all HL.out] at this
      have HR := Lib.hid hS2
      have HG := Lib.hid hr.1
      clear hS2 hr hR
      go_wp2
      go_ret
      exact ⟨rfl, HG.out, HR.out⟩
end Go.Proofs.Ytaadbikaeofnoaa
