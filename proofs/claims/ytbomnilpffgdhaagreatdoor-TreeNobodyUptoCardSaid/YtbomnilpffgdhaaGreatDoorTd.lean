/- A disk of nine empty sectors: what New, Sectors, part, Read, Number, stands, Open, super tell of it. -/
import Derived.Test.YtbomnilpffgdhaaGreatDoorTm
import Derived.Laws.BytesArg
import Derived.Laws.MakeOwn
import Derived.Deep.QuietTactic
import Derived.BigQuiet
namespace Go.Proofs.YtbomnilpffgdhaaGreatDoor
open Go.RowKit
/-- eight empty bytes -/
structure Zeros (w : World) (g o n : Nat) : Prop where
  at_ : ∀ i, i < n → w.cell? ⟨g, o + i, none⟩ = some (.int .u8 0)
theorem Zeros.below {w w' : World} {g o n : Nat} (h : Zeros w g o n) (hb : Below w.heap.size w w') : Zeros w' g o n :=
  ⟨fun i hi => (hb.cell (World.block_lt_of_cell? _ _ (h.at_ i hi))).trans (h.at_ i hi)⟩
theorem or_zero64 : bits .or .u64 0 0 = 0 := by decide
set_option maxHeartbeats 1000000 in
theorem number_zero (w : World) (g o c : Nat) (h : Zeros w g o 8) :
    Calls Tryz.prog 55 #[.slice (some ⟨g, o, none⟩) 8 c] w fun e w' => e = .returned (.tuple #[.int .u64 0, .int .i64 0]) ∧ w = w' := by
  have HZ := Lib.hid h
  clear h
  go_enter Tryz.func55, Tryz.ntmps55
  go_wp2
  go_loop [4, 17] (fun v i => ∃ k : Nat, k ≤ 8 ∧ i = .int .i64 k ∧ v = .int .u64 0) (fun _ i => 8 - (intOf i).toNat)
  case atStart => exact ⟨0, Nat.zero_le _, rfl, rfl⟩
  case round =>
    obtain ⟨k, hk, rfl, rfl⟩ := hrel
    by_cases hlt : k < 8
    · have hx : w.cell? ⟨g, o + k, none⟩ = some (.int .u8 0) := HZ.out.at_ k hlt
      have ho := or_zero64
      go_wp2
      go_round
      case rel => exact ⟨k + 1, by omega, by go_num, by first | rfl | simp [or_zero64]⟩
      case measure => simp [intOf]; omega
    · go_wp2
      go_ret2
      exact ⟨rfl, rfl⟩
/-- a disk that is nil, or that no call made -/
theorem sectors_nil (w : World) : Calls Tryz.prog 20 #[.pointer none] w fun e w' => e = .returned (.int .i64 0) ∧ w = w' := by
  go_enter Tryz.func20, Tryz.ntmps20
  go_wp2
  go_ret
  exact ⟨rfl, rfl⟩
theorem sectors_none (b : Nat) (w : World) (h : w.cell? ⟨b, 1, none⟩ = some (.slice none 0 0)) : Calls Tryz.prog 20 #[.pointer (some ⟨b, 0, none⟩)] w fun e w' => e = .returned (.int .i64 0) ∧ w = w' := by
  go_enter Tryz.func20, Tryz.ntmps20
  go_wp2
  go_ret
  exact ⟨rfl, rfl⟩
/-- the disk: its bytes now are 2304 zeros -/
structure ZDisk (w : World) (D G : Nat) : Prop where
  now : w.cell? ⟨D, 1, none⟩ = some (.slice (some ⟨G, 0, none⟩) 2304 2304)
  zero : Zeros w G 0 2304
theorem ZDisk.below {w w' : World} {D G : Nat} (h : ZDisk w D G) (hb : Below w.heap.size w w') : ZDisk w' D G :=
  ⟨(hb.cell (World.block_lt_of_cell? _ _ h.now)).trans h.now, h.zero.below hb⟩
theorem sectors_nine (D G : Nat) (w : World) (h : ZDisk w D G) : Calls Tryz.prog 20 #[.pointer (some ⟨D, 0, none⟩)] w fun e w' => e = .returned (.int .i64 9) ∧ w = w' := by
  have hc := h.now
  clear h
  go_enter Tryz.func20, Tryz.ntmps20
  go_wp2
  go_ret
  exact ⟨rfl, rfl⟩
set_option maxHeartbeats 1000000 in
theorem part_any (D G : Nat) (n : Nat) (w : World) (h : ZDisk w D G) (hn : n < 9) : Calls Tryz.prog 85 #[.pointer (some ⟨D, 0, none⟩), .int .i64 n] w fun e w' => e = .returned (.tuple #[.slice (some ⟨G, n * 256, none⟩) 256 256, .int .i64 0]) ∧ w = w' := by
  have H := Lib.hid h
  clear h
  have hc := H.out.now
  go_enter Tryz.func85, Tryz.ntmps85
  go_wp2_with fail
  refine (sectors_nine D G _ H.out).mono ?_
  rintro e w' ⟨rfl, rfl⟩
  go_wp2_with fail
  refine (sectors_nine D G _ H.out).mono ?_
  rintro e w' ⟨rfl, rfl⟩
  have e1 : ((n : Int) * 256).toNat = n * 256 := by omega
  have e2 : (((n : Int) + 1) * 256).toNat = n * 256 + 256 := by omega
  go_wp2
  go_ret2
  exact ⟨rfl, rfl⟩
def ReadPost (w : World) (e : Ending) (w' : World) : Prop := ∃ g c : Nat, e = .returned (.tuple #[.slice (some ⟨g, 0, none⟩) 256 c, .int .i64 0]) ∧ 256 ≤ c ∧ c ≤ 9223372036854775807 ∧ Zeros w' g 0 256 ∧ Below w.heap.size w w'
set_option maxHeartbeats 1000000 in
theorem read_any (D G : Nat) (n : Nat) (w : World) (h : ZDisk w D G) (hn : n < 9) : Calls Tryz.prog 54 #[.pointer (some ⟨D, 0, none⟩), .int .i64 n] w (ReadPost w) := by
  have H := Lib.hid h
  clear h
  go_enter Tryz.func54, Tryz.ntmps54
  go_wp2_with fail
  refine (part_any D G n _ H.out hn).mono ?_
  rintro e w' ⟨rfl, rfl⟩
  go_wp2_with fail
  obtain ⟨xs, hx1, hx2⟩ : ∃ xs : List Int, xs.length = 256 ∧ ∀ i, xs.getD i 0 = 0 := ⟨List.replicate 256 0, List.length_replicate, fun i => by
    rw [List.getD_eq_getElem?_getD, List.getElem?_replicate]
    split <;> rfl⟩
  have HC := Lib.hid (Tryz.bytes_Clone_at ⟨G, n * 256, none⟩ 256 256 xs w hx1 (by decide) (fun i hi => by
    have h1 := H.out.zero.at_ (n * 256 + i) (by omega)
    have h2 : (⟨G, n * 256, none⟩ : Addr).add i = ⟨G, 0 + (n * 256 + i), none⟩ := by unfold Addr.add; split <;> simp_all
    rw [h2, h1, hx2]))
  refine HC.out.mono ?_
  rintro e w1 ⟨v1, rfl, ho, hne, hb⟩
  have ho2 := ho
  obtain ⟨_, ⟨_, h0⟩ | ⟨g, c, cur, rfl, _, _, hc, hcm, _⟩⟩ := ho
  · omega
  · have hz : Zeros w1 g 0 256 := ⟨fun i hi => by
      have h1 := ho2.cellAt i (by omega)
      rw [Nat.zero_add, h1, List.getElem?_map, List.getElem?_eq_getElem (by omega)]
      have h2 := hx2 i
      rw [List.getD_eq_getElem?_getD, List.getElem?_eq_getElem (by omega)] at h2
      simp only [Option.getD_some] at h2
      simp [h2]⟩
    have HZ := Lib.hid hz
    have HB := Lib.hid hb
    clear ho2 hne hb hx1 hx2 HC hz
    go_wp2
    go_ret2
    exact ⟨g, c, rfl, hc, hcm, HZ.out, HB.out⟩
theorem Zeros.part {w : World} {g o n o' n' : Nat} (h : Zeros w g o n) (h1 : o ≤ o') (h2 : o' + n' ≤ o + n) : Zeros w g o' n' :=
  ⟨fun i hi => by
    have := h.at_ (o' - o + i) (by omega)
    rwa [show o + (o' - o + i) = o' + i by omega] at this⟩
theorem conv_zeros (w : World) (g c : Nat) (h : Zeros w g 0 8) : ∃ z : ByteArray, z.toList = [0, 0, 0, 0, 0, 0, 0, 0] ∧ (convert 25 9 (.slice (some ⟨g, 0, none⟩) 8 c)).run Tryz.prog w = .ok (.string z) w := by
  refine ⟨strOfNums [0, 0, 0, 0, 0, 0, 0, 0], by decide +kernel, ?_⟩
  exact run_convert_bytes_arg w 25 5 Tryz.underlying25 Tryz.underlying5 g 0 8 c [0, 0, 0, 0, 0, 0, 0, 0] rfl (fun i hi => by
    rw [h.at_ i hi]
    have : ∀ i, i < 8 → ([0, 0, 0, 0, 0, 0, 0, 0] : List Int).getD i 0 = 0 := by decide
    rw [this i hi]) 9 Tryz.underlying9
theorem cut_mid (g c : Nat) (hc : 256 ≤ c) (W : World) : (Instr.slice 25 (.slice (some ⟨g, 0, none⟩) 256 c) (some (.int .i64 8)) (some (.int .i64 16)) none).run Tryz.prog W = .ok (.slice (some ⟨g, 8, none⟩) 8 (c - 8)) W := by
  have he : Tryz.prog.elem 25 = 5 := by kernel_rfl
  rw [run_slice_lh W 25 _ 256 c (by rw [he]; exact Tryz.underlying25) .i64 .i64 8 16 (by omega) (by omega) (by omega), he, Tryz.sizeOf5]
  have h2 : ¬ c = 8 := by omega
  simp [sliced, Addr.add, h2]
theorem cut_low (g c : Nat) (hc : 256 ≤ c) (W : World) : (Instr.slice 25 (.slice (some ⟨g, 0, none⟩) 256 c) none (some (.int .i64 8)) none).run Tryz.prog W = .ok (.slice (some ⟨g, 0, none⟩) 8 c) W := by
  have he : Tryz.prog.elem 25 = 5 := by kernel_rfl
  rw [run_slice_h W 25 _ 256 c (by rw [he]; exact Tryz.underlying25) .i64 8 (by omega) (by omega), he, Tryz.sizeOf5]
  simp [sliced, Addr.add]
set_option maxHeartbeats 1000000 in
set_option maxRecDepth 100000 in
theorem stands_no (v : Value) (g c : Nat) (w : World) (h : Zeros w g 0 256) (hc : 256 ≤ c) :
    Calls Tryz.prog 84 #[v, .slice (some ⟨g, 0, none⟩) 256 c] w fun e w' => e = .returned (.tuple #[.slice none 0 0, .bool false]) ∧ w = w' := by
  have H := Lib.hid h
  clear h
  have q1 := cut_mid g c hc
  have q2 := cut_low g c hc
  go_enter Tryz.func84, Tryz.ntmps84
  go_wp2_with fail
  go_step3
  go_wp2_with fail
  refine (number_zero _ g 8 (c - 8) (H.out.part (by omega) (by omega))).mono ?_
  rintro e w' ⟨rfl, rfl⟩
  obtain ⟨z, hz, hcv⟩ := conv_zeros w g c (H.out.part (by omega) (by omega))
  go_wp2
  rw [Exit.noGoto_ret]
  go_ret2
  exact ⟨rfl, rfl⟩
end Go.Proofs.YtbomnilpffgdhaaGreatDoor
