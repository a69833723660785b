/- ref02.Short and ref09.Make: some text. -/
import Derived.Test.YtecahdjopdfeeaaGreatDoorOe
import Derived.Test.YtecahdjopdfeeaaGreatDoorQObjectNobodyx2
namespace Go.Proofs.YtecahdjopdfeeaaGreatDoor
set_option linter.unusedVariables false
set_option linter.unusedSimpArgs false
open Go.RowKit QObjectNobody Go.Proofs.YtecahdjopdfeeaaGreatDoorW.PrintWords Go.Proofs.YtecahdjopdfeeaaGreatDoorW.PrintLast Go.Proofs.YtecahdjopdfeeaaGreatDoorW.PrintMore
theorem xor8 (a b : Int) (h1 : 0 ≤ a ∧ a ≤ 255) (h2 : 0 ≤ b ∧ b ≤ 255) : 0 ≤ bits .xor .u8 a b ∧ bits .xor .u8 a b ≤ 255 := by
  rw [u8_xor a b h1.1 (by omega) h2.1 (by omega)]
  have := Nat.xor_lt_two_pow (n := 8) (show a.toNat < 2 ^ 8 by omega) (show b.toNat < 2 ^ 8 by omega)
  omega
theorem brow_byts {w : World} {b T n : Nat} {f : Nat → Int} (h : BRow w b T n f) (hf : ∀ j, 0 ≤ f j ∧ f j ≤ 255) : Byts w b 0 n ((List.range n).map f) := by
  have hg : ∀ i, i < n → ((List.range n).map f).getD i 0 = f i := fun i hi => by simp [List.getD_eq_getElem?_getD, hi]
  have hg' : ∀ i, ¬ i < n → ((List.range n).map f).getD i 0 = 0 := fun i hi => by simp [List.getD_eq_getElem?_getD, hi]
  refine ⟨by simp, fun i hi => ?_, fun i => ?_, fun i => ?_⟩
  · rw [Nat.zero_add, hg i hi]; exact h.cell hi
  · by_cases c : i < n
    · rw [hg i c]; exact (hf i).1
    · rw [hg' i c]; exact Int.le_refl _
  · by_cases c : i < n
    · rw [hg i c]; exact (hf i).2
    · rw [hg' i c]; decide
theorem rencode_row (w : World) (b T n c : Nat) (f : Nat → Int) (hn : n ≤ 1000) (hc : n ≤ c) (h : BRow w b T n f) (hf : ∀ j, 0 ≤ f j ∧ f j ≤ 255) :
    Calls Tryz.prog 33 #[.slice (some ⟨b, 0, none⟩) n c] w fun e w' => (∃ r : ByteArray, r.size ≤ 2000 ∧ e = .returned (.string r)) ∧ Below w.heap.size w w' := by
  have hb := brow_byts h hf
  have hl : ((List.range n).map f).length = n := by simp
  obtain ⟨k, r, hz, hr⟩ := encode_some (l := (List.range n).map f) (fun v hv => by
    obtain ⟨j, _, rfl⟩ := List.mem_map.1 hv
    exact hf j) (by omega)
  have hC := hb.to_C (by omega)
  have := stillroomref01_Encode.calls k (some ⟨b, 0, none⟩) c ((List.range n).map f) r w (by rw [hl]; exact hC) (by omega) hr
  rw [hl] at this
  exact this.mono fun e w' h => ⟨⟨r, hz, h.1⟩, h.2⟩
theorem info_parts8 {i0 : Option TypeInfo} (h : i0.map (fun i => (i.zero, i.size, i.bytes)) = some (some (Value.int .u8 0), 1, 1)) : ∃ i, i0 = some i ∧ i.zero = some (.int .u8 0) ∧ i.size = 1 ∧ i.bytes = 1 := by
  cases i0 with
  | none => cases h
  | some i => exact ⟨i, rfl, by simpa using congrArg (fun x => x.map (·.1)) h, by simpa using congrArg (fun x => x.map (·.2.1)) h, by simpa using congrArg (fun x => x.map (·.2.2)) h⟩
theorem byte_info8 : (Tryz.prog.info? 5).map (fun i => (i.zero, i.size, i.bytes)) = some (some (.int .u8 0), 1, 1) := by kernel_rfl
theorem zeros_20 (W : World) : (Instr.makeSlice 29 (.int .i64 20) (.int .i64 20)).run Tryz.prog W = .ok (.slice (some ⟨W.heap.size, 0, none⟩) 20 20) (W.alloc (.cells (brr 20 fun _ => 0) 5)) := by
  obtain ⟨i0, hi, hz0, hz1, hz2⟩ := info_parts8 byte_info8
  have h := run_make (P := Tryz.prog) W 29 5 i0 (.int .u8 0) Tryz.underlying29 hi hz0 .i64 .i64 20 20 (by omega) (by omega) (by rw [hz2]; omega) (by omega)
  have e : madeCells (Value.int .u8 0).cells (Int.toNat 20 * 1) = brr 20 (fun _ => 0) := by kernel_rfl
  rw [h, hz1, e]
  rfl
set_option maxHeartbeats 4000000 in
set_option maxRecDepth 100000 in
theorem short_of (w : World) (f : Nat → Int) (hf : ∀ j, 0 ≤ f j ∧ f j ≤ 255) : Calls Tryz.prog 34 #[.agg (brr 32 f)] w fun e w' => (∃ r : ByteArray, r.size ≤ 2000 ∧ e = .returned (.string r)) ∧ Below w.heap.size w w' := by
  have HF := Lib.hid hf
  clear hf
  have hmk := zeros_20
  go_enter Tryz.func34, Tryz.ntmps34
  go_wp2_with fail
  clear hmk
  have d0 := BRow.new w 55 32 f
  have B0 := (Below.refl w.heap.size w).alloc (Nat.le_refl _) (.cells (brr 32 f) 55 (0, 0))
  have s0 : (w.alloc (.cells (brr 32 f) 55 (0, 0))).heap.size = w.heap.size + 1 := by simp
  generalize w.alloc (.cells (brr 32 f) 55 (0, 0)) = w1 at d0 B0 s0 ⊢
  have d1 := BRow.new w1 5 20 (fun _ => 0)
  have B1 := (Below.refl w1.heap.size w1).alloc (Nat.le_refl _) (.cells (brr 20 fun _ => 0) 5 (0, 0))
  have s1 : (w1.alloc (.cells (brr 20 fun _ => 0) 5 (0, 0))).heap.size = w.heap.size + 2 := by simp [s0]
  generalize hw2 : w1.alloc (.cells (brr 20 fun _ => 0) 5 (0, 0)) = w2 at d1 B1 s1 ⊢
  have D := Lib.hid (d0.below B1 (by omega))
  have B := Lib.hid (B0.trans (B1.mono (by omega)))
  have S := Lib.hid s1
  rw [s0] at d1
  clear d0 B0 B1 s1 hw2 s0 w1
  generalize hn : w.heap.size = n at d1 D B S ⊢
  have HN := Lib.hid hn
  clear hn
  go_loopw [4] (fun i wr => ∃ k : Nat, k ≤ 32 ∧ i = .int .i64 k ∧ Below (n + 1) w2 wr ∧ ∃ g : Nat → Int, (∀ j, 0 ≤ g j ∧ g j ≤ 255) ∧ BRow wr (n + 1) 5 20 g) (fun i _ => 32 - (intOf i).toNat)
  case atStart => exact ⟨0, Nat.zero_le _, rfl, Below.refl _ _, _, fun _ => ⟨by decide, by decide⟩, d1⟩
  case round =>
    obtain ⟨k, hk, rfl, hb, g, hg, hr⟩ := hrel
    have HG := Lib.hid hg
    have HB := Lib.hid hb
    by_cases hlt : k < 32
    · have em : ((k : Int) % 20).toNat < 20 := by omega
      have et : Int.tmod (k : Int) 20 = (k : Int) % 20 := Int.tmod_eq_emod_of_nonneg (by omega)
      have hd := D.out.below hb (by omega)
      clear hg
      go_wp2_with fail
      refine wp_region_still_tail 13 (by kernel_rfl) (by kernel_rfl) ?_
      simp only [List.take_succ_cons, List.take_zero, List.drop_succ_cons, List.drop_zero]
      change wpStill _ _ wr.drew (fun _ => wpList _ _ _ _ _ wr.drew) _ _
      replace hr := hr.drew
      replace hd := hd.drew
      replace hb := below_drewN hb 1
      change Below (n + 1) w2 wr.drew at hb
      generalize wr.drew = w7 at hr hd hb ⊢
      have q1 := hr.cell (k := ((k : Int) % 20).toNat) em
      have q2 := hd.cell hlt
      have f1 := hr.free ((k : Int) % 20).toNat
      have g0 : (0 : Int) ≤ k := by omega
      have g1 : (k : Int) < 32 := by omega
      have g2 : (0 : Int) ≤ (k : Int) % 20 := by omega
      have g3 : (k : Int) % 20 < 20 := by omega
      repeat still_step
      try refine wpStill_nil ?_
      go_wp2_with fail
      have e20 : ((k : Int) % 20).toNat = k % 20 := by omega
      refine ⟨⟨k + 1, by omega, by go_num, hb.setCell (Nat.le_refl _) _, fun j => if j = k % 20 then bits .xor .u8 (g (k % 20)) (f k) else g j, fun j => ?_, hr.set (Nat.mod_lt _ (by decide)) (by simp) (fun j _ hj => if_neg hj)⟩, ?_⟩
      · show 0 ≤ (if j = k % 20 then bits .xor .u8 (g (k % 20)) (f k) else g j) ∧ (if j = k % 20 then bits .xor .u8 (g (k % 20)) (f k) else g j) ≤ 255
        by_cases c : j = k % 20
        · rw [if_pos c]; exact xor8 _ _ (HG.out _) (HF.out _)
        · rw [if_neg c]; exact HG.out _
      · simp [intOf]; omega
    · go_wp2_with fail
      refine (rencode_row wr (n + 1) _ 20 20 g (by decide) (by decide) hr HG.out).mono ?_
      rintro e w5 ⟨⟨r, hz, rfl⟩, hb5⟩
      go_wp2
      go_ret
      exact ⟨⟨r, hz, rfl⟩, by rw [HN.out]; exact (B.out.trans (HB.out.mono (by omega))).trans (hb5.mono (by have := HB.out.size; have := S.out; omega))⟩
end Go.Proofs.YtecahdjopdfeeaaGreatDoor
