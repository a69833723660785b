/- ref09.Make of "k", a digest and "a": some text. -/
import Derived.Test.YtecahdjopdfeeaaGreatDoorOs
import Derived.Test.YtecahdjopdfeeaaGreatDoorQObjectNobodyx1
import Derived.Handy
import Derived.Lib.SmallJoins
import Derived.Lib.ConvBytes
import Derived.Laws.AppendOwn
namespace Go.Proofs.YtecahdjopdfeeaaGreatDoor
set_option linter.unusedVariables false
set_option linter.unusedSimpArgs false
open Go.RowKit QObjectNobody Go.Proofs.YtecahdjopdfeeaaGreatDoorW.PrintWords Go.Proofs.YtecahdjopdfeeaaGreatDoorW.PrintLast Go.Proofs.YtecahdjopdfeeaaGreatDoorW.PrintMore
theorem bytes_byts (w : World) (e : TypeId) (s : ByteArray) : Byts (Lib.bytesWorld w e s) w.heap.size 0 s.size (s.data.toList.map fun b => (b.toNat : Int)) := by
  have hg : ∀ i, (s.data.toList.map fun b => (b.toNat : Int)).getD i 0 = (s.data.toList.getD i 0).toNat := fun i => by
    simp only [List.getD_eq_getElem?_getD, List.getElem?_map]
    cases s.data.toList[i]? <;> rfl
  refine ⟨by rw [List.length_map]; rfl, fun i hi => ?_, fun i => ?_, fun i => ?_⟩
  · rw [Nat.zero_add, hg i]; exact Lib.bytesWorld_cell w e s i hi
  · rw [hg i]; omega
  · rw [hg i]
    have := (s.data.toList.getD i 0).toNat_lt
    omega
theorem dgs_range (S : Nat → Int) (j : Nat) : 0 ≤ dgs S j ∧ dgs S j ≤ 255 := by
  unfold dgs be4
  generalize S (j / 4) = v
  have h : j % 4 < 4 := Nat.mod_lt _ (by decide)
  generalize j % 4 = m at h
  match m, h with
  | 0, _ => simp; omega
  | 1, _ => simp; omega
  | 2, _ => simp; omega
  | 3, _ => simp; omega
set_option maxHeartbeats 4000000 in
set_option maxRecDepth 100000 in
theorem rmake_of (w : World) (f : Nat → Int) (hf : ∀ j, 0 ≤ f j ∧ f j ≤ 255) : Calls Tryz.prog 14 #[.string ⟨#[107]⟩, .agg (brr 32 f), .string ⟨#[97]⟩] w fun e w' => (∃ (r : ByteArray) (x : Int), e = .returned (.tuple #[.string r, .int .i64 x])) ∧ Below w.heap.size w w' := by
  have HF := Lib.hid hf
  clear hf
  go_enter Tryz.func14, Tryz.ntmps14
  go_wp2_with fail
  refine (stillroomref09_Name.calls 5 ⟨#[97]⟩ true _ (by kernel_rfl)).mono ?_
  rintro e w' ⟨rfl, ⟨q, rfl⟩⟩
  have d0 := (BRow.new w 55 32 f).drewN q
  have B0 := below_drewN ((Below.refl w.heap.size w).alloc (Nat.le_refl _) (.cells (brr 32 f) 55 (0, 0))) q
  have s0 : ((w.alloc (.cells (brr 32 f) 55 (0, 0))).drewN q).heap.size = w.heap.size + 1 := by simp [World.heap_drewN]
  generalize (w.alloc (.cells (brr 32 f) 55 (0, 0))).drewN q = w1 at d0 B0 s0 ⊢
  have D := Lib.hid d0
  have B := Lib.hid B0
  have S := Lib.hid s0
  clear d0 B0 s0
  go_wp2_with fail
  refine wp_loop_rounds 2 ?_
  rw [rounds_succ]
  go_wp2_with fail
  rw [rounds_succ]
  go_wp2_with fail
  refine (rencode_row w1 w.heap.size _ 32 32 f (by decide) (by decide) D.out HF.out).mono ?_
  rintro e w2 ⟨⟨r, hz, rfl⟩, hb2⟩
  have HZ := Lib.hid hz
  have HB2 := Lib.hid (B.out.trans (hb2.mono (by have := S.out; omega)))
  clear hb2 hz
  have c1 : ¬ 9223372036854775807 < 2 + r.size := by have := HZ.out; omega
  have c2 : ¬ 9223372036854775807 < 2 + r.size + 1 := by have := HZ.out; omega
  have c3 : ¬ 9223372036854775807 < 2 + r.size + 1 + 1 := by have := HZ.out; omega
  have hcv : ∀ (W : World) (s : ByteArray), _ := fun W s => Lib.run_convert_string_bytes (P := Tryz.prog) W 9 29 5 s Tryz.underlying9 Tryz.underlying29 Tryz.underlying5
  go_wp2_with fail
  have hby := bytes_byts w2 5 ((⟨#[107]⟩ : ByteArray) ++ ⟨#[58]⟩ ++ r ++ ⟨#[58]⟩ ++ ⟨#[97]⟩)
  have hss : ((⟨#[107]⟩ : ByteArray) ++ ⟨#[58]⟩ ++ r ++ ⟨#[58]⟩ ++ ⟨#[97]⟩).size = 2 + r.size + 1 + 1 := by simp only [ByteArray.size_append]; rfl
  rw [hss] at hby
  have hbb := Joins.below_bytesWorld w2.heap.size w2 5 ((⟨#[107]⟩ : ByteArray) ++ ⟨#[58]⟩ ++ r ++ ⟨#[58]⟩ ++ ⟨#[97]⟩) (Nat.le_refl _)
  have hbs := Lib.bytesWorld_size w2 5 ((⟨#[107]⟩ : ByteArray) ++ ⟨#[58]⟩ ++ r ++ ⟨#[58]⟩ ++ ⟨#[97]⟩)
  have HB3 := Lib.hid (HB2.out.trans (hbb.mono HB2.out.size))
  refine (rsum_of _ w2.heap.size (2 + r.size + 1 + 1) (grownCap w2 (2 + r.size + 1 + 1) 0 5) _ (by have := HZ.out; omega) (grownCap_ge _ _ _ _) hby (by rw [hbs]; omega)).mono ?_
  rintro e w4 ⟨rfl, hb4⟩
  generalize hsh k0 s0 (tailOf _ _) _ = DD
  have HB4 := Lib.hid (HB3.out.trans (hb4.mono HB3.out.size))
  clear hby hss hbb hbs hb4 hcv c1 c2 c3
  have d4 : BRow (w4.alloc (.cells #[.int .u8 0, .int .u8 0, .int .u8 0, .int .u8 0, .int .u8 0, .int .u8 0, .int .u8 0, .int .u8 0, .int .u8 0, .int .u8 0, .int .u8 0, .int .u8 0, .int .u8 0, .int .u8 0, .int .u8 0, .int .u8 0, .int .u8 0, .int .u8 0, .int .u8 0, .int .u8 0, .int .u8 0, .int .u8 0, .int .u8 0, .int .u8 0, .int .u8 0, .int .u8 0, .int .u8 0, .int .u8 0, .int .u8 0, .int .u8 0, .int .u8 0, .int .u8 0] 55 (0, 0))) w4.heap.size 55 32 (fun _ => 0) := heap_alloc_new _ _
  have B4 := (Below.refl w4.heap.size w4).alloc (Nat.le_refl _) (.cells #[.int .u8 0, .int .u8 0, .int .u8 0, .int .u8 0, .int .u8 0, .int .u8 0, .int .u8 0, .int .u8 0, .int .u8 0, .int .u8 0, .int .u8 0, .int .u8 0, .int .u8 0, .int .u8 0, .int .u8 0, .int .u8 0, .int .u8 0, .int .u8 0, .int .u8 0, .int .u8 0, .int .u8 0, .int .u8 0, .int .u8 0, .int .u8 0, .int .u8 0, .int .u8 0, .int .u8 0, .int .u8 0, .int .u8 0, .int .u8 0, .int .u8 0, .int .u8 0] 55 (0, 0))
  have d5 := setRow_heap _ w4.heap.size _ (brr 32 (dgs DD)) _ _ d4
  have hs4 : w.heap.size ≤ w4.heap.size := HB4.out.size
  go_wp2_with (first
    | (refine wpList_load_row rfl 55 _ rfl w4.heap.size rfl 55 (brr 32 (dgs DD)) (0, 0) _ d5 Tryz.underlying55 rfl (by rw [brr_size]; kernel_rfl) ?_)
    | (refine wpList_store_row rfl 55 _ _ rfl w4.heap.size (brr 32 (dgs DD)) rfl rfl 55 _ d4 (by rw [brr_size]; kernel_rfl) (by rw [brr_size]; rfl) (brr_one 32 _) ?_))
  have HB6 := Lib.hid (HB4.out.trans ((below_setRow B4 (Nat.le_refl _) (brr 32 (dgs DD))).mono hs4))
  clear d4 d5 B4
  refine (short_of _ (dgs DD) (dgs_range DD)).mono ?_
  rintro e w5 ⟨⟨r5, hz5, rfl⟩, hb5⟩
  have HB5 := Lib.hid (HB6.out.trans (hb5.mono HB6.out.size))
  have c1 : ¬ 9223372036854775807 < 7 + r5.size := by omega
  have c2 : ¬ 9223372036854775807 < 7 + r5.size + 1 := by omega
  have c3 : ¬ 9223372036854775807 < 7 + r5.size + 1 + 1 := by omega
  clear hb5
  go_wp2
  go_ret2
  exact ⟨⟨_, _, rfl⟩, HB5.out⟩
theorem one_row (x : Int) : #[.int .u8 x, .int .u8 0, .int .u8 0, .int .u8 0, .int .u8 0, .int .u8 0, .int .u8 0, .int .u8 0, .int .u8 0, .int .u8 0, .int .u8 0, .int .u8 0, .int .u8 0, .int .u8 0, .int .u8 0, .int .u8 0, .int .u8 0, .int .u8 0, .int .u8 0, .int .u8 0, .int .u8 0, .int .u8 0, .int .u8 0, .int .u8 0, .int .u8 0, .int .u8 0, .int .u8 0, .int .u8 0, .int .u8 0, .int .u8 0, .int .u8 0, .int .u8 0] = brr 32 (fun j => if j = 0 then x else 0) := rfl
set_option maxHeartbeats 4000000 in
set_option maxRecDepth 100000 in
theorem path_of (w : World) (x : Int) : Calls Tryz.prog 4 #[.int .i64 x] w fun e w' => (∃ r : ByteArray, e = .returned (.string r)) ∧ Below w.heap.size w w' := by
  go_enter Tryz.func4, Tryz.ntmps4
  go_wp2_with fail
  rw [one_row]
  refine (rmake_of w (fun j => if j = 0 then x % 256 else 0) (fun j => ?hj)).mono ?_
  case hj =>
    show 0 ≤ (if j = 0 then x % 256 else 0) ∧ (if j = 0 then x % 256 else 0) ≤ 255
    split <;> omega
  rintro e w1 ⟨⟨r, y, rfl⟩, hb1⟩
  have HB := Lib.hid hb1
  clear hb1
  go_wp2
  go_ret
  exact ⟨⟨r, rfl⟩, HB.out⟩
end Go.Proofs.YtecahdjopdfeeaaGreatDoor
