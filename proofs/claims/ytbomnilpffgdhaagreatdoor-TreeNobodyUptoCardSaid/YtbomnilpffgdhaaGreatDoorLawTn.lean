/- The walk of TreeNobody. -/
import Derived.Test.YtbomnilpffgdhaaGreatDoorTj
namespace Go.Proofs.YtbomnilpffgdhaaGreatDoor
open Go.RowKit
set_option maxHeartbeats 2000000 in
set_option maxRecDepth 100000 in
theorem same_zero (w : World) : Calls Tryz.prog 6 #[zeroNode, zeroNode] w fun e w' => e = .returned (.bool true) ∧ Below w.heap.size w w' := by
  unfold zeroNode
  have hcv : ∀ W : World, (convert 25 9 (.slice none 0 0)).run Tryz.prog W = .ok (.string ByteArray.empty) W := fun W => run_convert_bytes_nil W 25 5 Tryz.underlying25 Tryz.underlying5 0 0 9 Tryz.underlying9
  go_enter Tryz.func6, Tryz.ntmps6
  go_wp2
  go_rounds 1
  go_rounds 1
  go_ret
  exact ⟨rfl, by go_grown⟩
structure LRel (w : World) (T S : Nat) (wr : World) : Prop where
  below : Below w.heap.size w wr
  row : wr.heap[S]? = some (.cells #[.pointer none, .pointer (some ⟨T, 0, none⟩)] 22)
  zero : wr.cell? ⟨T, 1, none⟩ = some (.pointer none)
theorem LRel.step {w wr w' : World} {T S : Nat} (h : LRel w T S wr) (hb : Below wr.heap.size wr w') : LRel w T S w' :=
  ⟨h.below.trans (hb.mono h.below.size), (hb.block S (Array.getElem?_eq_some_iff.1 h.row).1).trans h.row, (hb.cell (World.block_lt_of_cell? _ _ h.zero)).trans h.zero⟩
theorem LRel.elem {w wr : World} {T S : Nat} (h : LRel w T S wr) (k : Nat) (hk : k < 2) : ∃ v, wr.cell? ⟨S, k, none⟩ = some v ∧ NoTree wr v := by
  rcases Nat.lt_or_ge k 1 with h1 | h1
  · obtain rfl : k = 0 := by omega
    exact ⟨.pointer none, by rw [cell_of_row _ _ 0 _ _ _ h.row]; rfl, .nil⟩
  · obtain rfl : k = 1 := by omega
    exact ⟨.pointer (some ⟨T, 0, none⟩), by rw [cell_of_row _ _ 1 _ _ _ h.row]; rfl, .zero T h.zero⟩
set_option maxHeartbeats 4000000 in
set_option maxRecDepth 100000 in
theorem nobody_walk (s : ByteArray) (w : World) (hsh : w.ShapedOpen Tryz.prog) (hs : s.size < 4294967281) :
    Calls Tryz.prog 3 #[.string s] w fun e w' => e = .returned (.bool true) ∧ Below w.heap.size w w' := by
  have HS := Lib.hid hsh
  clear hsh
  have hs0 := same_zero
  unfold zeroNode at hs0
  have SZ := Lib.hid hs0
  clear hs0
  go_enter Tryz.func3, Tryz.ntmps3
  go_wp2_with fail
  obtain ⟨W, hW⟩ : ∃ W, W = (w.alloc (.cells #[.pointer none, .pointer none, .int .i64 0, .bool false, .slice none 0 0, .slice none 0 0, .slice none 0 0, .int .i64 0, .bool false, .slice none 0 0, .slice none 0 0, .slice none 0 0, .int .i64 0] 31)).alloc (.cells #[.pointer none, .pointer (some ⟨w.heap.size, 0, none⟩)] 22) := ⟨_, rfl⟩
  have hrel0 : LRel w w.heap.size (w.heap.size + 1) W := by
    rw [hW]
    have s1 : ∀ o : Obj, (w.alloc o).heap.size = w.heap.size + 1 := fun o => by simp
    refine ⟨((Below.refl _ _).alloc (Nat.le_refl _) _).alloc (by simp) _, ?_, ?_⟩
    · have := heap_alloc_new (w.alloc (.cells #[.pointer none, .pointer none, .int .i64 0, .bool false, .slice none 0 0, .slice none 0 0, .slice none 0 0, .int .i64 0, .bool false, .slice none 0 0, .slice none 0 0, .slice none 0 0, .int .i64 0] 31)) (.cells #[.pointer none, .pointer (some ⟨w.heap.size, 0, none⟩)] 22)
      rwa [s1] at this
    · rw [cell_of_row _ _ 1 _ _ _ ((Below.heap_alloc _ _ _ (by rw [s1]; omega)).trans (heap_alloc_new w _))]
      rfl
  rw [← hW]
  have HR := Lib.hid hrel0
  clear hrel0 hW
  generalize w.heap.size + 1 = S at HR ⊢
  obtain ⟨T, hT⟩ : ∃ T, T = w.heap.size := ⟨_, rfl⟩
  rw [← hT] at HR
  clear hT
  go_loopw [21] (fun i wr => ∃ k : Nat, k ≤ 2 ∧ i = .int .i64 k ∧ LRel w T S wr) (fun i _ => 2 - (intOf i).toNat)
  case atStart => exact ⟨0, Nat.zero_le _, rfl, HR.out⟩
  case round =>
    obtain ⟨k, hk, rfl, hrel⟩ := hrel
    have HL := Lib.hid hrel
    clear hrel HR
    by_cases hlt : k < 2
    · obtain ⟨v, hc, hn⟩ := HL.out.elem k hlt
      have HN := Lib.hid hn
      have HSr := Lib.hid (shaped_below HS.out HL.out.below)
      clear hn
      go_wp2_with fail
      refine (get_no v s _ HN.out HSr.out hs).mono ?_
      rintro e w1 ⟨rfl, hb⟩
      have HB := Lib.hid hb
      clear hb hc
      unfold zeroNode
      go_wp2_with fail
      have HB1 := Lib.hid (HB.out.alloc HB.out.size (.cells #[.int .i64 0, .bool false, .slice none 0 0, .slice none 0 0, .slice none 0 0] 29))
      refine (room_no v _ (HN.out.below HB1.out)).mono ?_
      rintro e w' ⟨rfl, rfl⟩
      go_wp2_with fail
      refine (SZ.out _).mono ?_
      rintro e w2 ⟨rfl, hb2⟩
      have HB2 := Lib.hid (HB1.out.trans (hb2.mono HB1.out.size))
      clear hb2 HB1 HB
      go_wp2_with fail
      refine (put_no v s _ _ (HN.out.below HB2.out) (shaped_below HSr.out HB2.out) hs rfl).mono ?_
      rintro e w3 ⟨rfl, hb3⟩
      have HB3 := Lib.hid (HB2.out.trans (hb3.mono HB2.out.size))
      clear hb3 HB2
      go_wp2_with fail
      refine (remove_no v s _ (HN.out.below HB3.out) (shaped_below HSr.out HB3.out) hs).mono ?_
      rintro e w4 ⟨rfl, hb4⟩
      have HB4 := Lib.hid (HB3.out.trans (hb4.mono HB3.out.size))
      clear hb4 HB3
      go_wp2_with fail
      refine (rename_no v s _ (HN.out.below HB4.out) (shaped_below HSr.out HB4.out) hs).mono ?_
      rintro e w5 ⟨rfl, hb5⟩
      have HB5 := Lib.hid (HB4.out.trans (hb5.mono HB4.out.size))
      clear hb5 HB4
      go_wp2_with fail
      refine (commit_no v _ (HN.out.below HB5.out)).mono ?_
      rintro e w' ⟨rfl, rfl⟩
      go_wp2_with fail
      refine (abort_no v _ (HN.out.below HB5.out)).mono ?_
      rintro e w' ⟨rfl, rfl⟩
      go_wp2
      go_roundw
      case rel => exact ⟨k + 1, by omega, by go_num, HL.out.step HB5.out⟩
      case measure => simp [intOf]; omega
    · go_wp2_with fail
      refine (format_nil _).mono ?_
      rintro e w' ⟨rfl, rfl⟩
      go_wp2_with fail
      have HB1 := Lib.hid (HL.out.below.alloc HL.out.below.size (.cells #[.slice none 0 0, .slice none 0 0, .slice none 0 0, .slice none 0 0] 47))
      refine (mount_none wr.heap.size _ (by rw [cell_of_row _ _ 1 _ _ _ (heap_alloc_new wr _)]; rfl)).mono ?_
      rintro e w' ⟨rfl, rfl⟩
      go_wp2_with fail
      refine (new_nine _).mono ?_
      rintro e w2 ⟨D, G, rfl, hd, hb2⟩
      have HD := Lib.hid hd
      have HB2 := Lib.hid (HB1.out.trans (hb2.mono HB1.out.size))
      clear hd hb2 HB1
      go_wp2_with fail
      refine (mount_nine D G _ HD.out).mono ?_
      rintro e w3 ⟨rfl, hb3⟩
      have HB3 := Lib.hid (HB2.out.trans (hb3.mono HB2.out.size))
      clear hb3 HB2
      go_wp2
      go_ret
      exact ⟨rfl, HB3.out⟩
end Go.Proofs.YtbomnilpffgdhaaGreatDoor
