/- The walk of ObjectNobody. -/
import Derived.Test.YtecahdjopdfeeaaGreatDoorOd
import Derived.Test.YtecahdjopdfeeaaGreatDoorOk
namespace Go.Proofs.YtecahdjopdfeeaaGreatDoor
set_option linter.unusedVariables false
set_option linter.unusedSimpArgs false
open Go.RowKit
set_option maxHeartbeats 2000000 in
set_option maxRecDepth 100000 in
theorem same_zero (w : World) : Calls Tryz.prog 8 #[zeroNode, zeroNode] w fun e w' => e = .returned (.bool true) ∧ Below w.heap.size w w' := by
  unfold zeroNode
  have hcv : ∀ W : World, (convert 29 9 (.slice none 0 0)).run Tryz.prog W = .ok (.string ByteArray.empty) W := fun W => run_convert_bytes_nil W 29 5 Tryz.underlying29 Tryz.underlying5 0 0 9 Tryz.underlying9
  go_enter Tryz.func8, Tryz.ntmps8
  go_wp2
  go_rounds 1
  go_rounds 1
  go_ret
  exact ⟨rfl, by go_grown⟩
def zeroInfo : Value := .agg #[.string ⟨#[]⟩, .string ⟨#[]⟩, .string ⟨#[]⟩, .slice none 0 0]
set_option maxHeartbeats 2000000 in
set_option maxRecDepth 100000 in
theorem infos_zero (w : World) : Calls Tryz.prog 9 #[zeroInfo, zeroInfo] w fun e w' => e = .returned (.bool true) ∧ Below w.heap.size w w' := by
  unfold zeroInfo
  go_enter Tryz.func9, Tryz.ntmps9
  go_wp2
  go_rounds 1
  go_ret
  exact ⟨rfl, by go_grown⟩
structure LRel (w : World) (T S : Nat) (wr : World) : Prop where
  below : Below w.heap.size w wr
  row : wr.heap[S]? = some (.cells #[.pointer none, .pointer (some ⟨T, 0, none⟩)] 23)
  zero : wr.cell? ⟨T, 1, none⟩ = some (.map none)
theorem LRel.step {w wr w' : World} {T S : Nat} (h : LRel w T S wr) (hb : Below wr.heap.size wr w') : LRel w T S w' :=
  ⟨h.below.trans (hb.mono h.below.size), (hb.block S (Array.getElem?_eq_some_iff.1 h.row).1).trans h.row, (hb.cell (World.block_lt_of_cell? _ _ h.zero)).trans h.zero⟩
theorem LRel.elem {w wr : World} {T S : Nat} (h : LRel w T S wr) (k : Nat) (hk : k < 2) : ∃ v, wr.cell? ⟨S, k, none⟩ = some v ∧ NoObj wr v := by
  rcases Nat.lt_or_ge k 1 with h1 | h1
  · obtain rfl : k = 0 := by omega
    exact ⟨.pointer none, by rw [cell_of_row _ _ 0 _ _ _ h.row]; rfl, .nil⟩
  · obtain rfl : k = 1 := by omega
    exact ⟨.pointer (some ⟨T, 0, none⟩), by rw [cell_of_row _ _ 1 _ _ _ h.row]; rfl, .zero T h.zero⟩
theorem node_cells {W : World} {b T : Nat} (h : W.heap[b]? = some (.cells #[.int .i64 0, .bool false, .slice none 0 0, .slice none 0 0, .slice none 0 0] T)) :
    W.cell? ⟨b, 0, none⟩ = some (.int .i64 0) ∧ W.cell? ⟨b, 1, none⟩ = some (.bool false) ∧ W.cell? ⟨b, 2, none⟩ = some (.slice none 0 0) ∧ W.cell? ⟨b, 3, none⟩ = some (.slice none 0 0) ∧ W.cell? ⟨b, 4, none⟩ = some (.slice none 0 0) := by
  refine ⟨?_, ?_, ?_, ?_, ?_⟩
  · rw [cell_of_row _ _ 0 _ _ _ h]; rfl
  · rw [cell_of_row _ _ 1 _ _ _ h]; rfl
  · rw [cell_of_row _ _ 2 _ _ _ h]; rfl
  · rw [cell_of_row _ _ 3 _ _ _ h]; rfl
  · rw [cell_of_row _ _ 4 _ _ _ h]; rfl
theorem info_cells {W : World} {b T : Nat} (h : W.heap[b]? = some (.cells #[.string ⟨#[]⟩, .string ⟨#[]⟩, .string ⟨#[]⟩, .slice none 0 0] T)) :
    W.cell? ⟨b, 0, none⟩ = some (.string ⟨#[]⟩) ∧ W.cell? ⟨b, 1, none⟩ = some (.string ⟨#[]⟩) ∧ W.cell? ⟨b, 2, none⟩ = some (.string ⟨#[]⟩) ∧ W.cell? ⟨b, 3, none⟩ = some (.slice none 0 0) := by
  refine ⟨?_, ?_, ?_, ?_⟩
  · rw [cell_of_row _ _ 0 _ _ _ h]; rfl
  · rw [cell_of_row _ _ 1 _ _ _ h]; rfl
  · rw [cell_of_row _ _ 2 _ _ _ h]; rfl
  · rw [cell_of_row _ _ 3 _ _ _ h]; rfl
theorem list_no (v : Value) (w : World) (h : NoObj w v) : Calls Tryz.prog 10 #[v] w fun e w' => e = .returned (.slice none 0 0) ∧ Below w.heap.size w w' := by
  cases h with
  | nil => exact list_nil w
  | zero b h => exact list_zero b w h
set_option maxHeartbeats 4000000 in
set_option maxRecDepth 100000 in
theorem onobody_walk (n : Int) (w : World) (hsh : w.ShapedOpen Tryz.prog) :
    Calls Tryz.prog 3 #[.int .i64 n] w fun e w' => e = .returned (.bool true) ∧ Below w.heap.size w w' := by
  have HS := Lib.hid hsh
  clear hsh
  have hs0 := same_zero
  unfold zeroNode at hs0
  have SZ := Lib.hid hs0
  clear hs0
  have hs0 := infos_zero
  unfold zeroInfo at hs0
  have IZ := Lib.hid hs0
  clear hs0
  go_enter Tryz.func3, Tryz.ntmps3
  go_wp2_with fail
  refine (path_of _ _).mono ?_
  rintro e w1 ⟨⟨p, rfl⟩, hb1⟩
  have HB1 := Lib.hid hb1
  clear hb1
  go_wp2_with fail
  obtain ⟨W, hW⟩ : ∃ W, W = (w1.alloc (.cells #[.pointer none, .map none] 27)).alloc (.cells #[.pointer none, .pointer (some ⟨w1.heap.size, 0, none⟩)] 23) := ⟨_, rfl⟩
  have hrel0 : LRel w1 w1.heap.size (w1.heap.size + 1) W := by
    rw [hW]
    have s1 : ∀ o : Obj, (w1.alloc o).heap.size = w1.heap.size + 1 := fun o => by simp
    refine ⟨((Below.refl _ _).alloc (Nat.le_refl _) _).alloc (by simp) _, ?_, ?_⟩
    · have := heap_alloc_new (w1.alloc (.cells #[.pointer none, .map none] 27)) (.cells #[.pointer none, .pointer (some ⟨w1.heap.size, 0, none⟩)] 23)
      rwa [s1] at this
    · rw [cell_of_row _ _ 1 _ _ _ ((Below.heap_alloc _ _ _ (by rw [s1]; omega)).trans (heap_alloc_new w1 _))]
      rfl
  rw [← hW]
  have HR := Lib.hid hrel0
  have HS1 := Lib.hid (shaped_below HS.out HB1.out)
  clear hrel0 hW HS
  generalize w1.heap.size + 1 = S at HR ⊢
  obtain ⟨T, hT⟩ : ∃ T, T = w1.heap.size := ⟨_, rfl⟩
  rw [← hT] at HR
  try rw [← hT]
  clear hT
  go_loopw [21] (fun i wr => ∃ k : Nat, k ≤ 2 ∧ i = .int .i64 k ∧ LRel w1 T S wr) (fun i _ => 2 - (intOf i).toNat)
  case atStart => exact ⟨0, Nat.zero_le _, rfl, HR.out⟩
  case round =>
    obtain ⟨k, hk, rfl, hrel⟩ := hrel
    have HL := Lib.hid hrel
    clear hrel HR
    by_cases hlt : k < 2
    · obtain ⟨v, hc, hn⟩ := HL.out.elem k hlt
      have HN := Lib.hid hn
      have HSr := Lib.hid (shaped_below HS1.out HL.out.below)
      clear hn
      go_wp2_with fail
      refine (oget_no v p _ HN.out).mono ?_
      rintro e w2 ⟨rfl, hb⟩
      have HB := Lib.hid hb
      clear hb hc
      unfold zeroNode
      go_wp2_with fail
      have HB2 := Lib.hid (HB.out.alloc HB.out.size (.cells #[.int .i64 0, .bool false, .slice none 0 0, .slice none 0 0, .slice none 0 0] 33))
      refine (info_no v p _ (HN.out.below HB2.out)).mono ?_
      rintro e w3 ⟨rfl, hb3⟩
      have HB3 := Lib.hid (HB2.out.trans (hb3.mono HB2.out.size))
      have hx := (hb3.block _ (by simp)).trans (heap_alloc_new w2 (.cells #[.int .i64 0, .bool false, .slice none 0 0, .slice none 0 0, .slice none 0 0] 33))
      have HX := Lib.hid hx
      clear hb3 hx HB2 HB
      go_wp2_with fail
      have HB4 := Lib.hid (HB3.out.alloc HB3.out.size (.cells #[.string ⟨#[]⟩, .string ⟨#[]⟩, .string ⟨#[]⟩, .slice none 0 0] 38))
      have ha := add_no v p ⟨#[]⟩ _ (HN.out.below HB4.out)
      unfold okNode at ha
      refine ha.mono ?_
      rintro e w4 ⟨rfl, hb4⟩
      have hi := (hb4.block w3.heap.size (by simp)).trans (heap_alloc_new w3 (.cells #[.string ⟨#[]⟩, .string ⟨#[]⟩, .string ⟨#[]⟩, .slice none 0 0] 38))
      have hx4 := (hb4.block w2.heap.size (by have := (Array.getElem?_eq_some_iff.1 HX.out).1; simp; omega)).trans ((Below.heap_alloc w3 (.cells #[.string ⟨#[]⟩, .string ⟨#[]⟩, .string ⟨#[]⟩, .slice none 0 0] 38) _ (Array.getElem?_eq_some_iff.1 HX.out).1).trans HX.out)
      have HB5 := Lib.hid (HB4.out.trans (hb4.mono HB4.out.size))
      have HI := Lib.hid hi
      obtain ⟨x0, x1, x2, x3, x4⟩ := node_cells hx4
      clear hb4 HB4 HB3 HX ha hi hx4
      go_wp2_with fail
      refine (SZ.out _).mono ?_
      rintro e w5 ⟨rfl, hb5⟩
      have HB6 := Lib.hid (HB5.out.trans (hb5.mono HB5.out.size))
      obtain ⟨y0, y1, y2, y3⟩ := info_cells ((hb5.block _ (Array.getElem?_eq_some_iff.1 HI.out).1).trans HI.out)
      clear hb5 HB5 HI x0 x1 x2 x3 x4
      go_wp2_with fail
      refine (IZ.out _).mono ?_
      rintro e w6 ⟨rfl, hb6⟩
      have HB7 := Lib.hid (HB6.out.trans (hb6.mono HB6.out.size))
      clear hb6 HB6 y0 y1 y2 y3
      go_wp2_with fail
      refine (list_no v _ (HN.out.below HB7.out)).mono ?_
      rintro e w7 ⟨rfl, hb7⟩
      have HB8 := Lib.hid (HB7.out.trans (hb7.mono HB7.out.size))
      clear hb7 HB7
      go_wp2_with fail
      refine (verify_no v p _ (HN.out.below HB8.out)).mono ?_
      rintro e w8 ⟨rfl, hb8⟩
      have HB9 := Lib.hid (HB8.out.trans (hb8.mono HB8.out.size))
      clear hb8 HB8
      go_wp2_with fail
      refine (delete_no v p _ (HN.out.below HB9.out)).mono ?_
      rintro e w9 ⟨rfl, hb9⟩
      have HB10 := Lib.hid (HB9.out.trans (hb9.mono HB9.out.size))
      clear hb9 HB9
      go_wp2
      go_roundw
      case rel => exact ⟨k + 1, by omega, by go_num, HL.out.step HB10.out⟩
      case measure => simp [intOf]; omega
    · go_wp2_with fail
      refine (oopen_no _ _ NoTree.nil (shaped_below HS1.out HL.out.below)).mono ?_
      rintro e w2 ⟨rfl, hb2⟩
      have HB2 := Lib.hid (HL.out.below.trans (hb2.mono HL.out.below.size))
      clear hb2
      go_wp2_with fail
      have HB3 := Lib.hid (HB2.out.alloc HB2.out.size (.cells #[.pointer none, .pointer none, .int .i64 0, .bool false, .slice none 0 0, .slice none 0 0, .slice none 0 0, .int .i64 0, .bool false, .slice none 0 0, .slice none 0 0, .slice none 0 0, .int .i64 0] 51))
      refine (oopen_no _ _ (.zero w2.heap.size (by rw [cell_of_row _ _ 1 _ _ _ (heap_alloc_new w2 _)]; rfl)) (shaped_below HS1.out HB3.out)).mono ?_
      rintro e w3 ⟨rfl, hb3⟩
      have HB4 := Lib.hid (HB3.out.trans (hb3.mono HB3.out.size))
      clear hb3
      go_wp2
      go_ret
      exact ⟨rfl, HB1.out.trans (HB4.out.mono HB1.out.size)⟩
end Go.Proofs.YtecahdjopdfeeaaGreatDoor
