/- ref02.Parse: by the reference's Decode. -/
import Derived.Test.YtcmlifbfegblgaaDoorBg
import Derived.Test.YtcmlifbfegblgaaDoorQObjectTextsx2
namespace Go.Proofs.YtcmlifbfegblgaaDoor
set_option linter.unusedVariables false
set_option linter.unusedSimpArgs false
open Go.RowKit Go.Proofs.YtcmlifbfegblgaaDoorW.PrintWords Go.Proofs.YtcmlifbfegblgaaDoorW.PrintLast Go.Proofs.YtcmlifbfegblgaaDoorW.PrintMore
open Go.Proofs.YtcmlifbfegblgaaDoor.QObjectTexts

/-- A row of n cells, each one value. -/
def RowOf (w : World) (b : Nat) (T : TypeId) (n : Nat) : Prop := ∃ cs : Array Value, cs.size = n ∧ cs.all (·.oneCell') = true ∧ w.heap[b]? = some (.cells cs T (0, 0))
theorem RowOf.set {w : World} {b : Nat} {T : TypeId} {n i : Nat} (h : RowOf w b T n) (z : Int) (k : IntKind) : RowOf (w.setCell ⟨b, i, none⟩ (.int k z)) b T n := by
  obtain ⟨cs, h1, h2, h3⟩ := h
  refine ⟨_, by simpa using h1, ?_, row_set w b cs T (0, 0) i _ h3⟩
  rw [Array.all_eq_true] at h2 ⊢
  intro j hj
  rw [Array.getElem_setIfInBounds]
  split
  · rfl
  · exact h2 j (by simpa using hj)
theorem RowOf.cell {w : World} {b : Nat} {T : TypeId} {n i : Nat} (h : RowOf w b T n) (hi : i < n) : ∃ v, w.cell? ⟨b, i, none⟩ = some v := by
  obtain ⟨cs, h1, h2, h3⟩ := h
  exact ⟨_, (row_cell w b cs T (0, 0) i h3).trans (Array.getElem?_eq_getElem (by omega))⟩
theorem RowOf.free {w : World} {b : Nat} {T : TypeId} {n : Nat} (h : RowOf w b T n) (i : Nat) : w.frozen? ⟨b, i, none⟩ = false := by
  obtain ⟨cs, h1, h2, h3⟩ := h
  exact row_frozen w b cs T i h3
set_option maxHeartbeats 4000000 in
set_option maxRecDepth 100000 in
theorem rparse_of (k : Nat) (s : ByteArray) (r1 : List Int) (r2 : Int) (w : World) (hf : stillroomref01_Decode.f k s = some (r1, r2)) :
    Calls Tryd.prog 42 #[.string s] w fun e w' => ∃ (d : Array Value) (x : Int), e = .returned (.tuple #[.agg d, .int .i64 x]) ∧ d.size = 32 ∧ OneRow d ∧ Below w.heap.size w w' ∧ (x = 0 ↔ (r2 = 0 ∧ r1.length = 32)) := by
  have HF := Lib.hid hf
  clear hf
  go_enter Tryd.func42, Tryd.ntmps42
  go_wp2_with (go_at_call 63; refine (stillroomref01_Decode.calls k s r1 r2 _ HF.out).mono ?_; rintro e w' ⟨v, rfl, hr, hb⟩; refine Hid.out ?_)
  refine Lib.hid ?_
  have hz : w'.heap[w.heap.size]? = some (.cells z32 68 (0, 0)) := (hb.block _ (by simp; omega)).trans ((heap_alloc_old _ _ _ (by simp)).trans (heap_alloc_new w _))
  have hy : w'.heap[w.heap.size + 1]? = some (.cells z32 68 (0, 0)) := (hb.block _ (by simp)).trans (heap_alloc2_new w _ _)
  have HB := Lib.hid (show Below w.heap.size w w' from (((Below.refl _ _).alloc (Nat.le_refl _) _).alloc (by simp) _).trans (hb.mono (by simp; omega)))
  have HA := Lib.hid (show w.heap.size + 2 ≤ w'.heap.size by have := hb.size; simpa using this)
  have info68 : (Tryd.prog.info? 68).map (·.size) = some 32 := by kernel_rfl
  have HI := Lib.hid info68
  have how := Kd.own_of_R hr
  have hlen : (nums .u8 r1).length = r1.length := by simp [nums]
  have HZ := Lib.hid hz
  have HY := Lib.hid hy
  clear hb hz hy info68 hr
  by_cases h2 : r2 = 0
  · subst h2
    by_cases h32 : r1.length = 32
    · obtain ⟨g, cap, cur, rfl, h1, h2, h3, h4, h5, h6⟩ : ∃ g cap cur, v = .slice (some ⟨g, 0, none⟩) 32 cap ∧ w.heap.size + 2 ≤ g ∧ w'.heap[g]? = some (.cells cur 5 (0, 0)) ∧ 32 ≤ cap ∧ cap ≤ maxLen ∧ cur.size = cap * 1 ∧ cur.toList.take 32 = nums .u8 r1 := by
        rcases how.2 with ⟨rfl, h⟩ | ⟨g, cap, cur, rfl, h1, h2, h3, h4, h5, h6⟩
        · omega
        · exact ⟨g, cap, cur, by rw [h32], by simpa using h1, h2, by omega, h4, by simpa using h5, by rw [h32] at h6; exact h6⟩
      have hcell : ∀ W : World, W.heap[g]? = w'.heap[g]? → ∀ j, j < 32 → ∃ z, W.cell? ⟨g, j, none⟩ = some (.int .u8 z) := by
        intro W hW j hj
        rw [row_cell W g cur 5 (0, 0) j (hW.trans h2)]
        have e : (nums .u8 r1)[j]? = cur[j]? := by rw [← h6, List.getElem?_take_of_lt hj]; simp
        rw [← e]
        have hj2 : j < r1.length := by omega
        exact ⟨r1[j], by simp [nums, List.getElem?_eq_getElem hj2]⟩
      have HC := Lib.hid hcell
      have HG := Lib.hid h1
      clear h1 h2 h3 h4 h5 h6 how hcell
      go_wp2
      go_loopw [7] (fun i wr => ∃ k : Int, 0 ≤ k ∧ k ≤ 32 ∧ i = .int .i64 k ∧ Below w.heap.size w wr ∧ wr.heap[g]? = w'.heap[g]? ∧ RowOf wr w.heap.size 68 32 ∧ RowOf wr (w.heap.size + 1) 68 32) (fun i _ => (32 - intOf i).toNat)
      case atStart => exact ⟨0, by omega, by omega, rfl, HB.out, rfl, ⟨_, rfl, z32_one, HZ.out⟩, ⟨_, rfl, z32_one, HY.out⟩⟩
      case round =>
        obtain ⟨k, hk0, hk1, rfl, hb, hg, hrow0, hrow1⟩ := hrel
        by_cases hk : k < 32
        · obtain ⟨z, hz⟩ := HC.out wr hg k.toNat (by omega)
          obtain ⟨v0, hv0⟩ := hrow1.cell (i := k.toNat) (by omega)
          have hf0 := hrow1.free k.toNat
          have HB2 := Lib.hid hb
          have HG2 := Lib.hid hg
          have HR0 := Lib.hid hrow0
          have HR1 := Lib.hid hrow1
          clear hb hg hrow0 hrow1
          go_wp2
          go_roundw
          case rel =>
            refine ⟨k + 1, by omega, by omega, by go_num, HB2.out.setCell (p := ⟨w.heap.size + 1, k.toNat, none⟩) (by show w.heap.size ≤ w.heap.size + 1; omega) _, ?_, ?_, HR1.out.set _ _⟩
            · exact (Below.heap_setCell _ _ _ _ (by have := HG.out; show g ≠ w.heap.size + 1; omega)).trans HG2.out
            · obtain ⟨cs, a1, a2, a3⟩ := HR0.out
              exact ⟨cs, a1, a2, (Below.heap_setCell _ _ _ _ (by show w.heap.size ≠ w.heap.size + 1; omega)).trans a3⟩
          case measure => simp only [intOf]; omega
        · have HB2 := Lib.hid hb
          obtain ⟨c0, hs0, ho0, hh0⟩ := hrow0
          obtain ⟨c1, hs1, ho1, hh1⟩ := hrow1
          have HS1 := Lib.hid (show (Tryd.prog.info? 68).map (·.size) = some c1.size by rw [hs1]; exact HI.out)
          have HS2 := Lib.hid (show c0.size = c1.size by rw [hs1, hs0])
          have HO1 := Lib.hid ho1
          have HS3 := Lib.hid hs1
          have HH0 := Lib.hid hh0
          have HH1 := Lib.hid hh1
          have HL1 := Lib.hid h32
          clear hb hg hs0 ho0 hh0 hs1 ho1 hh1 h32
          go_wp2_with (first | (refine wpList_load_row rfl 68 _ rfl (w.heap.size + 1) rfl 68 c1 (0, 0) _ HH1.out Tryd.underlying68 rfl HS1.out ?_) | (refine wpList_store_row rfl 68 _ _ rfl w.heap.size c1 rfl rfl 68 _ HH0.out HS1.out HS2.out HO1.out ?_))
          have HN := Lib.hid (setRow_at c1 HH0.out)
          refine bodyPost_ret (results_cell2 Tryd.results42 rfl (run_loadVar_row (P := Tryd.prog) _ _ 68 68 c1 (0, 0) _ HN.out Tryd.underlying68 rfl HS1.out)) rfl ?_
          refine ⟨_, _, rfl, HS3.out, HO1.out, below_setRow HB2.out (Nat.le_refl _) _, ?_⟩
          simp [HL1.out]
    · obtain ⟨A, c, rfl⟩ : ∃ A c, v = .slice A r1.length c := by
        rcases how.2 with ⟨rfl, h⟩ | ⟨g, cap, cur, rfl, h1, h2⟩
        · exact ⟨_, _, by rw [h]⟩
        · exact ⟨_, _, rfl⟩
      have hb32 : (((r1.length : Int)) != 32) = true := by simp; omega
      have HE := Lib.hid (show ¬ ((0 : Int) = 0 ∧ r1.length = 32) from fun h => h32 h.2)
      clear how hlen
      go_wp2_with (first | (refine wpList_load_row rfl 68 _ rfl (w.heap.size + 1) rfl 68 z32 (0, 0) _ HY.out Tryd.underlying68 rfl HI.out ?_) | (refine wpList_store_row rfl 68 _ _ rfl w.heap.size z32 rfl rfl 68 _ HZ.out HI.out rfl z32_one ?_))
      have HN := Lib.hid (setRow_at z32 HZ.out)
      refine bodyPost_ret (results_cell2 Tryd.results42 rfl (run_loadVar_row (P := Tryd.prog) _ _ 68 68 z32 (0, 0) _ HN.out Tryd.underlying68 rfl HI.out)) rfl ?_
      refine ⟨_, _, rfl, rfl, z32_one, below_setRow HB.out (Nat.le_refl _) _, ?_⟩
      first | exact ⟨fun h => by omega, fun h => absurd h HE.out⟩ | (intro h; omega)
  · have hb2 : (r2 != 0) = true := by simp; exact h2
    have HE := Lib.hid (show ¬ (r2 = 0 ∧ r1.length = 32) from fun h => h2 h.1)
    have HE2 := Lib.hid h2
    clear how hlen h2
    go_wp2_with (first | (refine wpList_load_row rfl 68 _ rfl (w.heap.size + 1) rfl 68 z32 (0, 0) _ HY.out Tryd.underlying68 rfl HI.out ?_) | (refine wpList_store_row rfl 68 _ _ rfl w.heap.size z32 rfl rfl 68 _ HZ.out HI.out rfl z32_one ?_))
    have HN := Lib.hid (setRow_at z32 HZ.out)
    refine bodyPost_ret (results_cell2 Tryd.results42 rfl (run_loadVar_row (P := Tryd.prog) _ _ 68 68 z32 (0, 0) _ HN.out Tryd.underlying68 rfl HI.out)) rfl ?_
    refine ⟨_, _, rfl, rfl, z32_one, below_setRow HB.out (Nat.le_refl _) _, ?_⟩
    exact ⟨fun h => absurd h HE2.out, fun h => absurd h HE.out⟩
end Go.Proofs.YtcmlifbfegblgaaDoor
