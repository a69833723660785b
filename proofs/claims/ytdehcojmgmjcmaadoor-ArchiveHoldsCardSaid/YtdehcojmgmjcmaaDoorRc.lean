/- archive.Decode, by its contract. -/
import Derived.Test.YtdehcojmgmjcmaaDoorRw
import Derived.Test.YtdehcojmgmjcmaaDoorRh
namespace Go.Proofs.YtdehcojmgmjcmaaDoor
set_option linter.unusedVariables false
set_option linter.unusedSimpArgs false
open Go.RowKit QArchiveBack Go.Proofs.YtdehcojmgmjcmaaDoorW.PrintWords Go.Proofs.YtdehcojmgmjcmaaDoorW.PrintLast Go.Proofs.YtdehcojmgmjcmaaDoorW.PrintMore
/-- what Decode hands back -/
def DecPost (w : World) (xs : List Int) (e : Ending) (w' : World) : Prop :=
  Below w.heap.size w w' ∧ ((∃ x cs, decode xs = some x ∧ e = .returned (.tuple #[.agg cs, .int .i64 0]) ∧ k26.K w' x cs.toList) ∨ (decode xs = none ∧ ∃ k, k ≠ 0 ∧ e = .returned (.tuple #[.agg #[.int .i64 0, .bool false, .slice none 0 0, .slice none 0 0, .slice none 0 0], .int .i64 k])))
theorem row_cells {w : World} {gb : Nat} {c0 c1 c2 c3 c4 : Value} (h : w.heap[gb]? = some (.cells #[c0, c1, c2, c3, c4] 26 (0, 0))) : w.cell? ⟨gb, 0, none⟩ = some c0 ∧ w.cell? ⟨gb, 1, none⟩ = some c1 ∧ w.cell? ⟨gb, 2, none⟩ = some c2 ∧ w.cell? ⟨gb, 3, none⟩ = some c3 ∧ w.cell? ⟨gb, 4, none⟩ = some c4 := by
  have q0 := cell_of_row w gb 0 _ _ _ h
  have q1 := cell_of_row w gb 1 _ _ _ h
  have q2 := cell_of_row w gb 2 _ _ _ h
  have q3 := cell_of_row w gb 3 _ _ _ h
  have q4 := cell_of_row w gb 4 _ _ _ h
  simp only [List.getElem?_toArray, List.getElem?_cons_succ, List.getElem?_cons_zero] at q0 q1 q2 q3 q4
  exact ⟨q0, q1, q2, q3, q4⟩
theorem row_free {w : World} {gb : Nat} {cs : Array Value} (h : w.heap[gb]? = some (.cells cs 26 (0, 0))) : w.frozen? ⟨gb, 0, none⟩ = false ∧ w.frozen? ⟨gb, 1, none⟩ = false ∧ w.frozen? ⟨gb, 2, none⟩ = false ∧ w.frozen? ⟨gb, 3, none⟩ = false ∧ w.frozen? ⟨gb, 4, none⟩ = false := ⟨blk_frozen h 0, blk_frozen h 1, blk_frozen h 2, blk_frozen h 3, blk_frozen h 4⟩
/-- a node's cells, written one by one -/
theorem row_five {w : World} {gb : Nat} {c0 c1 c2 c3 c4 : Value} (h : w.heap[gb]? = some (.cells #[c0, c1, c2, c3, c4] 26 (0, 0))) (u0 u1 u2 u3 u4 : Value) : (((((w.setCell ⟨gb, 0, none⟩ u0).setCell ⟨gb, 1, none⟩ u1).setCell ⟨gb, 2, none⟩ u2).setCell ⟨gb, 3, none⟩ u3).setCell ⟨gb, 4, none⟩ u4).heap[gb]? = some (.cells #[u0, u1, u2, u3, u4] 26 (0, 0)) :=
  blk_set (blk_set (blk_set (blk_set (blk_set h 0 u0) 1 u1) 2 u2) 3 u3) 4 u4
theorem row_load {w : World} {gb : Nat} {cs : Array Value} (h : w.heap[gb]? = some (.cells cs 26 (0, 0))) (hs : cs.size = 5) : (loadVar 26 ⟨gb, 0, none⟩).run Tryd.prog w = .ok (.agg cs) w :=
  run_loadVar_row (P := Tryd.prog) w gb 26 26 _ (0, 0) _ h Tryd.underlying26 rfl (by rw [hs]; kernel_rfl)
theorem below_set {B : Nat} {w0 w : World} (h : Below B w0 w) {p : Addr} (hB : B ≤ p.block) (u : Value) : Below B w0 (w.setCell p u) :=
  h.trans ⟨rfl, rfl, rfl, by simp [World.setCell], fun k hk => Below.heap_setCell w p u k (by omega)⟩
theorem below_five {B gb : Nat} {w0 w : World} (h : Below B w0 w) (hB : B ≤ gb) (u0 u1 u2 u3 u4 : Value) : Below B w0 (((((w.setCell ⟨gb, 0, none⟩ u0).setCell ⟨gb, 1, none⟩ u1).setCell ⟨gb, 2, none⟩ u2).setCell ⟨gb, 3, none⟩ u3).setCell ⟨gb, 4, none⟩ u4) :=
  below_set (below_set (below_set (below_set (below_set h hB u0) hB u1) hB u2) hB u3) hB u4
/-- errors.As at the call's own variable fb -/
theorem as_var (k : Int) (fb : Nat) (w : World) (hg : w.cell? ⟨0, 0, none⟩ = some (.iface 93 (.agg #[.pointer (some ⟨4, 50, none⟩)]))) (hf : w.heap[fb]? = some (.cells #[.int .i64 0] 57 (0, 0))) :
    Calls Tryd.prog 15 #[flt k, .iface 59 (.pointer (some ⟨fb, 0, none⟩))] w fun e w' => e = .returned (.bool true) ∧ w.grownBy w' (some fb) ∧ w'.heap[fb]? = some (.cells #[.int .i64 k] 57 (0, 0)) := by
  have hc := cell_of_row w fb 0 _ _ _ hf
  simp only [List.getElem?_toArray, List.getElem?_cons_zero] at hc
  refine (as_hit k ⟨fb, 0, none⟩ _ w hg hc (blk_frozen hf 0)).mono ?_
  rintro e w' ⟨rfl, rfl⟩
  have b1 := below_alloc (Below.refl w.heap.size w) (.cells #[.pointer (some ⟨fb, 0, none⟩)] 59)
  have b2 := b1.alloc b1.size (.cells #[.pointer (some ⟨4, 59, none⟩), .pointer (some ⟨w.heap.size, 0, none⟩), .int .u64 150] 73)
  have b3 := b2.alloc b2.size (.cells #[.pointer (some ⟨4, 59, none⟩), .pointer (some ⟨w.heap.size, 0, none⟩), .int .u64 150] 73)
  have b4 := b3.alloc b3.size (.cells #[.int .i64 k] 57)
  exact ⟨rfl, Lib.grownBy_setB (grown_of_below b4 _) 0 _, blk_set ((b4.block fb (blk_lt hf)).trans hf) 0 _⟩
theorem below_move {B : Nat} {w0 w w' : World} (h : Below B w0 w) {rb : Nat} (hg : w.grownBy w' (some rb)) (hB : B ≤ rb) (hs : B ≤ w.heap.size) : Below B w0 w' :=
  ⟨hg.os.trans h.os, hg.tape.trans h.tape, hg.output.trans h.output, Nat.le_trans h.size hg.size, fun k hk => (hg.block k (by omega) (by intro e; injection e with e; omega)).trans (h.block k hk)⟩
set_option maxRecDepth 8000 in
set_option maxHeartbeats 8000000 in
theorem decode_of (w : World) (A : Option Addr) (n c : Nat) (xs : List Int) (hC : Kd.C (Kd.int .u8) w A n xs) (hc : n ≤ c) (hin : inB xs) (hg : w.cell? ⟨0, 0, none⟩ = some (.iface 93 (.agg #[.pointer (some ⟨4, 50, none⟩)]))) :
    Calls Tryd.prog 7 #[.slice A n c] w fun e w' => DecPost w xs e w' := by
  have HCC := Lib.hid hC
  have HC := Lib.hid hc
  have HIN := Lib.hid hin
  have HGE := Lib.hid hg
  have hn := hC.2.1
  have hlen := hC.1
  have HLEN := Lib.hid hlen
  clear hC hc hin hg hlen
  have hb1 := (Below.refl w.heap.size w).alloc (Nat.le_refl _) (.cells #[.int .i64 0, .bool false, .slice none 0 0, .slice none 0 0, .slice none 0 0] 26)
  have hx1 : (w.alloc (.cells #[.int .i64 0, .bool false, .slice none 0 0, .slice none 0 0, .slice none 0 0] 26)).heap[w.heap.size]? = some (.cells #[.int .i64 0, .bool false, .slice none 0 0, .slice none 0 0, .slice none 0 0] 26 (0, 0)) := heap_alloc_new _ _
  have hs1 : (w.alloc (.cells #[.int .i64 0, .bool false, .slice none 0 0, .slice none 0 0, .slice none 0 0] 26)).heap.size = w.heap.size + 1 := by simp
  go_enter Tryd.func7, Tryd.ntmps7
  by_cases hbig : (1048576 : Int) < (n : Int)
  · have HRES := Lib.hid (show decode xs = none by unfold decode; rw [if_pos (by rw [HLEN.out]; omega)])
    go_wp2_with fail
    refine bodyPost_ret (results_cell2 Tryd.results7 rfl (row_load hx1 rfl)) rfl ⟨hb1, Or.inr ⟨HRES.out, 3, by decide, rfl⟩⟩
  · have hb2 := hb1.alloc hb1.size (.cells #[.slice A n c, .int .i64 n] 54)
    have hx2 : ((w.alloc (.cells #[.int .i64 0, .bool false, .slice none 0 0, .slice none 0 0, .slice none 0 0] 26)).alloc (.cells #[.slice A n c, .int .i64 n] 54)).heap[w.heap.size + 1]? = some (.cells #[.slice A n c, .int .i64 n] 54 (0, 0)) := by rw [← hs1]; exact heap_alloc_new _ _
    have hx1' := ((below_alloc (Below.refl _ _) (.cells #[.slice A n c, .int .i64 n] 54)).block w.heap.size (blk_lt hx1)).trans hx1
    go_wp2_with (go_at_call 14; refine Hid.out ?_)
    refine Lib.hid ?_
    generalize (w.alloc (.cells #[.int .i64 0, .bool false, .slice none 0 0, .slice none 0 0, .slice none 0 0] 26)).alloc (.cells #[.slice A n c, .int .i64 n] 54) = w2 at hb2 hx2 hx1' ⊢
    have hrd : RD w2 (w.heap.size + 1) n xs := by
      have hl := HLEN.out
      refine ⟨⟨A, c, by rw [hl]; exact hx2, by rw [hl]; exact HC.out, by rw [hl]; exact Kd.C_below HCC.out hb2, fun ad e h0 => ?_⟩, by omega, by omega, HIN.out⟩
      obtain ⟨ad', e', hcell⟩ := Kd.at_int HCC.out (0 : Int) (by omega) (by omega)
      rw [e] at e'
      cases e'
      have := World.block_lt_of_cell? _ _ hcell
      rw [add_block] at this
      omega
    have HDE := Lib.hid (show decode xs = rwhole xs by unfold decode; rw [if_neg (by rw [HLEN.out]; omega)])
    generalize hgb : w.heap.size = gb at hx1' hx2 hrd ⊢
    have HGB := Lib.hid hgb
    have HB2 := Lib.hid hb2
    have HX1 := Lib.hid hx1'
    have hs2 : gb + 1 < w2.heap.size := blk_lt hx2
    clear hb1 hx1 hs1 hb2 hx2 hx1' hgb
    refine (whole_of w2 (gb + 1) n xs hrd).mono ?_
    rintro e w3 ⟨hg, ⟨x, cs, hres, rfl, hFK⟩ | ⟨hres, kk, g0, g1, B2, n2, d2, B3, n3, d3, B4, n4, d4, hq, rfl⟩⟩
    · obtain ⟨X2, d2, X3, d3, X4, d4, rfl⟩ := FK_lit hFK
      have HRES := Lib.hid (HDE.out.trans hres)
      have hbw : Below gb w w3 := by rw [← HGB.out]; exact below_move (rb := gb + 1) HB2.out hg (by rw [HGB.out]; omega) (by rw [HGB.out]; omega)
      have hx3 := blk_grown HX1.out hg (by intro e; injection e with e; omega)
      have hba := below_alloc (Below.refl w3.heap.size w3) (.cells #[.int .i64 x.f0, .bool x.f1, .slice X2 x.f2.length d2, .slice X3 x.f3.length d3, .slice X4 x.f4.length d4] 26)
      have hbn : (w3.alloc (.cells #[.int .i64 x.f0, .bool x.f1, .slice X2 x.f2.length d2, .slice X3 x.f3.length d3, .slice X4 x.f4.length d4] 26)).heap[w3.heap.size]? = some (.cells #[.int .i64 x.f0, .bool x.f1, .slice X2 x.f2.length d2, .slice X3 x.f3.length d3, .slice X4 x.f4.length d4] 26 (0, 0)) := heap_alloc_new _ _
      have hsz : (w3.alloc (.cells #[.int .i64 x.f0, .bool x.f1, .slice X2 x.f2.length d2, .slice X3 x.f3.length d3, .slice X4 x.f4.length d4] 26)).heap.size = w3.heap.size + 1 := by simp
      have hbb := below_alloc (Below.refl (w3.alloc (.cells #[.int .i64 x.f0, .bool x.f1, .slice X2 x.f2.length d2, .slice X3 x.f3.length d3, .slice X4 x.f4.length d4] 26)).heap.size (w3.alloc (.cells #[.int .i64 x.f0, .bool x.f1, .slice X2 x.f2.length d2, .slice X3 x.f3.length d3, .slice X4 x.f4.length d4] 26))) (.cells #[.int .i64 0] 57)
      have HN5 := Lib.hid ((hbb.block w3.heap.size (blk_lt hbn)).trans hbn)
      have HX5 := Lib.hid ((hbb.block gb (by rw [hsz]; have := blk_lt hx3; omega)).trans ((hba.block gb (blk_lt hx3)).trans hx3))
      have HB5 := Lib.hid (hbw.trans (((hba.trans (hbb.mono (by rw [hsz]; omega))).mono (show gb ≤ w3.heap.size by have := blk_lt hx3; omega))))
      have HF5 := Lib.hid (Kd.FK_below (Kd.FK_below (Kd.FK_mono hFK (ok' := fun k => gb < k) (fun k hk => by omega)) hba) hbb)
      clear hg hres hFK hbw hx3 hba hbn hbb hrd
      have hfn := @as_nil
      go_wp2_with (go_at_call 15; refine Hid.out ?_)
      refine Lib.hid ?_
      generalize (w3.alloc (.cells #[.int .i64 x.f0, .bool x.f1, .slice X2 x.f2.length d2, .slice X3 x.f3.length d3, .slice X4 x.f4.length d4] 26)).alloc (.cells #[.int .i64 0] 57) = w5 at HN5 HX5 HB5 HF5 ⊢
      generalize w3.heap.size = gx at HN5 ⊢
      refine (as_nil _ w5).mono ?_
      rintro e w6 ⟨rfl, rfl⟩
      obtain ⟨p0, p1, p2, p3, p4⟩ := row_cells HN5.out
      obtain ⟨q0, q1, q2, q3, q4⟩ := row_cells HX5.out
      obtain ⟨f0, f1, f2, f3, f4⟩ := row_free HX5.out
      clear hfn hsz
      go_wp2_with fail
      refine bodyPost_ret (results_cell2 Tryd.results7 rfl (row_load (row_five HX5.out _ _ _ _ _) rfl)) rfl ⟨by rw [HGB.out]; exact below_five HB5.out (Nat.le_refl _) _ _ _ _ _, Or.inl ⟨x, _, HRES.out, rfl, ?_⟩⟩
      exact Kd.FK_now (Kd.FK_step HF5.out fun k hk _ => five_far (by omega))
    · have HRES := Lib.hid (HDE.out.trans hres)
      have HQ := Lib.hid hq
      have hbw : Below gb w w3 := by rw [← HGB.out]; exact below_move (rb := gb + 1) HB2.out hg (by rw [HGB.out]; omega) (by rw [HGB.out]; omega)
      have hx3 := blk_grown HX1.out hg (by intro e; injection e with e; omega)
      have hba := below_alloc (Below.refl w3.heap.size w3) (.cells #[.int .i64 g0, .bool g1, .slice B2 n2 d2, .slice B3 n3 d3, .slice B4 n4 d4] 26)
      have hsz : (w3.alloc (.cells #[.int .i64 g0, .bool g1, .slice B2 n2 d2, .slice B3 n3 d3, .slice B4 n4 d4] 26)).heap.size = w3.heap.size + 1 := by simp
      have hbb := below_alloc (Below.refl (w3.alloc (.cells #[.int .i64 g0, .bool g1, .slice B2 n2 d2, .slice B3 n3 d3, .slice B4 n4 d4] 26)).heap.size (w3.alloc (.cells #[.int .i64 g0, .bool g1, .slice B2 n2 d2, .slice B3 n3 d3, .slice B4 n4 d4] 26))) (.cells #[.int .i64 0] 57)
      have hfb : ((w3.alloc (.cells #[.int .i64 g0, .bool g1, .slice B2 n2 d2, .slice B3 n3 d3, .slice B4 n4 d4] 26)).alloc (.cells #[.int .i64 0] 57)).heap[w3.heap.size + 1]? = some (.cells #[.int .i64 0] 57 (0, 0)) := by rw [← hsz]; exact heap_alloc_new _ _
      have hx5 := (hbb.block gb (by rw [hsz]; have := blk_lt hx3; omega)).trans ((hba.block gb (blk_lt hx3)).trans hx3)
      have hb5 := hbw.trans (((hba.trans (hbb.mono (by rw [hsz]; omega))).mono (show gb ≤ w3.heap.size by have := blk_lt hx3; omega)))
      have hgx : gb < w3.heap.size := blk_lt hx3
      clear hg hres hbw hx3 hba hbb hrd hsz hq
      unfold flt
      go_wp2_with (go_at_call 15; refine Hid.out ?_)
      refine Lib.hid ?_
      generalize (w3.alloc (.cells #[.int .i64 g0, .bool g1, .slice B2 n2 d2, .slice B3 n3 d3, .slice B4 n4 d4] 26)).alloc (.cells #[.int .i64 0] 57) = w5 at hfb hx5 hb5 ⊢
      generalize w3.heap.size = gx at hfb hgx ⊢
      have hg5 : w5.cell? ⟨0, 0, none⟩ = some (.iface 93 (.agg #[.pointer (some ⟨4, 50, none⟩)])) := by
        have h0 := World.block_lt_of_cell? _ _ HGE.out
        rw [hb5.cell (p := ⟨0, 0, none⟩) (by have := HGB.out; show 0 < gb; simp at h0; omega)]
        exact HGE.out
      refine (as_var kk (gx + 1) w5 hg5 hfb).mono ?_
      rintro e w6 ⟨rfl, hg6, hf6⟩
      have HX6 := Lib.hid (blk_grown hx5 hg6 (by intro e; injection e with e; omega))
      have HB6 := Lib.hid (below_move (rb := gx + 1) hb5 hg6 (by omega) (by have := blk_lt hfb; omega))
      have p0 := cell_of_row w6 (gx + 1) 0 _ _ _ hf6
      simp only [List.getElem?_toArray, List.getElem?_cons_zero] at p0
      obtain ⟨q0, q1, q2, q3, q4⟩ := row_cells HX6.out
      obtain ⟨f0, f1, f2, f3, f4⟩ := row_free HX6.out
      have hne : ¬ gb = gx + 1 := by omega
      have hne' : ¬ gx + 1 = gb := by omega
      clear hg6 hf6 hg5 hfb hx5 hb5 hgx
      go_wp2_with fail
      go_region
      all_goals
        go_wp2_with fail
        refine bodyPost_ret (results_cell2 Tryd.results7 rfl (row_load (row_five (w := w6.drew) HX6.out _ _ _ _ _) rfl)) rfl ⟨by rw [HGB.out]; exact below_five (below_drew HB6.out) (Nat.le_refl _) _ _ _ _ _, Or.inr ⟨HRES.out, kk, HQ.out, rfl⟩⟩
end Go.Proofs.YtdehcojmgmjcmaaDoor
