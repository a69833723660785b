/- reader.whole, walked. -/
import Derived.Test.YtdehcojmgmjcmaaDoorRk
namespace Go.Proofs.YtdehcojmgmjcmaaDoor
set_option linter.unusedVariables false
set_option linter.unusedSimpArgs false
open Go.RowKit QArchiveBack Go.Proofs.YtdehcojmgmjcmaaDoorW.PrintWords Go.Proofs.YtdehcojmgmjcmaaDoorW.PrintLast Go.Proofs.YtdehcojmgmjcmaaDoorW.PrintMore
def WholePost (w : World) (rb : Nat) (res : Option S26) (e : Ending) (w' : World) : Prop :=
  w.grownBy w' (some rb) ∧ ((∃ x cs, res = some x ∧ e = .returned (.tuple #[.agg cs, .nilIface]) ∧ Kd.FK k26 w' (fun k => w.heap.size ≤ k) x cs.toList)
    ∨ (res = none ∧ ∃ k f0 f1 A2 n2 c2 A3 n3 c3 A4 n4 c4, k ≠ 0 ∧ e = .returned (.tuple #[.agg #[.int .i64 f0, .bool f1, .slice A2 n2 c2, .slice A3 n3 c3, .slice A4 n4 c4], flt k])))
theorem RD.cell {w : World} {rb long : Nat} {l : List Int} (h : RD w rb long l) : ∃ A c, w.cell? ⟨rb, 0, none⟩ = some (.slice A l.length c) := by
  obtain ⟨A, c, h1, _⟩ := h.st
  have q0 := cell_of_row w rb 0 _ _ _ h1
  simp only [List.getElem?_toArray, List.getElem?_cons_zero] at q0
  exact ⟨A, c, q0⟩
theorem node_one (w : World) (rb long : Nat) (l : List Int) (h : RD w rb long l) : Calls Tryd.prog 22 #[.pointer (some ⟨rb, 0, none⟩), .int .i64 1] w fun e w' => NodePost w rb long (rnode 32 l) e w' := by
  have := node_all 32 (Nat.le_refl _) w rb long l h
  rw [show (33 : Int) - ((32 : Nat) : Int) = 1 by decide] at this
  exact this
set_option maxRecDepth 8000 in
set_option maxHeartbeats 8000000 in
theorem whole_of (w : World) (rb long : Nat) (l : List Int) (h : RD w rb long l) :
    Calls Tryd.prog 14 #[.pointer (some ⟨rb, 0, none⟩)] w fun e w' => WholePost w rb (rwhole l) e w' := by
  have H := Lib.hid h
  clear h
  have hnb := NB.first (rb := rb) (f0 := 0) (f1 := false) (v2 := .slice none 0 0) (v3 := .slice none 0 0) (v4 := .slice none 0 0) w H.out.lt
  have hr1 := H.out.below (below_alloc (Below.refl w.heap.size w) (.cells #[.int .i64 0, .bool false, .slice none 0 0, .slice none 0 0, .slice none 0 0] 26))
  go_enter Tryd.func14, Tryd.ntmps14
  go_upto_region 1 with fail
  generalize w.alloc (.cells #[.int .i64 0, .bool false, .slice none 0 0, .slice none 0 0, .slice none 0 0] 26) = w1 at hnb hr1 ⊢
  generalize hgb : w.heap.size = gb at hnb ⊢
  have HGB := Lib.hid hgb
  have HN1 := Lib.hid hnb
  have HR1 := Lib.hid hr1
  clear hgb hnb hr1
  have hlit := must_lit w1 rb long [wMagic] l HR1.out (by decide)
  go_wp2_with (go_at_call 21; refine hlit.mono ?_; rintro e w2 ⟨hg, ⟨r, hm, rfl, hrd⟩ | ⟨hm, k3, hk, rfl⟩⟩ <;> refine Hid.out ?_)
  · refine Lib.hid ?_
    have HN2 := Lib.hid (HN1.out.call hg)
    have HR2 := Lib.hid hrd
    have hres : rwhole l = (rnode 32 r).bind fun x => if x.2 = [] then (if right x.1 = 0 then some x.1 else none) else none := by rw [rwhole, hm]; simp only [Option.bind_some]
    have HP1 := Lib.hid hres
    clear hg hrd hm hres hlit HN1 HR1
    go_wp2_with (go_at_call 22; refine Hid.out ?_)
    refine Lib.hid ?_
    refine (node_one w2 rb long r HR2.out).mono ?_
    rintro e w3 ⟨hg, ⟨x, q, cs, hrn, rfl, hFK, hrd⟩ | ⟨hrn, kk, g0, g1, B2, n2, d2, B3, n3, d3, B4, n4, d4, hq, rfl⟩⟩
    · obtain ⟨X2, d2, X3, d3, X4, d4, rfl⟩ := FK_lit hFK
      have hba := below_alloc (Below.refl w3.heap.size w3) (.cells #[.int .i64 x.f0, .bool x.f1, .slice X2 x.f2.length d2, .slice X3 x.f3.length d3, .slice X4 x.f4.length d4] 26)
      have HN4 := Lib.hid ((HN2.out.call hg).call (grown_of_below hba (some rb)))
      have hinv := rnode_inv 32 r x q HR2.out.inb hrn
      have HFI : Hid (fits x) := Lib.hid (by
        refine fits_len _ x (Nat.le_refl _) hinv.2.2.2 ?_
        have h1 := HR2.out.le
        have h2 := HR2.out.max
        rw [hinv.1, List.length_append] at h1
        omega)
      have hres := HP1.out
      rw [hrn] at hres
      simp only [Option.bind_some] at hres
      have HP2 := Lib.hid hres
      have HR4 := Lib.hid (hrd.below hba)
      have HFK := Lib.hid (Kd.FK_below (Kd.FK_mono hFK (ok' := fun k => gb < k) (fun k hk => by have := blk_lt HN2.out.box; omega)) hba)
      have HBX : Hid ((w3.alloc (.cells #[.int .i64 x.f0, .bool x.f1, .slice X2 x.f2.length d2, .slice X3 x.f3.length d3, .slice X4 x.f4.length d4] 26)).heap[w3.heap.size]? = some (.cells #[.int .i64 x.f0, .bool x.f1, .slice X2 x.f2.length d2, .slice X3 x.f3.length d3, .slice X4 x.f4.length d4] 26 (0, 0))) := Lib.hid (heap_alloc_new _ _)
      clear hg hrd hrn hFK hres HP1 hinv HR2 hba
      generalize hw4 : w3.alloc (.cells #[.int .i64 x.f0, .bool x.f1, .slice X2 x.f2.length d2, .slice X3 x.f3.length d3, .slice X4 x.f4.length d4] 26) = w4 at HN4 HR4 HFK HBX
      generalize hgx : w3.heap.size = gx at HBX
      obtain ⟨QA, qc, hqc⟩ := HR4.out.cell
      have p0 := cell_of_row w4 gx 0 _ _ _ HBX.out
      have p1 := cell_of_row w4 gx 1 _ _ _ HBX.out
      have p2 := cell_of_row w4 gx 2 _ _ _ HBX.out
      have p3 := cell_of_row w4 gx 3 _ _ _ HBX.out
      have p4 := cell_of_row w4 gx 4 _ _ _ HBX.out
      simp only [List.getElem?_toArray, List.getElem?_cons_succ, List.getElem?_cons_zero] at p0 p1 p2 p3 p4
      have HK4 := Lib.hid (Kd.FK_now HFK.out)
      by_cases hq : q = []
      · subst hq
        have hres := HP2.out
        rw [if_pos rfl] at hres
        have HP3 := Lib.hid hres
        clear hres HP2
        have hrt := right_of w4 x [.int .i64 x.f0, .bool x.f1, .slice X2 x.f2.length d2, .slice X3 x.f3.length d3, .slice X4 x.f4.length d4] HK4.out HFI.out
        have hq0 : w4.cell? ⟨rb, 0, none⟩ = some (.slice QA 0 qc) := hqc
        clear hqc
        go_wp2_with (go_at_call 10; (try rw [hw4]); refine hrt.mono ?_; rintro e w5 ⟨rfl, hb5⟩; refine Hid.out ?_)
        refine Lib.hid ?_
        have HN5 := Lib.hid (HN4.out.call (grown_of_below hb5 _))
        have HFK5 := Lib.hid (Kd.FK_below HFK.out hb5)
        have hbx5 := (hb5.block gx (blk_lt HBX.out)).trans HBX.out
        clear hb5 hrt p0 p1 p2 p3 p4 hw4 hgx hq0
        have p0 := cell_of_row w5 gx 0 _ _ _ hbx5
        have p1 := cell_of_row w5 gx 1 _ _ _ hbx5
        have p2 := cell_of_row w5 gx 2 _ _ _ hbx5
        have p3 := cell_of_row w5 gx 3 _ _ _ hbx5
        have p4 := cell_of_row w5 gx 4 _ _ _ hbx5
        simp only [List.getElem?_toArray, List.getElem?_cons_succ, List.getElem?_cons_zero] at p0 p1 p2 p3 p4
        obtain ⟨q0, q1, q2, q3, q4⟩ := HN5.out.cells
        obtain ⟨f0, f1, f2, f3, f4⟩ := HN5.out.free
        clear hbx5
        by_cases hr : right x = 0
        · have HRES := Lib.hid (HP3.out.trans (if_pos hr))
          rw [hr]
          go_wp2_with fail
          refine bodyPost_ret (results_cell2 Tryd.results14 rfl (HN5.out.fiveTo _ _ _ _ _).load) rfl ⟨(HN5.out.fiveTo _ _ _ _ _).gr, Or.inl ⟨x, _, HRES.out, rfl, ?_⟩⟩
          exact Kd.FK_mono (Kd.FK_step HFK5.out fun k hk _ => five_far (by omega)) (fun k hk => by have := HGB.out; omega)
        · have HRES := Lib.hid (HP3.out.trans (if_neg hr))
          have HRN := Lib.hid hr
          have b0 : (right x == 0) = false := by simpa using hr
          have b1 : (right x != 0) = true := by simpa using hr
          go_wp2_with fail
          refine bodyPost_ret (results_cell2 Tryd.results14 rfl (HN5.out.fiveTo _ _ _ _ _).load) rfl ⟨(HN5.out.fiveTo _ _ _ _ _).gr, Or.inr ⟨HRES.out, right x, _, _, _, _, _, _, _, _, _, _, _, HRN.out, rfl⟩⟩
      · have HRES := Lib.hid (HP2.out.trans (if_neg hq))
        have hq1 : (0 : Int) < (q.length : Int) := by
          have := List.length_pos_iff.2 hq
          omega
        obtain ⟨q0, q1, q2, q3, q4⟩ := HN4.out.cells
        obtain ⟨f0, f1, f2, f3, f4⟩ := HN4.out.free
        go_wp2_with fail
        refine bodyPost_ret (results_cell2 Tryd.results14 rfl (HN4.out.fiveTo _ _ _ _ _).load) rfl ⟨(HN4.out.fiveTo _ _ _ _ _).gr, Or.inr ⟨HRES.out, 10, _, _, _, _, _, _, _, _, _, _, _, by decide, rfl⟩⟩
    · have hba := below_alloc (Below.refl w3.heap.size w3) (.cells #[.int .i64 g0, .bool g1, .slice B2 n2 d2, .slice B3 n3 d3, .slice B4 n4 d4] 26)
      have HN4 := Lib.hid ((HN2.out.call hg).call (grown_of_below hba (some rb)))
      have HRES := Lib.hid (show rwhole l = none by rw [HP1.out, hrn]; simp only [Option.bind_none])
      have HQ := Lib.hid hq
      clear hg hrn hq HP1 hba
      have HBX : Hid ((w3.alloc (.cells #[.int .i64 g0, .bool g1, .slice B2 n2 d2, .slice B3 n3 d3, .slice B4 n4 d4] 26)).heap[w3.heap.size]? = some (.cells #[.int .i64 g0, .bool g1, .slice B2 n2 d2, .slice B3 n3 d3, .slice B4 n4 d4] 26 (0, 0))) := Lib.hid (heap_alloc_new _ _)
      generalize hw4 : w3.alloc (.cells #[.int .i64 g0, .bool g1, .slice B2 n2 d2, .slice B3 n3 d3, .slice B4 n4 d4] 26) = w4 at HN4 HBX
      generalize hgx : w3.heap.size = gx at HBX
      have p0 := cell_of_row w4 gx 0 _ _ _ HBX.out
      have p1 := cell_of_row w4 gx 1 _ _ _ HBX.out
      have p2 := cell_of_row w4 gx 2 _ _ _ HBX.out
      have p3 := cell_of_row w4 gx 3 _ _ _ HBX.out
      have p4 := cell_of_row w4 gx 4 _ _ _ HBX.out
      simp only [List.getElem?_toArray, List.getElem?_cons_succ, List.getElem?_cons_zero] at p0 p1 p2 p3 p4
      obtain ⟨q0, q1, q2, q3, q4⟩ := HN4.out.cells
      obtain ⟨f0, f1, f2, f3, f4⟩ := HN4.out.free
      unfold flt
      go_wp2_with fail
      refine bodyPost_ret (results_cell2 Tryd.results14 rfl (HN4.out.fiveTo _ _ _ _ _).load) rfl ⟨(HN4.out.fiveTo _ _ _ _ _).gr, Or.inr ⟨HRES.out, kk, g0, g1, _, _, _, _, _, _, _, _, _, HQ.out, rfl⟩⟩
  · refine Lib.hid ?_
    have HN2 := Lib.hid (HN1.out.call hg)
    have HRES := Lib.hid (show rwhole l = none by rw [rwhole, hm]; simp only [Option.bind_none])
    have HK := Lib.hid hk
    clear hg hm hlit hk
    obtain ⟨q0, q1, q2, q3, q4⟩ := HN2.out.cells
    obtain ⟨f0, f1, f2, f3, f4⟩ := HN2.out.free
    unfold flt
    go_wp2_with fail
    refine bodyPost_ret (results_cell2 Tryd.results14 rfl (HN2.out.fiveTo _ _ _ _ _).load) rfl ⟨(HN2.out.fiveTo _ _ _ _ _).gr, Or.inr ⟨HRES.out, k3, 0, false, _, _, _, none, 0, 0, none, 0, 0, HK.out, rfl⟩⟩
end Go.Proofs.YtdehcojmgmjcmaaDoor
