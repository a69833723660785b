/- reader.node, walked, by induction on how deep it may go. -/
import Derived.Test.YtdehcojmgmjcmaaDoorRi
namespace Go.Proofs.YtdehcojmgmjcmaaDoor
set_option linter.unusedVariables false
set_option linter.unusedSimpArgs false
open Go.RowKit QArchiveBack Go.Proofs.YtdehcojmgmjcmaaDoorW.PrintWords Go.Proofs.YtdehcojmgmjcmaaDoorW.PrintLast Go.Proofs.YtdehcojmgmjcmaaDoorW.PrintMore
theorem NB.fiveTo {w w1 : World} {rb gb : Nat} {f0 : Int} {f1 : Bool} {v2 v3 v4 : Value} (h : NB w w1 rb gb f0 f1 v2 v3 v4) (g0 : Int) (g1 : Bool) (u2 u3 u4 : Value) : NB w (((((w1.setCell ⟨gb, 0, none⟩ (.int .i64 g0)).setCell ⟨gb, 1, none⟩ (.bool g1)).setCell ⟨gb, 2, none⟩ u2).setCell ⟨gb, 3, none⟩ u3).setCell ⟨gb, 4, none⟩ u4) rb gb g0 g1 u2 u3 u4 := ((((h.set0 g0).set1 g1).set2 u2).set3 u3).set4 u4
theorem eq_reg (s : ByteArray) : (s.toList == [114, 101, 103, 117, 108, 97, 114]) = decide (s = wReg) := by
  rw [show [114, 101, 103, 117, 108, 97, 114] = wReg.toList from by rw [Lib.toList_data]; rfl]; exact beq_toList s wReg
theorem eq_sym (s : ByteArray) : (s.toList == [115, 121, 109, 108, 105, 110, 107]) = decide (s = wSym) := by
  rw [show [115, 121, 109, 108, 105, 110, 107] = wSym.toList from by rw [Lib.toList_data]; rfl]; exact beq_toList s wSym
theorem eq_dir (s : ByteArray) : (s.toList == [100, 105, 114, 101, 99, 116, 111, 114, 121]) = decide (s = wDir) := by
  rw [show [100, 105, 114, 101, 99, 116, 111, 114, 121] = wDir.toList from by rw [Lib.toList_data]; rfl]; exact beq_toList s wDir
set_option maxRecDepth 8000 in
set_option maxHeartbeats 8000000 in
theorem node_deep : NodeC 0 := by
  intro w rb long l h
  have H := Lib.hid h
  clear h
  have hnb := NB.first (rb := rb) (f0 := 0) (f1 := false) (v2 := .slice none 0 0) (v3 := .slice none 0 0) (v4 := .slice none 0 0) w H.out.lt
  have HRES : Hid (rnode 0 l = none) := Lib.hid rfl
  show Calls Tryd.prog 22 #[.pointer (some ⟨rb, 0, none⟩), .int .i64 33] w _
  go_enter Tryd.func22, Tryd.ntmps22
  go_upto_region 1 with fail
  generalize w.alloc (.cells #[.int .i64 0, .bool false, .slice none 0 0, .slice none 0 0, .slice none 0 0] 26) = w1 at hnb ⊢
  generalize hgb : w.heap.size = gb at hnb ⊢
  have HN1 := Lib.hid hnb
  clear hnb hgb
  obtain ⟨q0, q1, q2, q3, q4⟩ := HN1.out.cells
  obtain ⟨f0, f1, f2, f3, f4⟩ := HN1.out.free
  go_wp2_with fail
  refine bodyPost_ret (results_cell2 Tryd.results22 rfl HN1.out.five.load) rfl ⟨HN1.out.five.gr, Or.inr ⟨HRES.out, 3, 0, false, _, _, _, none, 0, 0, none, 0, 0, by decide, rfl⟩⟩
set_option maxRecDepth 8000 in
set_option maxHeartbeats 8000000 in
theorem node_step (k : Nat) (hk : k ≤ 31) (ih : NodeC k) : NodeC (k + 1) := by
  intro w rb long l h
  have H := Lib.hid h
  have IH := Lib.hid ih
  clear h ih
  rw [show (33 : Int) - ((k + 1 : Nat) : Int) = 32 - (k : Int) by omega]
  have hnb := NB.first (rb := rb) (f0 := 0) (f1 := false) (v2 := .slice none 0 0) (v3 := .slice none 0 0) (v4 := .slice none 0 0) w H.out.lt
  have hr1 := H.out.below (below_alloc (Below.refl w.heap.size w) (.cells #[.int .i64 0, .bool false, .slice none 0 0, .slice none 0 0, .slice none 0 0] 26))
  have hd : ¬ (32 : Int) < 32 - (k : Int) := by omega
  go_enter Tryd.func22, Tryd.ntmps22
  go_upto_region 1 with fail
  generalize w.alloc (.cells #[.int .i64 0, .bool false, .slice none 0 0, .slice none 0 0, .slice none 0 0] 26) = w1 at hnb hr1 ⊢
  generalize hgb : w.heap.size = gb at hnb ⊢
  have HGB := Lib.hid hgb
  have HN1 := Lib.hid hnb
  have HR1 := Lib.hid hr1
  clear hgb hnb hr1
  have hlit := must_lit w1 rb long [wParen, wType] l HR1.out (by decide)
  go_wp2_with (go_at_call 21; refine hlit.mono ?_; rintro e w2 ⟨hg, ⟨r, hm, rfl, hrd⟩ | ⟨hm, k3, hk, rfl⟩⟩ <;> refine Hid.out ?_)
  · refine Lib.hid ?_
    have HN2 := Lib.hid (HN1.out.call hg)
    have HR2 := Lib.hid hrd
    have hres : rnode (k + 1) l = (rnext r).bind fun y => if y.1 = wReg then rreg y.2 else if y.1 = wSym then rsym y.2 else if y.1 = wDir then rents (rnode k) (y.2.length + 1) y.2 [] [] else none := by rw [rnode, hm]; rfl
    have HP1 := Lib.hid hres
    clear hg hrd hm hres hlit HN1 HR1
    go_wp2_with (go_at_call 32; refine (next_of w2 rb long r HR2.out).mono ?_; rintro e w3 ⟨hg, ⟨s, r3, hrn, rfl, hrd⟩ | ⟨hrn, q, hq, rfl⟩⟩ <;> refine Hid.out ?_)
    · refine Lib.hid ?_
      have HN3 := Lib.hid (HN2.out.call hg)
      have HR3 := Lib.hid hrd
      have hres := HP1.out
      rw [hrn] at hres
      simp only [Option.bind_some] at hres
      have HP2 := Lib.hid hres
      clear hg hrd hrn hres HP1 HN2 HR2
      have e1 := eq_reg s
      have e2 := eq_sym s
      have e3 := eq_dir s
      by_cases c1 : s = wReg
      · subst c1
        have hb1 : (wReg.toList == [114, 101, 103, 117, 108, 97, 114]) = true := by rw [e1]; simp
        have hres := HP2.out
        rw [if_pos rfl] at hres
        have HPR := Lib.hid hres
        clear e1 e2 e3 hres HP2
        go_wp2_with (go_at_call 33; refine Hid.out ?_)
        refine Lib.hid ?_
        refine (regular_of w3 rb long r3 HR3.out).mono ?_
        rintro e w4 ⟨hg, ⟨x, r6, cs, hrn, rfl, hFK, hrd⟩ | ⟨hrn, kk, g0, g1, B2, n2, d2, B3, n3, d3, B4, n4, d4, hq, rfl⟩⟩
        · obtain ⟨X2, d2, X3, d3, X4, d4, rfl⟩ := FK_lit hFK
          have HNE := Lib.hid (HN3.out.call hg)
          have HRDE := Lib.hid hrd
          have HRES := Lib.hid (HPR.out.trans hrn)
          have HFK := Lib.hid (Kd.FK_mono hFK (ok' := fun k => gb < k) (fun k hk => by have := blk_lt HN3.out.box; omega))
          clear hg hrd hrn hFK HPR
          obtain ⟨q0, q1, q2, q3, q4⟩ := HNE.out.cells
          obtain ⟨f0, f1, f2, f3, f4⟩ := HNE.out.free
          go_wp2_with fail
          refine bodyPost_ret (results_cell2 Tryd.results22 rfl (HNE.out.fiveTo _ _ _ _ _).load) rfl ⟨(HNE.out.fiveTo _ _ _ _ _).gr, Or.inl ⟨_, _, _, HRES.out, rfl, ?_, HRDE.out.move fun k hk => five_far (by have := HNE.out.old; have := HNE.out.lt; omega)⟩⟩
          exact Kd.FK_mono (Kd.FK_step HFK.out fun k hk _ => five_far (by omega)) (fun k hk => by have := HGB.out; omega)
        · have HNE := Lib.hid (HN3.out.call hg)
          have HRES := Lib.hid (HPR.out.trans hrn)
          have HQ := Lib.hid hq
          clear hg hrn HPR hq
          obtain ⟨q0, q1, q2, q3, q4⟩ := HNE.out.cells
          obtain ⟨f0, f1, f2, f3, f4⟩ := HNE.out.free
          unfold flt
          go_wp2_with fail
          refine bodyPost_ret (results_cell2 Tryd.results22 rfl (HNE.out.fiveTo _ _ _ _ _).load) rfl ⟨(HNE.out.fiveTo _ _ _ _ _).gr, Or.inr ⟨HRES.out, kk, g0, g1, _, _, _, _, _, _, _, _, _, HQ.out, rfl⟩⟩
      · have hb1 : (s.toList == [114, 101, 103, 117, 108, 97, 114]) = false := by rw [e1]; simpa using c1
        clear e1
        by_cases c2 : s = wSym
        · subst c2
          have hb2 : (wSym.toList == [115, 121, 109, 108, 105, 110, 107]) = true := by rw [e2]; simp
          have hres := HP2.out
          rw [if_neg c1, if_pos rfl, rsym] at hres
          have HPR := Lib.hid hres
          clear e2 e3 hres HP2 c1
          have hlit := must_lit w3 rb long [wTarget] r3 HR3.out (by decide)
          go_wp2_with (go_at_call 21; refine hlit.mono ?_; rintro e w4 ⟨hg, ⟨r4, hm, rfl, hrd⟩ | ⟨hm, k3, hk, rfl⟩⟩ <;> refine Hid.out ?_)
          · refine Lib.hid ?_
            have HN4 := Lib.hid ((HN3.out.call hg).set0 3)
            have HR4 := Lib.hid ((HN3.out.call hg).rd hrd 0 (.int .i64 3))
            have hfr : w4.frozen? ⟨gb, 0, none⟩ = false := blk_frozen (HN3.out.call hg).box 0
            have hq0 := (HN3.out.call hg).cells.1
            have hres := HPR.out
            rw [hm] at hres
            simp only [Option.bind_some] at hres
            have HP3 := Lib.hid hres
            clear hg hrd hm hres HPR hlit HN3 HR3
            generalize hw5 : w4.setCell ⟨gb, 0, none⟩ (.int .i64 3) = w5 at HN4 HR4
            go_wp2_with (go_at_call 34; (try rw [hw5]); refine (data_of w5 rb long r4 HR4.out).mono ?_; rintro e wd ⟨hg, ⟨d, q, A, c, hdt, rfl, hc, hF, hrd⟩ | ⟨hdt, k4, A, n, c, hk, rfl⟩⟩ <;> refine Hid.out ?_)
            · refine Lib.hid ?_
              have HND := Lib.hid (HN4.out.call hg)
              have hres := HP3.out
              rw [hdt] at hres
              simp only [Option.bind_some] at hres
              have HRES := Lib.hid hres
              have HC := Lib.hid hc
              have HF := Lib.hid (Kd.F_mono hF (ok' := fun k => gb < k) (fun k hk => by have := blk_lt HN4.out.box; omega))
              have HRD4 := Lib.hid hrd
              have hfr2 : wd.frozen? ⟨gb, 2, none⟩ = false := blk_frozen HND.out.box 2
              have hqd := HND.out.cells.2.2.1
              clear hg hres hc hF hrd hdt HP3 hfr hq0 hw5
              have HSET := Lib.hid (HND.out.set2 (.slice A d.length c))
              have HRD5 := Lib.hid (HND.out.rd HRD4.out 2 (.slice A d.length c))
              have HF2 := Lib.hid (F_setCell (p := ⟨gb, 2, none⟩) HF.out (fun k hk => by show k ≠ gb; omega) (.slice A d.length c))
              generalize hwe : wd.setCell ⟨gb, 2, none⟩ (.slice A d.length c) = we at HSET HRD5 HF2
              obtain ⟨q0, q1, q2, q3, q4⟩ := HSET.out.cells
              obtain ⟨f0, f1, f2, f3, f4⟩ := HSET.out.free
              go_wp2_with fail
              refine bodyPost_ret (results_cell2 Tryd.results22 rfl HSET.out.five.load) rfl ⟨HSET.out.five.gr, Or.inl ⟨_, _, _, HRES.out, rfl, ?_, HRD5.out.move fun k hk => five_far (by have := HSET.out.old; have := HSET.out.lt; omega)⟩⟩
              exact Kd.FK_mono (FK_file _ (fun k => gb < k) false 3 HC.out (Kd.F_step HF2.out fun k hk _ => five_far (by omega))) (fun k hk => by have := HGB.out; omega)
            · refine Lib.hid ?_
              have HND := Lib.hid (HN4.out.call hg)
              have hres := HP3.out
              rw [hdt] at hres
              have HRES : Hid (rnode (k + 1) l = none) := Lib.hid hres
              have HK := Lib.hid hk
              have hfr2 : wd.frozen? ⟨gb, 2, none⟩ = false := blk_frozen HND.out.box 2
              have hqd := HND.out.cells.2.2.1
              clear hg hres hdt HP3 hk hfr hq0 hw5
              have HSET := Lib.hid (HND.out.set2 (.slice A n c))
              generalize hwe : wd.setCell ⟨gb, 2, none⟩ (.slice A n c) = we at HSET
              obtain ⟨q0, q1, q2, q3, q4⟩ := HSET.out.cells
              obtain ⟨f0, f1, f2, f3, f4⟩ := HSET.out.free
              unfold flt
              go_wp2_with fail
              refine bodyPost_ret (results_cell2 Tryd.results22 rfl HSET.out.five.load) rfl ⟨HSET.out.five.gr, Or.inr ⟨HRES.out, k4, 3, false, _, _, _, none, 0, 0, none, 0, 0, HK.out, rfl⟩⟩
          · refine Lib.hid ?_
            have HN4 := Lib.hid (HN3.out.call hg)
            have hres := HPR.out
            rw [hm] at hres
            have HRES : Hid (rnode (k + 1) l = none) := Lib.hid hres
            have HK := Lib.hid hk
            clear hg hm hres HPR hlit hk
            obtain ⟨q0, q1, q2, q3, q4⟩ := HN4.out.cells
            obtain ⟨f0, f1, f2, f3, f4⟩ := HN4.out.free
            unfold flt
            go_wp2_with fail
            refine bodyPost_ret (results_cell2 Tryd.results22 rfl HN4.out.five.load) rfl ⟨HN4.out.five.gr, Or.inr ⟨HRES.out, k3, 0, false, _, _, _, none, 0, 0, none, 0, 0, HK.out, rfl⟩⟩
        · have hb2 : (s.toList == [115, 121, 109, 108, 105, 110, 107]) = false := by rw [e2]; simpa using c2
          clear e2
          by_cases c3 : s = wDir
          · subst c3
            have hb3 : (wDir.toList == [100, 105, 114, 101, 99, 116, 111, 114, 121]) = true := by rw [e3]; simp
            have hres := HP2.out
            rw [if_neg c1, if_neg c2, if_pos rfl] at hres
            have HPR := Lib.hid hres
            clear e3 hres HP2 c1 c2
            go_wp2_with (go_at_call 35; refine Hid.out ?_)
            refine Lib.hid ?_
            refine (directory_of k hk IH.out w3 rb long r3 HR3.out).mono ?_
            rintro e w4 ⟨hg, ⟨x, r6, cs, hrn, rfl, hFK, hrd⟩ | ⟨hrn, kk, g0, g1, B2, n2, d2, B3, n3, d3, B4, n4, d4, hq, rfl⟩⟩
            · obtain ⟨X2, d2, X3, d3, X4, d4, rfl⟩ := FK_lit hFK
              have HNE := Lib.hid (HN3.out.call hg)
              have HRDE := Lib.hid hrd
              have HRES := Lib.hid (HPR.out.trans hrn)
              have HFK := Lib.hid (Kd.FK_mono hFK (ok' := fun k => gb < k) (fun k hk => by have := blk_lt HN3.out.box; omega))
              clear hg hrd hrn hFK HPR
              obtain ⟨q0, q1, q2, q3, q4⟩ := HNE.out.cells
              obtain ⟨f0, f1, f2, f3, f4⟩ := HNE.out.free
              go_wp2_with fail
              refine bodyPost_ret (results_cell2 Tryd.results22 rfl (HNE.out.fiveTo _ _ _ _ _).load) rfl ⟨(HNE.out.fiveTo _ _ _ _ _).gr, Or.inl ⟨_, _, _, HRES.out, rfl, ?_, HRDE.out.move fun k hk => five_far (by have := HNE.out.old; have := HNE.out.lt; omega)⟩⟩
              exact Kd.FK_mono (Kd.FK_step HFK.out fun k hk _ => five_far (by omega)) (fun k hk => by have := HGB.out; omega)
            · have HNE := Lib.hid (HN3.out.call hg)
              have HRES := Lib.hid (HPR.out.trans hrn)
              have HQ := Lib.hid hq
              clear hg hrn HPR hq
              obtain ⟨q0, q1, q2, q3, q4⟩ := HNE.out.cells
              obtain ⟨f0, f1, f2, f3, f4⟩ := HNE.out.free
              unfold flt
              go_wp2_with fail
              refine bodyPost_ret (results_cell2 Tryd.results22 rfl (HNE.out.fiveTo _ _ _ _ _).load) rfl ⟨(HNE.out.fiveTo _ _ _ _ _).gr, Or.inr ⟨HRES.out, kk, g0, g1, _, _, _, _, _, _, _, _, _, HQ.out, rfl⟩⟩
          · have hb3 : (s.toList == [100, 105, 114, 101, 99, 116, 111, 114, 121]) = false := by rw [e3]; simpa using c3
            have hres := HP2.out
            rw [if_neg c1, if_neg c2, if_neg c3] at hres
            have HRES : Hid (rnode (k + 1) l = none) := Lib.hid hres
            clear e3 hres HP2
            obtain ⟨q0, q1, q2, q3, q4⟩ := HN3.out.cells
            obtain ⟨f0, f1, f2, f3, f4⟩ := HN3.out.free
            go_wp2_with fail
            refine bodyPost_ret (results_cell2 Tryd.results22 rfl HN3.out.five.load) rfl ⟨HN3.out.five.gr, Or.inr ⟨HRES.out, 10, 0, false, _, _, _, none, 0, 0, none, 0, 0, by decide, rfl⟩⟩
    · refine Lib.hid ?_
      have HN3 := Lib.hid (HN2.out.call hg)
      have hres := HP1.out
      rw [hrn] at hres
      have HRES : Hid (rnode (k + 1) l = none) := Lib.hid hres
      have HQ := Lib.hid hq
      clear hg hrn hres HP1 hq
      obtain ⟨q0, q1, q2, q3, q4⟩ := HN3.out.cells
      obtain ⟨f0, f1, f2, f3, f4⟩ := HN3.out.free
      unfold flt
      go_wp2_with fail
      refine bodyPost_ret (results_cell2 Tryd.results22 rfl HN3.out.five.load) rfl ⟨HN3.out.five.gr, Or.inr ⟨HRES.out, q, 0, false, _, _, _, none, 0, 0, none, 0, 0, HQ.out, rfl⟩⟩
  · refine Lib.hid ?_
    have HN2 := Lib.hid (HN1.out.call hg)
    have HRES := Lib.hid (show rnode (k + 1) l = none by rw [rnode, hm]; rfl)
    have HK := Lib.hid hk
    clear hg hm hlit hk
    obtain ⟨q0, q1, q2, q3, q4⟩ := HN2.out.cells
    obtain ⟨f0, f1, f2, f3, f4⟩ := HN2.out.free
    unfold flt
    go_wp2_with fail
    refine bodyPost_ret (results_cell2 Tryd.results22 rfl HN2.out.five.load) rfl ⟨HN2.out.five.gr, Or.inr ⟨HRES.out, k3, 0, false, _, _, _, none, 0, 0, none, 0, 0, HK.out, rfl⟩⟩
theorem node_all : ∀ k, k ≤ 32 → NodeC k
  | 0, _ => node_deep
  | k + 1, h => node_step k (by omega) (node_all k (by omega))
end Go.Proofs.YtdehcojmgmjcmaaDoor
