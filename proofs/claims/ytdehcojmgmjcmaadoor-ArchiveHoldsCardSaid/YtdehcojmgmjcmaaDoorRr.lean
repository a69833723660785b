/- reader.regular, walked. -/
import Derived.Test.YtdehcojmgmjcmaaDoorRd
namespace Go.Proofs.YtdehcojmgmjcmaaDoor
set_option linter.unusedVariables false
set_option linter.unusedSimpArgs false
open Go.RowKit QArchiveBack Go.Proofs.YtdehcojmgmjcmaaDoorW.PrintWords Go.Proofs.YtdehcojmgmjcmaaDoorW.PrintLast Go.Proofs.YtdehcojmgmjcmaaDoorW.PrintMore
/-- what node, regular, directory hand back -/
def NodePost (w : World) (rb long : Nat) (res : Option (S26 × List Int)) (e : Ending) (w' : World) : Prop :=
  w.grownBy w' (some rb) ∧ ((∃ x r cs, res = some (x, r) ∧ e = .returned (.tuple #[.agg cs, .nilIface]) ∧ Kd.FK k26 w' (fun k => w.heap.size ≤ k) x cs.toList ∧ RD w' rb long r)
    ∨ (res = none ∧ ∃ k f0 f1 A2 n2 c2 A3 n3 c3 A4 n4 c4, k ≠ 0 ∧ e = .returned (.tuple #[.agg #[.int .i64 f0, .bool f1, .slice A2 n2 c2, .slice A3 n3 c3, .slice A4 n4 c4], flt k])))
/-- the local node at block gb -/
structure NB (w w1 : World) (rb gb : Nat) (f0 : Int) (f1 : Bool) (v2 v3 v4 : Value) : Prop where
  gr : w.grownBy w1 (some rb)
  box : w1.heap[gb]? = some (.cells #[.int .i64 f0, .bool f1, v2, v3, v4] 26 (0, 0))
  old : w.heap.size ≤ gb
  lt : rb < w.heap.size
section
variable {w w1 w2 : World} {rb gb long : Nat} {f0 : Int} {f1 : Bool} {v2 v3 v4 : Value} {l : List Int}
theorem NB.call (h : NB w w1 rb gb f0 f1 v2 v3 v4) (hg : w1.grownBy w2 (some rb)) : NB w w2 rb gb f0 f1 v2 v3 v4 :=
  ⟨h.gr.trans hg, blk_grown h.box hg (by intro e; injection e with e; have := h.old; have := h.lt; omega), h.old, h.lt⟩
theorem NB.first (w : World) (hlt : rb < w.heap.size) : NB w (w.alloc (.cells #[.int .i64 f0, .bool f1, v2, v3, v4] 26)) rb w.heap.size f0 f1 v2 v3 v4 :=
  ⟨World.grownBy_alloc w _ _, heap_alloc_new _ _, Nat.le_refl _, hlt⟩
theorem NB.gset (h : NB w w1 rb gb f0 f1 v2 v3 v4) (i : Nat) (v : Value) : w.grownBy (w1.setCell ⟨gb, i, none⟩ v) (some rb) :=
  ⟨h.gr.os, h.gr.tape, h.gr.output, by simpa [World.setCell] using h.gr.size, fun k hk hr => (Below.heap_setCell w1 ⟨gb, i, none⟩ v k (by have := h.old; show k ≠ gb; omega)).trans (h.gr.block k hk hr)⟩
theorem NB.set1 (h : NB w w1 rb gb f0 f1 v2 v3 v4) (b : Bool) : NB w (w1.setCell ⟨gb, 1, none⟩ (.bool b)) rb gb f0 b v2 v3 v4 := ⟨h.gset _ _, blk_set h.box 1 _, h.old, h.lt⟩
theorem NB.set0 (h : NB w w1 rb gb f0 f1 v2 v3 v4) (b : Int) : NB w (w1.setCell ⟨gb, 0, none⟩ (.int .i64 b)) rb gb b f1 v2 v3 v4 := ⟨h.gset _ _, blk_set h.box 0 _, h.old, h.lt⟩
theorem NB.set2 (h : NB w w1 rb gb f0 f1 v2 v3 v4) (v : Value) : NB w (w1.setCell ⟨gb, 2, none⟩ v) rb gb f0 f1 v v3 v4 := ⟨h.gset _ _, blk_set h.box 2 _, h.old, h.lt⟩
theorem NB.rd (h : NB w w1 rb gb f0 f1 v2 v3 v4) (hr : RD w1 rb long l) (i : Nat) (v : Value) : RD (w1.setCell ⟨gb, i, none⟩ v) rb long l :=
  hr.move fun k hk => Below.heap_setCell w1 ⟨gb, i, none⟩ v k (by have := h.old; have := h.lt; show k ≠ gb; omega)
theorem NB.cells (h : NB w w1 rb gb f0 f1 v2 v3 v4) : w1.cell? ⟨gb, 0, none⟩ = some (.int .i64 f0) ∧ w1.cell? ⟨gb, 1, none⟩ = some (.bool f1) ∧ w1.cell? ⟨gb, 2, none⟩ = some v2 ∧ w1.cell? ⟨gb, 3, none⟩ = some v3 ∧ w1.cell? ⟨gb, 4, none⟩ = some v4 := by
  have q0 := cell_of_row w1 gb 0 _ _ _ h.box
  have q1 := cell_of_row w1 gb 1 _ _ _ h.box
  have q2 := cell_of_row w1 gb 2 _ _ _ h.box
  have q3 := cell_of_row w1 gb 3 _ _ _ h.box
  have q4 := cell_of_row w1 gb 4 _ _ _ h.box
  simp only [List.getElem?_toArray, List.getElem?_cons_succ, List.getElem?_cons_zero] at q0 q1 q2 q3 q4
  exact ⟨q0, q1, q2, q3, q4⟩
end
theorem FK_file (W : World) (ok : Nat → Prop) (b : Bool) (f0 : Int) {d : List Int} {A : Option Addr} {c : Nat} (l2 : d.length ≤ c) (g2 : Kd.F (Kd.int .u8) W ok A d.length d) :
    Kd.FK k26 W ok ⟨f0, b, d, [], []⟩ [.int .i64 f0, .bool b, .slice A d.length c, .slice none 0 0, .slice none 0 0] :=
  k26_mkF W ok ⟨f0, b, d, [], []⟩ l2 g2 (Nat.le_refl _) (Kd.F_nil _ _ _) (Nat.le_refl _) (Kd.F_nil _ _ _)
theorem NB.set3 {w w1 : World} {rb gb : Nat} {f0 : Int} {f1 : Bool} {v2 v3 v4 : Value} (h : NB w w1 rb gb f0 f1 v2 v3 v4) (v : Value) : NB w (w1.setCell ⟨gb, 3, none⟩ v) rb gb f0 f1 v2 v v4 := ⟨h.gset _ _, blk_set h.box 3 _, h.old, h.lt⟩
theorem NB.set4 {w w1 : World} {rb gb : Nat} {f0 : Int} {f1 : Bool} {v2 v3 v4 : Value} (h : NB w w1 rb gb f0 f1 v2 v3 v4) (v : Value) : NB w (w1.setCell ⟨gb, 4, none⟩ v) rb gb f0 f1 v2 v3 v := ⟨h.gset _ _, blk_set h.box 4 _, h.old, h.lt⟩
theorem NB.five {w w1 : World} {rb gb : Nat} {f0 : Int} {f1 : Bool} {v2 v3 v4 : Value} (h : NB w w1 rb gb f0 f1 v2 v3 v4) : NB w (((((w1.setCell ⟨gb, 0, none⟩ (.int .i64 f0)).setCell ⟨gb, 1, none⟩ (.bool f1)).setCell ⟨gb, 2, none⟩ v2).setCell ⟨gb, 3, none⟩ v3).setCell ⟨gb, 4, none⟩ v4) rb gb f0 f1 v2 v3 v4 := ((((h.set0 f0).set1 f1).set2 v2).set3 v3).set4 v4
theorem five_far {w : World} {gb k : Nat} {u0 u1 u2 u3 u4 : Value} (h : k ≠ gb) : (((((w.setCell ⟨gb, 0, none⟩ u0).setCell ⟨gb, 1, none⟩ u1).setCell ⟨gb, 2, none⟩ u2).setCell ⟨gb, 3, none⟩ u3).setCell ⟨gb, 4, none⟩ u4).heap[k]? = w.heap[k]? :=
  ((((Below.heap_setCell _ ⟨gb, 4, none⟩ u4 k h).trans (Below.heap_setCell _ ⟨gb, 3, none⟩ u3 k h)).trans (Below.heap_setCell _ ⟨gb, 2, none⟩ u2 k h)).trans (Below.heap_setCell _ ⟨gb, 1, none⟩ u1 k h)).trans (Below.heap_setCell _ ⟨gb, 0, none⟩ u0 k h)
theorem NB.free {w w1 : World} {rb gb : Nat} {f0 : Int} {f1 : Bool} {v2 v3 v4 : Value} (h : NB w w1 rb gb f0 f1 v2 v3 v4) : w1.frozen? ⟨gb, 0, none⟩ = false ∧ w1.frozen? ⟨gb, 1, none⟩ = false ∧ w1.frozen? ⟨gb, 2, none⟩ = false ∧ w1.frozen? ⟨gb, 3, none⟩ = false ∧ w1.frozen? ⟨gb, 4, none⟩ = false :=
  ⟨blk_frozen h.box 0, blk_frozen h.box 1, blk_frozen h.box 2, blk_frozen h.box 3, blk_frozen h.box 4⟩
theorem NB.load {w w1 : World} {rb gb : Nat} {f0 : Int} {f1 : Bool} {v2 v3 v4 : Value} (h : NB w w1 rb gb f0 f1 v2 v3 v4) : (loadVar 26 ⟨gb, 0, none⟩).run Tryd.prog w1 = .ok (.agg #[.int .i64 f0, .bool f1, v2, v3, v4]) w1 :=
  run_loadVar_row (P := Tryd.prog) w1 gb 26 26 _ (0, 0) _ h.box Tryd.underlying26 rfl (by kernel_rfl)
theorem results_cell2 {P : Program} {fn : Func} {tmps : Array Value} {a b : Nat} {t : TypeId} {p : Addr} {v : Value} {w : World} (hr : fn.results = #[.cell a t, .tmp b]) (hp : tmps.getD a undef = .pointer (some p)) (hl : (loadVar t p).run P w = .ok v w) : (results fn tmps).run P w = .ok (.tuple #[v, tmps.getD b undef]) w := by
  have hp' : tmps[a]?.getD undef = .pointer (some p) := by simpa using hp
  unfold results
  rw [hr]
  simp [hp', asAddr, Array.mapM_eq_foldlM, hl, Result.andThen]
theorem FK_setRow {W : World} {ok : Nat → Prop} {x : S26} {c : List Value} {g : Nat} (h : Kd.FK k26 W ok x c) (hg : ∀ k, ok k → k ≠ g) (cs : Array Value) : Kd.FK k26 (W.setRow g cs) ok x c := Kd.FK_step h fun k hk _ => setRow_other W g k cs (hg k hk)
theorem F_setRow {α : Type} {d : Kd α} {W : World} {ok : Nat → Prop} {A : Option Addr} {n : Nat} {xs : List α} {g : Nat} (h : Kd.F d W ok A n xs) (hg : ∀ k, ok k → k ≠ g) (cs : Array Value) : Kd.F d (W.setRow g cs) ok A n xs := Kd.F_step h fun k hk _ => setRow_other W g k cs (hg k hk)
theorem F_setCell {α : Type} {d : Kd α} {W : World} {ok : Nat → Prop} {A : Option Addr} {n : Nat} {xs : List α} {p : Addr} (h : Kd.F d W ok A n xs) (hg : ∀ k, ok k → k ≠ p.block) (v : Value) : Kd.F d (W.setCell p v) ok A n xs := Kd.F_step h fun k hk _ => Below.heap_setCell W p v k (hg k hk)
theorem eq_exec (s : ByteArray) : (s.toList == [101, 120, 101, 99, 117, 116, 97, 98, 108, 101]) = decide (s = wExec) := by
  rw [show [101, 120, 101, 99, 117, 116, 97, 98, 108, 101] = wExec.toList from by rw [Lib.toList_data]; rfl]; exact beq_toList s wExec
theorem eq_cont (s : ByteArray) : (s.toList == [99, 111, 110, 116, 101, 110, 116, 115]) = decide (s = wCont) := by
  rw [show [99, 111, 110, 116, 101, 110, 116, 115] = wCont.toList from by rw [Lib.toList_data]; rfl]; exact beq_toList s wCont
set_option maxRecDepth 8000 in
set_option maxHeartbeats 8000000 in
theorem regular_of (w : World) (rb long : Nat) (l : List Int) (h : RD w rb long l) :
    Calls Tryd.prog 33 #[.pointer (some ⟨rb, 0, none⟩)] w fun e w' => NodePost w rb long (rreg l) e w' := by
  have H := Lib.hid h
  clear h
  have hnb := NB.first (rb := rb) (f0 := 1) (f1 := false) (v2 := .slice none 0 0) (v3 := .slice none 0 0) (v4 := .slice none 0 0) w H.out.lt
  have hr1 := H.out.below (below_alloc (Below.refl w.heap.size w) (.cells #[.int .i64 1, .bool false, .slice none 0 0, .slice none 0 0, .slice none 0 0] 26))
  go_enter Tryd.func33, Tryd.ntmps33
  go_wp2_with (go_at_call 32; refine Hid.out ?_)
  refine Lib.hid ?_
  generalize w.alloc (.cells #[.int .i64 1, .bool false, .slice none 0 0, .slice none 0 0, .slice none 0 0] 26) = w1 at hnb hr1 ⊢
  generalize hgb : w.heap.size = gb at hnb ⊢
  have HGB := Lib.hid hgb
  have HN1 := Lib.hid hnb
  have HR1 := Lib.hid hr1
  clear hgb hnb hr1
  refine (next_of w1 rb long l HR1.out).mono ?_
  rintro e w2 ⟨hg, ⟨s, r, hrn, rfl, hrd⟩ | ⟨hrn, q, hq, rfl⟩⟩
  · have HN2 := Lib.hid (HN1.out.call hg)
    have HRD := Lib.hid hrd
    have HRN := Lib.hid (show rreg l = if s = wExec then (rmust [wNone] r).bind fun r => (rnext r).bind fun z => rcont true z else rcont false (s, r) by unfold rreg; rw [hrn]; rfl)
    have hex := eq_exec s
    clear hg hrd hrn HN1 HR1
    by_cases hx : s = wExec
    · subst hx
      have hb0 : (wExec.toList == [101, 120, 101, 99, 117, 116, 97, 98, 108, 101]) = true := by rw [hex]; simp
      have hrn := HRN.out
      rw [if_pos rfl] at hrn
      have HRN2 := Lib.hid hrn
      have hfr : w2.frozen? ⟨gb, 1, none⟩ = false := blk_frozen HN2.out.box 1
      have HN3 := Lib.hid (HN2.out.set1 true)
      have HR3 := Lib.hid (HN2.out.rd HRD.out 1 (.bool true))
      clear hex hrn HRN HRD
      obtain ⟨_, q1, _⟩ := HN2.out.cells
      generalize hw3 : w2.setCell ⟨gb, 1, none⟩ (.bool true) = w3 at HN3 HR3
      have hlit := must_lit w3 rb long [wNone] r HR3.out (by decide)
      go_wp2_with (go_at_call 21; (try rw [hw3]); refine hlit.mono ?_; rintro e w4 ⟨hg, ⟨q, hm, rfl, hrd⟩ | ⟨hm, k, hk, rfl⟩⟩ <;> refine Hid.out ?_)
      · refine Lib.hid ?_
        have HN4 := Lib.hid (HN3.out.call hg)
        have HR4 := Lib.hid hrd
        have hrn := HRN2.out
        rw [hm] at hrn
        simp only [Option.bind_some] at hrn
        have HRN4 := Lib.hid hrn
        clear hg hrd hm hrn hlit HRN2 HN3 HR3 hw3 hfr q1
        go_wp2_with (go_at_call 32; refine (next_of w4 rb long q HR4.out).mono ?_; rintro e w5 ⟨hg, ⟨s2, r2, hrn, rfl, hrd⟩ | ⟨hrn, kq, hq, rfl⟩⟩ <;> refine Hid.out ?_)
        · refine Lib.hid ?_
          have HN5 := Lib.hid (HN4.out.call hg)
          have HR5 := Lib.hid hrd
          have hrn2 := HRN4.out
          rw [hrn] at hrn2
          simp only [Option.bind_some] at hrn2
          have HPR := Lib.hid hrn2
          clear hg hrd hrn hrn2 HRN4 HN4 HR4
          have hcon := eq_cont s2
          by_cases hc : s2 = wCont
          · subst hc
            have hb1 : (wCont.toList == [99, 111, 110, 116, 101, 110, 116, 115]) = true := by rw [hcon]; simp
            clear hcon
            have hpre := HPR.out
            rw [rcont, if_pos rfl] at hpre
            have HPRE := Lib.hid hpre
            clear hpre
            go_wp2_with (go_at_call 34; refine (data_of w5 rb long r2 HR5.out).mono ?_; rintro e wd ⟨hg, ⟨d, q, A, c, hdt, rfl, hc, hF, hrd⟩ | ⟨hdt, k, A, n, c, hk, rfl⟩⟩ <;> refine Hid.out ?_)
            · refine Lib.hid ?_
              have HND := Lib.hid (HN5.out.call hg)
              have HD0 := Lib.hid (show w5.heap.size ≤ wd.heap.size from hg.size)
              have hres := HPRE.out
              rw [hdt] at hres
              simp only [Option.bind_some] at hres
              have HRES := Lib.hid hres
              have HC := Lib.hid hc
              have HF := Lib.hid (Kd.F_mono hF (ok' := fun k => gb < k) (fun k hk => by have := blk_lt HN5.out.box; omega))
              have HRD4 := Lib.hid hrd
              have hfr : wd.frozen? ⟨gb, 2, none⟩ = false := blk_frozen HND.out.box 2
              have hqd := HND.out.cells.2.2.1
              clear hg hres hc hF hrd hdt HPRE
              have hset := HND.out.set2 (.slice A d.length c)
              have hrd2 := HND.out.rd HRD4.out 2 (.slice A d.length c)
              have hF2 := F_setCell (p := ⟨gb, 2, none⟩) HF.out (fun k hk => by show k ≠ gb; omega) (.slice A d.length c)
              have HSET := Lib.hid hset
              have HRD5 := Lib.hid hrd2
              have HF2 := Lib.hid hF2
              clear hset hrd2 hF2
              generalize hwe : wd.setCell ⟨gb, 2, none⟩ (.slice A d.length c) = we at HSET HRD5 HF2
              obtain ⟨q0, q1, q2, q3, q4⟩ := HSET.out.cells
              obtain ⟨f0, f1, f2, f3, f4⟩ := HSET.out.free
              go_wp2_with fail
              refine bodyPost_ret (results_cell2 Tryd.results33 rfl HSET.out.five.load) rfl ⟨HSET.out.five.gr, Or.inl ⟨_, _, _, HRES.out, rfl, ?_, HRD5.out.move fun k hk => five_far (by have := HSET.out.old; have := HSET.out.lt; omega)⟩⟩
              exact Kd.FK_mono (FK_file _ (fun k => gb < k) true 1 HC.out (Kd.F_step HF2.out fun k hk _ => five_far (by omega))) (fun k hk => by have := HGB.out; omega)
            · refine Lib.hid ?_
              have HND := Lib.hid (HN5.out.call hg)
              have hres := HPRE.out
              rw [hdt] at hres
              have HRES : Hid (rreg l = none) := Lib.hid hres
              have HK := Lib.hid hk
              have hfr : wd.frozen? ⟨gb, 2, none⟩ = false := blk_frozen HND.out.box 2
              have hqd := HND.out.cells.2.2.1
              clear hg hres hdt HPRE hk
              have HSET := Lib.hid (HND.out.set2 (.slice A n c))
              generalize hwe : wd.setCell ⟨gb, 2, none⟩ (.slice A n c) = we at HSET
              unfold flt
              obtain ⟨q0, q1, q2, q3, q4⟩ := HSET.out.cells
              obtain ⟨f0, f1, f2, f3, f4⟩ := HSET.out.free
              go_wp2_with fail
              refine bodyPost_ret (results_cell2 Tryd.results33 rfl HSET.out.five.load) rfl ⟨HSET.out.five.gr, Or.inr ⟨HRES.out, k, 1, true, _, _, _, none, 0, 0, none, 0, 0, HK.out, rfl⟩⟩
          · have hb1 : (s2.toList == [99, 111, 110, 116, 101, 110, 116, 115]) = false := by rw [hcon]; simpa using hc
            clear hcon
            have hpre := HPR.out
            rw [rcont, if_neg hc] at hpre
            have HPRE := Lib.hid hpre
            clear hpre
            obtain ⟨q0, q1, q2, q3, q4⟩ := HN5.out.cells
            obtain ⟨f0, f1, f2, f3, f4⟩ := HN5.out.free
            go_wp2_with fail
            refine bodyPost_ret (results_cell2 Tryd.results33 rfl HN5.out.five.load) rfl ⟨HN5.out.five.gr, Or.inr ⟨HPRE.out, 10, 1, true, _, _, _, none, 0, 0, none, 0, 0, by decide, rfl⟩⟩
        · refine Lib.hid ?_
          have HN5 := Lib.hid (HN4.out.call hg)
          have hrn2 := HRN4.out
          rw [hrn] at hrn2
          have HRES : Hid (rreg l = none) := Lib.hid hrn2
          have HQ := Lib.hid hq
          clear hg hrn hrn2 HRN4 HN4 HR4 hq
          unfold flt
          obtain ⟨q0, q1, q2, q3, q4⟩ := HN5.out.cells
          obtain ⟨f0, f1, f2, f3, f4⟩ := HN5.out.free
          go_wp2_with fail
          refine bodyPost_ret (results_cell2 Tryd.results33 rfl HN5.out.five.load) rfl ⟨HN5.out.five.gr, Or.inr ⟨HRES.out, kq, 1, true, _, _, _, none, 0, 0, none, 0, 0, HQ.out, rfl⟩⟩
      · refine Lib.hid ?_
        have HN4 := Lib.hid (HN3.out.call hg)
        have hrn := HRN2.out
        rw [hm] at hrn
        have HRES : Hid (rreg l = none) := Lib.hid hrn
        have HK := Lib.hid hk
        clear hg hm hrn hlit HRN2 HN3 HR3 hw3 hfr q1 hk
        unfold flt
        obtain ⟨q0, q1, q2, q3, q4⟩ := HN4.out.cells
        obtain ⟨f0, f1, f2, f3, f4⟩ := HN4.out.free
        go_wp2_with fail
        refine bodyPost_ret (results_cell2 Tryd.results33 rfl HN4.out.five.load) rfl ⟨HN4.out.five.gr, Or.inr ⟨HRES.out, k, 1, true, _, _, _, none, 0, 0, none, 0, 0, HK.out, rfl⟩⟩
    · have hb0 : (s.toList == [101, 120, 101, 99, 117, 116, 97, 98, 108, 101]) = false := by rw [hex]; simpa using hx
      have hrn := HRN.out
      rw [if_neg hx] at hrn
      have HPR := Lib.hid hrn
      clear hex hrn HRN
      have hcon := eq_cont s
      by_cases hc : s = wCont
      · subst hc
        have hb1 : (wCont.toList == [99, 111, 110, 116, 101, 110, 116, 115]) = true := by rw [hcon]; simp
        clear hcon
        have hpre := HPR.out
        rw [rcont, if_pos rfl] at hpre
        have HPRE := Lib.hid hpre
        clear hpre
        go_wp2_with (go_at_call 34; refine (data_of w2 rb long r HRD.out).mono ?_; rintro e wd ⟨hg, ⟨d, q, A, c, hdt, rfl, hc, hF, hrd⟩ | ⟨hdt, k, A, n, c, hk, rfl⟩⟩ <;> refine Hid.out ?_)
        · refine Lib.hid ?_
          have HND := Lib.hid (HN2.out.call hg)
          have HD0 := Lib.hid (show w2.heap.size ≤ wd.heap.size from hg.size)
          have hres := HPRE.out
          rw [hdt] at hres
          simp only [Option.bind_some] at hres
          have HRES := Lib.hid hres
          have HC := Lib.hid hc
          have HF := Lib.hid (Kd.F_mono hF (ok' := fun k => gb < k) (fun k hk => by have := blk_lt HN2.out.box; omega))
          have HRD4 := Lib.hid hrd
          have hfr : wd.frozen? ⟨gb, 2, none⟩ = false := blk_frozen HND.out.box 2
          have hqd := HND.out.cells.2.2.1
          clear hg hres hc hF hrd hdt HPRE
          have hset := HND.out.set2 (.slice A d.length c)
          have hrd2 := HND.out.rd HRD4.out 2 (.slice A d.length c)
          have hF2 := F_setCell (p := ⟨gb, 2, none⟩) HF.out (fun k hk => by show k ≠ gb; omega) (.slice A d.length c)
          have HSET := Lib.hid hset
          have HRD5 := Lib.hid hrd2
          have HF2 := Lib.hid hF2
          clear hset hrd2 hF2
          generalize hwe : wd.setCell ⟨gb, 2, none⟩ (.slice A d.length c) = we at HSET HRD5 HF2
          obtain ⟨q0, q1, q2, q3, q4⟩ := HSET.out.cells
          obtain ⟨f0, f1, f2, f3, f4⟩ := HSET.out.free
          go_wp2_with fail
          refine bodyPost_ret (results_cell2 Tryd.results33 rfl HSET.out.five.load) rfl ⟨HSET.out.five.gr, Or.inl ⟨_, _, _, HRES.out, rfl, ?_, HRD5.out.move fun k hk => five_far (by have := HSET.out.old; have := HSET.out.lt; omega)⟩⟩
          exact Kd.FK_mono (FK_file _ (fun k => gb < k) false 1 HC.out (Kd.F_step HF2.out fun k hk _ => five_far (by omega))) (fun k hk => by have := HGB.out; omega)
        · refine Lib.hid ?_
          have HND := Lib.hid (HN2.out.call hg)
          have hres := HPRE.out
          rw [hdt] at hres
          have HRES : Hid (rreg l = none) := Lib.hid hres
          have HK := Lib.hid hk
          have hfr : wd.frozen? ⟨gb, 2, none⟩ = false := blk_frozen HND.out.box 2
          have hqd := HND.out.cells.2.2.1
          clear hg hres hdt HPRE hk
          have HSET := Lib.hid (HND.out.set2 (.slice A n c))
          generalize hwe : wd.setCell ⟨gb, 2, none⟩ (.slice A n c) = we at HSET
          unfold flt
          obtain ⟨q0, q1, q2, q3, q4⟩ := HSET.out.cells
          obtain ⟨f0, f1, f2, f3, f4⟩ := HSET.out.free
          go_wp2_with fail
          refine bodyPost_ret (results_cell2 Tryd.results33 rfl HSET.out.five.load) rfl ⟨HSET.out.five.gr, Or.inr ⟨HRES.out, k, 1, false, _, _, _, none, 0, 0, none, 0, 0, HK.out, rfl⟩⟩
      · have hb1 : (s.toList == [99, 111, 110, 116, 101, 110, 116, 115]) = false := by rw [hcon]; simpa using hc
        clear hcon
        have hpre := HPR.out
        rw [rcont, if_neg hc] at hpre
        have HPRE := Lib.hid hpre
        clear hpre
        obtain ⟨q0, q1, q2, q3, q4⟩ := HN2.out.cells
        obtain ⟨f0, f1, f2, f3, f4⟩ := HN2.out.free
        go_wp2_with fail
        refine bodyPost_ret (results_cell2 Tryd.results33 rfl HN2.out.five.load) rfl ⟨HN2.out.five.gr, Or.inr ⟨HPRE.out, 10, 1, false, _, _, _, none, 0, 0, none, 0, 0, by decide, rfl⟩⟩
  · have HN2 := Lib.hid (HN1.out.call hg)
    have HQ := Lib.hid hq
    have HRES := Lib.hid (show rreg l = none by unfold rreg; rw [hrn]; rfl)
    clear hg hq hrn HN1 HR1
    unfold flt
    obtain ⟨q0, q1, q2, q3, q4⟩ := HN2.out.cells
    obtain ⟨f0, f1, f2, f3, f4⟩ := HN2.out.free
    go_wp2_with fail
    refine bodyPost_ret (results_cell2 Tryd.results33 rfl HN2.out.five.load) rfl ⟨HN2.out.five.gr, Or.inr ⟨HRES.out, q, 1, false, _, _, _, none, 0, 0, none, 0, 0, HQ.out, rfl⟩⟩
end Go.Proofs.YtdehcojmgmjcmaaDoor
