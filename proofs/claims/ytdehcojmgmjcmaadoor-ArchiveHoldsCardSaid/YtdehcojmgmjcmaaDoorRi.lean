/- reader.directory, walked, over node's contract one deeper. -/
import Derived.Test.YtdehcojmgmjcmaaDoorRo
namespace Go.Proofs.YtdehcojmgmjcmaaDoor
set_option linter.unusedVariables false
set_option linter.unusedSimpArgs false
open Go.RowKit QArchiveBack Go.Proofs.YtdehcojmgmjcmaaDoorW.PrintWords Go.Proofs.YtdehcojmgmjcmaaDoorW.PrintLast Go.Proofs.YtdehcojmgmjcmaaDoorW.PrintMore
/-- node's contract, k deep -/
def NodeC (k : Nat) : Prop := ∀ (w : World) (rb long : Nat) (l : List Int), RD w rb long l →
  Calls Tryd.prog 22 #[.pointer (some ⟨rb, 0, none⟩), .int .i64 (33 - (k : Int))] w fun e w' => NodePost w rb long (rnode k l) e w'
/-- how many bytes the reader has left -/
def rlen (rb : Nat) (w : World) : Nat := match w.cell? ⟨rb, 0, none⟩ with
  | some (.slice _ n _) => n
  | _ => 0
theorem RD.rlen {w : World} {rb long : Nat} {l : List Int} (h : RD w rb long l) : rlen rb w = l.length := by
  obtain ⟨A, c, h1, _⟩ := h.st
  have q0 := cell_of_row w rb 0 _ _ _ h1
  simp only [List.getElem?_toArray, List.getElem?_cons_zero] at q0
  unfold Go.Proofs.YtdehcojmgmjcmaaDoor.rlen
  rw [q0]
theorem eq_end (s : ByteArray) : (s.toList == [41]) = decide (s = wEnd) := by
  rw [show [41] = wEnd.toList from by rw [Lib.toList_data]; rfl]; exact beq_toList s wEnd
theorem eq_entry (s : ByteArray) : (s.toList == [101, 110, 116, 114, 121]) = decide (s = wEntry) := by
  rw [show [101, 110, 116, 114, 121] = wEntry.toList from by rw [Lib.toList_data]; rfl]; exact beq_toList s wEntry
theorem FK_lit {W : World} {ok : Nat → Prop} {x : S26} {cs : Array Value} (h : Kd.FK k26 W ok x cs.toList) : ∃ A2 c2 A3 c3 A4 c4, cs = #[.int .i64 x.f0, .bool x.f1, .slice A2 x.f2.length c2, .slice A3 x.f3.length c3, .slice A4 x.f4.length c4] := by
  obtain ⟨A2, c2, A3, c3, A4, c4, e, _⟩ := k26_open (Kd.FK_now h)
  exact ⟨A2, c2, A3, c3, A4, c4, Array.toList_inj.1 e⟩
theorem DS.forms {w W : World} {rb long gb B : Nat} {vN vX : Value} {ns : List ByteArray} {xs : List S26} {l : List Int} (h : DS w W rb long gb B vN vX vN vX ns xs l) : ∃ A3 c3 A4 c4, vN = .slice A3 ns.length c3 ∧ vX = .slice A4 xs.length c4 := by
  obtain ⟨A3, c3, A4, c4, e1, e2, _⟩ := h.whole
  exact ⟨A3, c3, A4, c4, e1, e2⟩
/-- what the appends' loads read -/
structure SX (gb gx : Nat) (vN vX c0 c1 c2 c3 c4 : Value) (w' : World) : Prop where
  n : w'.cell? ⟨gb, 3, none⟩ = some vN
  x : w'.cell? ⟨gb, 4, none⟩ = some vX
  x0 : w'.cell? ⟨gx, 0, none⟩ = some c0
  x1 : w'.cell? ⟨gx, 1, none⟩ = some c1
  x2 : w'.cell? ⟨gx, 2, none⟩ = some c2
  x3 : w'.cell? ⟨gx, 3, none⟩ = some c3
  x4 : w'.cell? ⟨gx, 4, none⟩ = some c4
theorem SX_of {w W : World} {rb long gb B gx : Nat} {uN uX vN vX c0 c1 c2 c3 c4 : Value} {ns : List ByteArray} {xs : List S26} {l : List Int} (h : DS w W rb long gb B uN uX vN vX ns xs l) (hb : W.heap[gx]? = some (.cells #[c0, c1, c2, c3, c4] 26 (0, 0))) : SX gb gx uN uX c0 c1 c2 c3 c4 W := by
  obtain ⟨_, _, _, h3, h4⟩ := h.nb.cells
  have q0 := cell_of_row W gx 0 _ _ _ hb
  have q1 := cell_of_row W gx 1 _ _ _ hb
  have q2 := cell_of_row W gx 2 _ _ _ hb
  have q3 := cell_of_row W gx 3 _ _ _ hb
  have q4 := cell_of_row W gx 4 _ _ _ hb
  simp only [List.getElem?_toArray, List.getElem?_cons_succ, List.getElem?_cons_zero] at q0 q1 q2 q3 q4
  exact ⟨h3, h4, q0, q1, q2, q3, q4⟩
theorem box_cells {W : World} {b t : Nat} {cs : Array Value} (h : W.heap[b]? = some (.cells cs t (0, 0))) : ∀ j u, cs.toList[j]? = some u → W.cell? ((⟨b, 0, none⟩ : Addr).add j) = some u := fun j u hu => by
  rw [add_plain, cell_of_row W b j _ _ _ h]
  simpa using hu
theorem box_one {W : World} {b t : Nat} {c : Value} (h : W.heap[b]? = some (.cells #[c] t (0, 0))) : ∀ j u, [c][j]? = some u → W.cell? ((⟨b, 0, none⟩ : Addr).add j) = some u := box_cells (cs := #[c]) h
/-- one round of the entries, taken apart -/
theorem rents_none {rn : List Int → Option (S26 × List Int)} {f : Nat} {l : List Int} {ns : List ByteArray} {xs : List S26} (h : rnext l = none) : rents rn f l ns xs = none := by
  cases f with
  | zero => rfl
  | succ f => rw [rents, h]; rfl
theorem rents_end {rn : List Int → Option (S26 × List Int)} {f : Nat} {l r : List Int} {ns : List ByteArray} {xs : List S26} (h : rnext l = some (wEnd, r)) (hf : 0 < f) : rents rn f l ns xs = some (⟨2, false, [], ns, xs⟩, r) := by
  obtain ⟨f, rfl⟩ : ∃ m, f = m + 1 := ⟨f - 1, by omega⟩
  rw [rents, h]; rfl
theorem rents_other {rn : List Int → Option (S26 × List Int)} {f : Nat} {l r : List Int} {s : ByteArray} {ns : List ByteArray} {xs : List S26} (h : rnext l = some (s, r)) (h1 : s ≠ wEnd) (h2 : s ≠ wEntry) : rents rn f l ns xs = none := by
  cases f with
  | zero => rfl
  | succ f => rw [rents, h]; simp only [Option.bind_some]; rw [if_neg h1, if_neg h2]
theorem rents_entry {rn : List Int → Option (S26 × List Int)} {f : Nat} {l r : List Int} {ns : List ByteArray} {xs : List S26} (h : rnext l = some (wEntry, r)) (hf : 0 < f) :
    rents rn f l ns xs = (rmust [wParen, wName] r).bind fun r => (rnext r).bind fun m => (rmust [wNode] m.2).bind fun r => (rn r).bind fun x => (rmust [wEnd] x.2).bind fun r => rents rn (f - 1) r (ns ++ [m.1]) (xs ++ [x.1]) := by
  obtain ⟨f, rfl⟩ : ∃ m, f = m + 1 := ⟨f - 1, by omega⟩
  rw [rents, h]
  simp only [Option.bind_some]
  rw [if_neg (by decide), if_pos trivial]
  rfl
theorem rnode_len : ∀ (k : Nat) (l : List Int) (x : S26) (r : List Int), inB l → rnode k l = some (x, r) → r.length ≤ l.length := fun k l x r hb h => by
  have := (rnode_inv k l x r hb h).1
  rw [this, List.length_append]
  omega
set_option maxRecDepth 8000 in
set_option maxHeartbeats 40000000 in
theorem directory_of (k : Nat) (hk : k ≤ 31) (ih : NodeC k) (w : World) (rb long : Nat) (l : List Int) (h : RD w rb long l) :
    Calls Tryd.prog 35 #[.pointer (some ⟨rb, 0, none⟩), .int .i64 (32 - (k : Int))] w fun e w' => NodePost w rb long (rents (rnode k) (l.length + 1) l [] []) e w' := by
  have H := Lib.hid h
  have IH := Lib.hid ih
  clear h ih
  have hnb := NB.first (rb := rb) (f0 := 2) (f1 := false) (v2 := .slice none 0 0) (v3 := .slice none 0 0) (v4 := .slice none 0 0) w H.out.lt
  have hr1 := H.out.below (below_alloc (Below.refl w.heap.size w) (.cells #[.int .i64 2, .bool false, .slice none 0 0, .slice none 0 0, .slice none 0 0] 26))
  have hs1 : (w.alloc (.cells #[.int .i64 2, .bool false, .slice none 0 0, .slice none 0 0, .slice none 0 0] 26)).heap.size = w.heap.size + 1 := by simp
  go_enter Tryd.func35, Tryd.ntmps35
  go_wp2_with fail
  go_step3
  go_wp2_with fail
  generalize w.alloc (.cells #[.int .i64 2, .bool false, .slice none 0 0, .slice none 0 0, .slice none 0 0] 26) = w1 at hnb hr1 hs1 ⊢
  generalize hgb : w.heap.size = gb at hnb hs1 ⊢
  have HGB := Lib.hid hgb
  have HD1 : Hid (DS w w1 rb long gb (gb + 1) (.slice none 0 0) (.slice none 0 0) (.slice none 0 0) (.slice none 0 0) [] [] l) := Lib.hid ⟨hnb, hr1, own_nil _ _ _ _, ⟨[], own_nil _ _ _ _, Reps.none _ _⟩, Nat.lt_succ_self _, Nat.le_of_eq hs1.symm⟩
  have HDEP : Hid (wrap64 (32 - (k : Int) + 1) = 33 - (k : Int)) := Lib.hid (by rw [w64 (by omega) (by omega)]; omega)
  clear hgb hnb hr1 hs1
  go_step3
  go_wp2_with fail
  go_loopw [] (fun wr => ∃ (ns : List ByteArray) (xs : List S26) (li : List Int) (f : Nat) (vN vX : Value), Hid (DS w wr rb long gb (gb + 1) vN vX vN vX ns xs li) ∧ Hid (rents (rnode k) (l.length + 1) l [] [] = rents (rnode k) f li ns xs) ∧ li.length < f ∧ ns.length + li.length ≤ 1048576 ∧ xs.length = ns.length) (fun wr => rlen rb wr)
  case atStart => exact ⟨[], [], l, l.length + 1, _, _, HD1, Lib.hid rfl, Nat.lt_succ_self _, by have := H.out.le; have := H.out.max; simp; omega, rfl⟩
  case round =>
    obtain ⟨ns, xs, li, f, vN, vX, HD, HE, hf, hmax, hxl⟩ := hrel
    have HML := Lib.hid HD.out.rd.rlen
    have HFB := Lib.hid hf
    have HMX := Lib.hid hmax
    have HXL := Lib.hid hxl
    clear HD1 hf hmax hxl
    go_wp2_with (go_at_call 32; refine (next_of wr rb long li HD.out.rd).mono ?_; rintro e w2 ⟨hg, ⟨s, r, hrn, rfl, hrd⟩ | ⟨hrn, q, hq, rfl⟩⟩ <;> refine Hid.out ?_)
    · refine Lib.hid ?_
      have HD2 := Lib.hid (HD.out.call hg hrd)
      have HRL := Lib.hid (rnext_len hrn)
      have HRN := Lib.hid hrn
      have hen := eq_end s
      clear hg hrd hrn HD
      by_cases hs : s = wEnd
      · subst hs
        have hb1 : (wEnd.toList == [41]) = true := by rw [hen]; simp
        have hres := HE.out.trans (rents_end HRN.out (by have := HFB.out; omega))
        have HRES := Lib.hid hres
        clear hen hres
        obtain ⟨A3, c3, A4, c4, rfl, rfl, hFK⟩ := HD2.out.whole
        have HFK := Lib.hid hFK
        clear hFK
        obtain ⟨q0, q1, q2, q3, q4⟩ := HD2.out.nb.cells
        obtain ⟨f0, f1, f2, f3, f4⟩ := HD2.out.nb.free
        go_wp2_with fail
        rw [Exit.noGoto_ret]
        refine bodyPost_ret (results_cell2 Tryd.results35 rfl HD2.out.nb.five.load) rfl ⟨HD2.out.nb.five.gr, Or.inl ⟨_, _, _, HRES.out, rfl, ?_, HD2.out.rd.move fun k hk => five_far (by have := HD2.out.nb.old; have := HD2.out.nb.lt; omega)⟩⟩
        exact Kd.FK_mono (Kd.FK_step HFK.out fun k hk _ => five_far (by omega)) (fun k hk => by have := HGB.out; omega)
      · have hb1 : (s.toList == [41]) = false := by rw [hen]; simpa using hs
        clear hen
        have hen := eq_entry s
        by_cases hs2 : s = wEntry
        · subst hs2
          have hb2 : (wEntry.toList == [101, 110, 116, 114, 121]) = true := by rw [hen]; simp
          have hres := HE.out.trans (rents_entry HRN.out (by have := HFB.out; omega))
          have HRES := Lib.hid hres
          clear hen hres hs HE HRN
          have hlit := must_lit w2 rb long [wParen, wName] r HD2.out.rd (by decide)
          go_wp2_with (go_at_call 21; refine hlit.mono ?_; rintro e w3 ⟨hg, ⟨r3, hm, rfl, hrd⟩ | ⟨hm, k3, hk, rfl⟩⟩ <;> refine Hid.out ?_)
          · refine Lib.hid ?_
            have HD3 := Lib.hid (HD2.out.call hg hrd)
            have HRL3 := Lib.hid (rmust_len _ hm)
            have hres := HRES.out
            rw [hm] at hres
            simp only [Option.bind_some] at hres
            have HR3 := Lib.hid hres
            clear hg hrd hm hres HRES HD2 hlit
            go_wp2_with (go_at_call 32; refine (next_of w3 rb long r3 HD3.out.rd).mono ?_; rintro e w4 ⟨hg, ⟨m, r4, hrn, rfl, hrd⟩ | ⟨hrn, q, hq, rfl⟩⟩ <;> refine Hid.out ?_)
            · refine Lib.hid ?_
              have HD4 := Lib.hid (HD3.out.call hg hrd)
              have HRL4 := Lib.hid (rnext_len hrn)
              have hres := HR3.out
              rw [hrn] at hres
              simp only [Option.bind_some] at hres
              have HR4 := Lib.hid hres
              clear hg hrd hrn hres HR3 HD3
              have hlit := must_lit w4 rb long [wNode] r4 HD4.out.rd (by decide)
              go_wp2_with (go_at_call 21; refine hlit.mono ?_; rintro e w5 ⟨hg, ⟨r5, hm, rfl, hrd⟩ | ⟨hm, k3, hk, rfl⟩⟩ <;> refine Hid.out ?_)
              · refine Lib.hid ?_
                have HD5 := Lib.hid (HD4.out.call hg hrd)
                have HRL5 := Lib.hid (rmust_len _ hm)
                have hres := HR4.out
                rw [hm] at hres
                simp only [Option.bind_some] at hres
                have HR5 := Lib.hid hres
                clear hg hrd hm hres HR4 HD4 hlit
                go_wp2_with (go_at_call 22; refine Hid.out ?_)
                refine Lib.hid ?_
                rw [show (32 : Int) - (k : Int) + 1 = 33 - (k : Int) by omega]
                refine (IH.out w5 rb long r5 HD5.out.rd).mono ?_
                rintro e w6 ⟨hg, ⟨x, r6, cs, hrn, rfl, hFK, hrd⟩ | ⟨hrn, kk, g0, g1, B2, n2, d2, B3, n3, d3, B4, n4, d4, hq, rfl⟩⟩
                · obtain ⟨X2, d2, X3, d3, X4, d4, rfl⟩ := FK_lit hFK
                  have HFK := Lib.hid (Kd.FK_below (Kd.FK_mono hFK (ok' := okE (gb + 1) vN vX) (fun k hk => by
                    have hlt5 := HD5.out.hW
                    obtain ⟨inner, hox, _⟩ := HD5.out.hx
                    exact ⟨by omega, fun e => by have := own_lt HD5.out.hn k e.symm; omega, fun e => by have := own_lt hox k e.symm; omega⟩)) (below_alloc (Below.refl _ _) (.cells #[.int .i64 x.f0, .bool x.f1, .slice X2 x.f2.length d2, .slice X3 x.f3.length d3, .slice X4 x.f4.length d4] 26)))
                  have HRL6 := Lib.hid (rnode_len _ _ _ _ HD5.out.rd.inb hrn)
                  have hres := HR5.out
                  rw [hrn] at hres
                  simp only [Option.bind_some] at hres
                  have HR6 := Lib.hid hres
                  have HD7 := Lib.hid ((HD5.out.call hg hrd).alloc (.cells #[.int .i64 x.f0, .bool x.f1, .slice X2 x.f2.length d2, .slice X3 x.f3.length d3, .slice X4 x.f4.length d4] 26))
                  have HBX : Hid ((w6.alloc (.cells #[.int .i64 x.f0, .bool x.f1, .slice X2 x.f2.length d2, .slice X3 x.f3.length d3, .slice X4 x.f4.length d4] 26)).heap[w6.heap.size]? = some (.cells #[.int .i64 x.f0, .bool x.f1, .slice X2 x.f2.length d2, .slice X3 x.f3.length d3, .slice X4 x.f4.length d4] 26 (0, 0))) := Lib.hid (heap_alloc_new _ _)
                  have HGX : Hid (gb + 1 ≤ w6.heap.size) := Lib.hid (HD5.out.call hg hrd).hW
                  clear hg hrd hrn hFK hres HR5 HD5
                  generalize hwa : w6.alloc (.cells #[.int .i64 x.f0, .bool x.f1, .slice X2 x.f2.length d2, .slice X3 x.f3.length d3, .slice X4 x.f4.length d4] 26) = wa at HFK HD7 HBX
                  have hlit := must_lit wa rb long [wEnd] r6 HD7.out.rd (by decide)
                  go_wp2_with (go_at_call 21; (try rw [hwa]); refine hlit.mono ?_; rintro e w8 ⟨hg, ⟨r8, hm, rfl, hrd⟩ | ⟨hm, k3, hk, rfl⟩⟩ <;> refine Hid.out ?_)
                  · refine Lib.hid ?_
                    have HD8 := Lib.hid (HD7.out.call hg hrd)
                    have HRL8 := Lib.hid (rmust_len _ hm)
                    have hnbo := HD7.out.nb.old
                    have hnlt := HD7.out.nb.lt
                    have HBX8 := Lib.hid (blk_grown HBX.out hg (by intro e; injection e with e; have := HGX.out; omega))
                    have HFK8 := Lib.hid (Kd.FK_grown HFK.out hg (fun k hk e => by injection e with e; have := hk.1; omega))
                    have hres := HR6.out
                    rw [hm] at hres
                    simp only [Option.bind_some] at hres
                    have HR8 := Lib.hid hres
                    clear hg hrd hm hres HR6 HD7 HBX HFK hlit hwa hnbo hnlt
                    generalize w6.heap.size = gx at HBX8 HGX ⊢
                    go_upto_region 23 with fail
                    have HDv := Lib.hid (HD8.out.below (below_drew (Below.refl _ _)))
                    have HBv : Hid (w8.drew.heap[gx]? = some (.cells #[.int .i64 x.f0, .bool x.f1, .slice X2 x.f2.length d2, .slice X3 x.f3.length d3, .slice X4 x.f4.length d4] 26 (0, 0))) := HBX8
                    have HFv := Lib.hid (Kd.FK_below HFK8.out (below_drew (Below.refl _ _)))
                    clear HD8 HBX8 HFK8
                    refine start_ (n := 14) (S := SX gb gx vN vX (.int .i64 x.f0) (.bool x.f1) (.slice X2 x.f2.length d2) (.slice X3 x.f3.length d3) (.slice X4 x.f4.length d4)) (ds := [9, 11, 13]) #[false, false, false, false, false, false, false, false, false, false, false, false, false, false] (by kernel_rfl) rfl rfl (SX_of HDv.out HBv.out) (fun hHeld => ?_)
                    generalize w8.drew = v0 at HDv HBv HFv hHeld ⊢
                    refine pure_ (i := 0) (N := some 71) (v := ?_) (a' := ?_) #[true, false, false, false, false, false, false, false, false, false, false, false, false, false] rfl rfl (by kernel_rfl) (fun _ _ _ h => h) (Or.inl ⟨by rfl, ?_⟩) ?_ ?_
                    rotate_left
                    · intro w'
                      go_simp
                      with_reducible rfl
                    rotate_left
                    · simp only [Act.put, List.setIfInBounds_toArray, List.set_cons_zero, List.set_cons_succ]
                      rfl
                    refine pure_ (i := 2) (N := some 73) (v := ?_) (a' := ?_) #[true, false, true, false, false, false, false, false, false, false, false, false, false, false] rfl rfl (by kernel_rfl) (fun _ _ _ h => h) (Or.inl ⟨by rfl, ?_⟩) ?_ ?_
                    rotate_left
                    · intro w'
                      go_simp
                      with_reducible rfl
                    rotate_left
                    · simp only [Act.put, List.setIfInBounds_toArray, List.set_cons_zero, List.set_cons_succ]
                      rfl
                    refine pure_ (i := 5) (N := some 76) (v := ?_) (a' := ?_) #[true, false, true, false, false, true, false, false, false, false, false, false, false, false] rfl rfl (by kernel_rfl) (fun _ _ _ h => h) (Or.inl ⟨by rfl, ?_⟩) ?_ ?_
                    rotate_left
                    · intro w'
                      go_simp
                      with_reducible rfl
                    rotate_left
                    · simp only [Act.put, List.setIfInBounds_toArray, List.set_cons_zero, List.set_cons_succ]
                      rfl
                    refine take_ (i := 1) (N := some 72) (v := ?_) (a' := ?_) #[true, true, true, false, false, true, false, false, false, false, false, false, false, false] rfl rfl (by kernel_rfl) (fun _ _ _ h => h) (Or.inl ⟨by rfl, ?_⟩) hHeld ?_ ?_
                    rotate_left
                    · rintro w' ⟨s0, s1, s2, s3, s4, s5, s6⟩
                      go_simp
                      with_reducible rfl
                    rotate_left
                    · simp only [Act.put, List.setIfInBounds_toArray, List.set_cons_zero, List.set_cons_succ]
                      rfl
                    refine take_ (i := 6) (N := some 77) (v := ?_) (a' := ?_) #[true, true, true, false, false, true, true, false, false, false, false, false, false, false] rfl rfl (by kernel_rfl) (fun _ _ _ h => h) (Or.inl ⟨by rfl, ?_⟩) hHeld ?_ ?_
                    rotate_left
                    · rintro w' ⟨s0, s1, s2, s3, s4, s5, s6⟩
                      go_simp
                      with_reducible rfl
                    rotate_left
                    · simp only [Act.put, List.setIfInBounds_toArray, List.set_cons_zero, List.set_cons_succ]
                      rfl
                    refine take_ (i := 7) (N := some 78) (v := ?_) (a' := ?_) #[true, true, true, false, false, true, true, true, false, false, false, false, false, false] rfl rfl (by kernel_rfl) (fun _ _ _ h => h) (Or.inl ⟨by rfl, ?_⟩) hHeld ?_ ?_
                    rotate_left
                    · rintro w' ⟨s0, s1, s2, s3, s4, s5, s6⟩
                      go_simp
                      with_reducible rfl
                    rotate_left
                    · simp only [Act.put, List.setIfInBounds_toArray, List.set_cons_zero, List.set_cons_succ]
                      rfl
                    refine two_ (i := 3) (j := 8) (Ni := some 74) (Nj := some 79) #[true, true, true, true, false, true, true, true, false, false, false, false, false, false] #[true, true, true, false, false, true, true, true, true, false, false, false, false, false] rfl rfl rfl rfl (by kernel_rfl) (by decide) (by decide) (fun K hK => ?_) (fun K hK => ?_)
                    · refine value_ (w1 := ?_) (v := ?_) (by rfl) rfl ?_ ?_
                      rotate_left 2
                      · go_simp
                        constructor
                        · rfl
                        · rfl
                      have hD := HDv.out.alloc (.cells #[.string m] 9)
                      have hB := (below_alloc (Below.refl v0.heap.size v0) (.cells #[.string m] 9)).block gx (blk_lt HBv.out) |>.trans HBv.out
                      have hF := Kd.FK_below HFv.out (below_alloc (Below.refl v0.heap.size v0) (.cells #[.string m] 9))
                      refine hK.out _ _ (SX_of hD hB) (fun hHeld => ?_)
                      clear hK K
                      refine norm_ (a' := ?_) ?_ ?_
                      rotate_left
                      · show Act.put _ (some 74) _ = _
                        simp only [Act.put, List.setIfInBounds_toArray, List.set_cons_zero, List.set_cons_succ]
                        rfl
                      have HDv3 := Lib.hid hD
                      have HBv3 := Lib.hid hB
                      have HFv3 := Lib.hid hF
                      have HX3v3 : Hid ((v0.alloc (.cells #[.string m] 9)).heap[v0.heap.size]? = some (.cells #[.string m] 9 (0, 0))) := Lib.hid (heap_alloc_new _ _)
                      clear hD hB hF HDv HBv HFv
                      generalize v0.alloc (.cells #[.string m] 9) = v3 at HDv3 HBv3 HFv3 HX3v3 hHeld ⊢
                      generalize v0.heap.size = b3 at HX3v3 ⊢
                      refine two_ (i := 4) (j := 8) (Ni := some 75) (Nj := some 79) #[true, true, true, true, true, true, true, true, false, false, false, false, false, false] #[true, true, true, true, false, true, true, true, true, false, false, false, false, false] rfl rfl rfl rfl (by kernel_rfl) (by decide) (by decide) (fun K hK => ?_) (fun K hK => ?_)
                      · refine step_app (gb + 1) (by rfl) rfl (.tmp 72) (.tmp 74) 23 9 (.string ⟨#[]⟩) 1 16 rfl Tryd.underlying23 (by kernel_rfl) rfl (by decide) (by decide) vN ns.length (encs Value.string ns) [.string m] rfl ⟨b3, 0, none⟩ rfl rfl (by simp [Value.oneCell']) (box_one HX3v3.out) HDv3.out.hn HDv3.out.hW (by have := HMX.out; omega) ?_
                        intro v1 w9 ho hg hat
                        obtain ⟨A5, c5, rfl⟩ := own_slice ho
                        have hD := HDv3.out.appN ho hg hat
                        have hB := blk_grown HBv3.out hg (own_ne HDv3.out.hn HBv3.out (by decide))
                        have hF := FK_app HFv3.out hg hat (ok' := okE (gb + 1) (.slice A5 (ns.length + 1) c5) vX) (fun k hk => hk.2.1) (fun k hk h1 _ => ⟨hk.1, h1, hk.2.2⟩)
                        refine hK.out _ _ (SX_of hD hB) (fun hHeld => ?_)
                        clear hK K
                        refine norm_ (a' := ?_) ?_ ?_
                        rotate_left
                        · show Act.put _ (some 75) _ = _
                          simp only [Act.put, List.setIfInBounds_toArray, List.set_cons_zero, List.set_cons_succ]
                          rfl
                        have HDp4 := Lib.hid hD
                        have HBp4 := Lib.hid hB
                        have HFp4 := Lib.hid hF
                        clear ho hg hat hD hB hF HDv3 HBv3 HFv3 HX3v3
                        skip
                        refine pure_ (i := 10) (N := some 81) (v := ?_) (a' := ?_) #[true, true, true, true, true, true, true, true, false, false, true, false, false, false] rfl rfl (by kernel_rfl) (fun _ _ _ h => h) (Or.inl ⟨by rfl, ?_⟩) ?_ ?_
                        rotate_left
                        · intro w'
                          go_simp
                          with_reducible rfl
                        rotate_left
                        · simp only [Act.put, List.setIfInBounds_toArray, List.set_cons_zero, List.set_cons_succ]
                          rfl
                        refine one_ (i := 8) (N := some 79) #[true, true, true, true, true, true, true, true, true, false, true, false, false, false] rfl rfl (by kernel_rfl) (by decide) (fun K hK => ?_)
                        refine value_ (w1 := ?_) (v := ?_) (by rfl) rfl ?_ ?_
                        rotate_left 2
                        · go_simp
                          constructor
                          · rfl
                          · rfl
                        have hD := HDp4.out.alloc (.cells #[.int .i64 x.f0, .bool x.f1, .slice X2 x.f2.length d2, .slice X3 x.f3.length d3, .slice X4 x.f4.length d4] 26)
                        have hB := (below_alloc (Below.refl w9.heap.size w9) (.cells #[.int .i64 x.f0, .bool x.f1, .slice X2 x.f2.length d2, .slice X3 x.f3.length d3, .slice X4 x.f4.length d4] 26)).block gx (blk_lt HBp4.out) |>.trans HBp4.out
                        have hF := Kd.FK_below HFp4.out (below_alloc (Below.refl w9.heap.size w9) (.cells #[.int .i64 x.f0, .bool x.f1, .slice X2 x.f2.length d2, .slice X3 x.f3.length d3, .slice X4 x.f4.length d4] 26))
                        refine hK.out _ _ (SX_of hD hB) (fun hHeld => ?_)
                        clear hK K
                        refine norm_ (a' := ?_) ?_ ?_
                        rotate_left
                        · show Act.put _ (some 79) _ = _
                          simp only [Act.put, List.setIfInBounds_toArray, List.set_cons_zero, List.set_cons_succ]
                          rfl
                        have HDv8 := Lib.hid hD
                        have HBv8 := Lib.hid hB
                        have HFv8 := Lib.hid hF
                        have HX8v8 : Hid ((w9.alloc (.cells #[.int .i64 x.f0, .bool x.f1, .slice X2 x.f2.length d2, .slice X3 x.f3.length d3, .slice X4 x.f4.length d4] 26)).heap[w9.heap.size]? = some (.cells #[.int .i64 x.f0, .bool x.f1, .slice X2 x.f2.length d2, .slice X3 x.f3.length d3, .slice X4 x.f4.length d4] 26 (0, 0))) := Lib.hid (heap_alloc_new _ _)
                        clear hD hB hF HDp4 HBp4 HFp4
                        generalize w9.alloc (.cells #[.int .i64 x.f0, .bool x.f1, .slice X2 x.f2.length d2, .slice X3 x.f3.length d3, .slice X4 x.f4.length d4] 26) = v8 at HDv8 HBv8 HFv8 HX8v8 hHeld ⊢
                        generalize w9.heap.size = b8 at HX8v8 ⊢
                        refine last_ (i := 9) (N := some 80) #[true, true, true, true, true, true, true, true, true, true, true, false, false, false] rfl rfl (by kernel_rfl) (by decide) (fun K hK => ?_)
                        have hxl : xs.length = ns.length := HXL.out
                        obtain ⟨inner, hx, hr⟩ := HDv8.out.hx
                        refine step_app (gb + 1) (by rfl) rfl (.tmp 77) (.tmp 79) 24 26 (.agg #[.int .i64 0, .bool false, .slice none 0 0, .slice none 0 0, .slice none 0 0]) 5 88 rfl Tryd.underlying24 (by kernel_rfl) rfl (by decide) (by decide) vX xs.length inner #[.int .i64 x.f0, .bool x.f1, .slice X2 x.f2.length d2, .slice X3 x.f3.length d3, .slice X4 x.f4.length d4].toList rfl ⟨b8, 0, none⟩ rfl rfl (by simp [Value.oneCell']) (box_cells HX8v8.out) hx HDv8.out.hW (by have := HMX.out; omega) ?_
                        intro v2 w10 ho hg hat
                        obtain ⟨A6, c6, rfl⟩ := own_slice ho
                        have hD := HDv8.out.appX hx hr HFv8.out ho hg hat
                        refine hK.out _ _ ?_
                        clear hK K
                        refine norm_ (a' := ?_) ?_ ?_
                        rotate_left
                        · show Act.put _ (some 80) _ = _
                          simp only [Act.put, List.setIfInBounds_toArray, List.set_cons_zero, List.set_cons_succ]
                          rfl
                        have HDz := Lib.hid hD
                        clear hxl ho hg hat hD hx hr HDv8 HBv8 HFv8 HX8v8
                        refine last_ (i := 11) (N := none) #[true, true, true, true, true, true, true, true, true, true, true, true, false, false] rfl rfl (by kernel_rfl) (by decide) (fun K hK => ?_)
                        have hfz := HDz.out.nb.free
                        have hcz := HDz.out.nb.cells
                        obtain ⟨f0, f1, f2, f3, f4⟩ := hfz
                        obtain ⟨q0, q1, q2, q3, q4⟩ := hcz
                        refine skip_ (w1 := ?_) (by rfl) rfl ?_ ?_
                        rotate_left
                        · go_simp
                          rfl
                        refine hK.out _ _ ?_
                        clear hK K q0 q1 q2 q3 q4 f0 f1 f2 f3 f4
                        have HDy := Lib.hid (HDz.out.set3 (.slice A5 (ns.length + 1) c5))
                        clear HDz
                        generalize w10.setCell ⟨gb, 3, none⟩ (.slice A5 (ns.length + 1) c5) = w11 at HDy ⊢
                        refine pure_ (i := 12) (N := some 82) (v := ?_) (a' := ?_) #[true, true, true, true, true, true, true, true, true, true, true, true, true, false] rfl rfl (by kernel_rfl) (fun _ _ _ h => h) (Or.inl ⟨by rfl, ?_⟩) ?_ ?_
                        rotate_left
                        · intro w'
                          go_simp
                          with_reducible rfl
                        rotate_left
                        · simp only [Act.put, List.setIfInBounds_toArray, List.set_cons_zero, List.set_cons_succ]
                          rfl
                        refine last_ (i := 13) (N := none) #[true, true, true, true, true, true, true, true, true, true, true, true, true, true] rfl rfl (by kernel_rfl) (by decide) (fun K hK => ?_)
                        obtain ⟨f0, f1, f2, f3, f4⟩ := HDy.out.nb.free
                        obtain ⟨q0, q1, q2, q3, q4⟩ := HDy.out.nb.cells
                        refine skip_ (w1 := ?_) (by rfl) rfl ?_ ?_
                        rotate_left
                        · go_simp
                          rfl
                        refine hK.out _ _ ?_
                        clear hK K q0 q1 q2 q3 q4 f0 f1 f2 f3 f4
                        have HDx := Lib.hid (HDy.out.set4 (.slice A6 (xs.length + 1) c6))
                        clear HDy
                        generalize w11.setCell ⟨gb, 4, none⟩ (.slice A6 (xs.length + 1) c6) = w12 at HDx ⊢
                        refine done_ (by kernel_rfl) ?_
                        go_wp2_with fail
                        have h1 := HRL.out
                        have h3 := HRL3.out
                        have h4 := HRL4.out
                        have h5 := HRL5.out
                        have h6 := HRL6.out
                        have h8 := HRL8.out
                        have hf := HFB.out
                        have hmx := HMX.out
                        have hxl := HXL.out
                        have hml := HML.out
                        refine ⟨⟨ns ++ [m], xs ++ [x], r8, f - 1, _, _, HDx, HR8, by omega, by rw [List.length_append, List.length_singleton]; omega, by rw [List.length_append, List.length_append, hxl]; rfl⟩, ?_⟩
                        rw [HDx.out.rd.rlen, hml]
                        omega
                      · refine value_ (w1 := ?_) (v := ?_) (by rfl) rfl ?_ ?_
                        rotate_left 2
                        · go_simp
                          constructor
                          · rfl
                          · rfl
                        have hD := HDv3.out.alloc (.cells #[.int .i64 x.f0, .bool x.f1, .slice X2 x.f2.length d2, .slice X3 x.f3.length d3, .slice X4 x.f4.length d4] 26)
                        have hB := (below_alloc (Below.refl v3.heap.size v3) (.cells #[.int .i64 x.f0, .bool x.f1, .slice X2 x.f2.length d2, .slice X3 x.f3.length d3, .slice X4 x.f4.length d4] 26)).block gx (blk_lt HBv3.out) |>.trans HBv3.out
                        have hF := Kd.FK_below HFv3.out (below_alloc (Below.refl v3.heap.size v3) (.cells #[.int .i64 x.f0, .bool x.f1, .slice X2 x.f2.length d2, .slice X3 x.f3.length d3, .slice X4 x.f4.length d4] 26))
                        refine hK.out _ _ (SX_of hD hB) (fun hHeld => ?_)
                        clear hK K
                        refine norm_ (a' := ?_) ?_ ?_
                        rotate_left
                        · show Act.put _ (some 79) _ = _
                          simp only [Act.put, List.setIfInBounds_toArray, List.set_cons_zero, List.set_cons_succ]
                          rfl
                        have HDv8 := Lib.hid hD
                        have HBv8 := Lib.hid hB
                        have HFv8 := Lib.hid hF
                        have HX3v8 := Lib.hid ((below_alloc (Below.refl v3.heap.size v3) (.cells #[.int .i64 x.f0, .bool x.f1, .slice X2 x.f2.length d2, .slice X3 x.f3.length d3, .slice X4 x.f4.length d4] 26)).block b3 (blk_lt HX3v3.out) |>.trans HX3v3.out)
                        have HX8v8 : Hid ((v3.alloc (.cells #[.int .i64 x.f0, .bool x.f1, .slice X2 x.f2.length d2, .slice X3 x.f3.length d3, .slice X4 x.f4.length d4] 26)).heap[v3.heap.size]? = some (.cells #[.int .i64 x.f0, .bool x.f1, .slice X2 x.f2.length d2, .slice X3 x.f3.length d3, .slice X4 x.f4.length d4] 26 (0, 0))) := Lib.hid (heap_alloc_new _ _)
                        clear hD hB hF HDv3 HBv3 HFv3 HX3v3
                        generalize v3.alloc (.cells #[.int .i64 x.f0, .bool x.f1, .slice X2 x.f2.length d2, .slice X3 x.f3.length d3, .slice X4 x.f4.length d4] 26) = v8 at HDv8 HBv8 HFv8 HX3v8 HX8v8 hHeld ⊢
                        generalize v3.heap.size = b8 at HX8v8 ⊢
                        refine one_ (i := 4) (N := some 75) #[true, true, true, true, true, true, true, true, true, false, false, false, false, false] rfl rfl (by kernel_rfl) (by decide) (fun K hK => ?_)
                        refine step_app (gb + 1) (by rfl) rfl (.tmp 72) (.tmp 74) 23 9 (.string ⟨#[]⟩) 1 16 rfl Tryd.underlying23 (by kernel_rfl) rfl (by decide) (by decide) vN ns.length (encs Value.string ns) [.string m] rfl ⟨b3, 0, none⟩ rfl rfl (by simp [Value.oneCell']) (box_one HX3v8.out) HDv8.out.hn HDv8.out.hW (by have := HMX.out; omega) ?_
                        intro v1 w9 ho hg hat
                        obtain ⟨A5, c5, rfl⟩ := own_slice ho
                        have hD := HDv8.out.appN ho hg hat
                        have hB := blk_grown HBv8.out hg (own_ne HDv8.out.hn HBv8.out (by decide))
                        have hF := FK_app HFv8.out hg hat (ok' := okE (gb + 1) (.slice A5 (ns.length + 1) c5) vX) (fun k hk => hk.2.1) (fun k hk h1 _ => ⟨hk.1, h1, hk.2.2⟩)
                        have HX8p4 := Lib.hid (blk_grown HX8v8.out hg (own_ne HDv8.out.hn HX8v8.out (by decide)))
                        refine hK.out _ _ (SX_of hD hB) (fun hHeld => ?_)
                        clear hK K
                        refine norm_ (a' := ?_) ?_ ?_
                        rotate_left
                        · show Act.put _ (some 75) _ = _
                          simp only [Act.put, List.setIfInBounds_toArray, List.set_cons_zero, List.set_cons_succ]
                          rfl
                        have HDp4 := Lib.hid hD
                        have HBp4 := Lib.hid hB
                        have HFp4 := Lib.hid hF
                        clear ho hg hat hD hB hF HDv8 HBv8 HFv8 HX3v8 HX8v8
                        skip
                        refine pure_ (i := 10) (N := some 81) (v := ?_) (a' := ?_) #[true, true, true, true, true, true, true, true, true, false, true, false, false, false] rfl rfl (by kernel_rfl) (fun _ _ _ h => h) (Or.inl ⟨by rfl, ?_⟩) ?_ ?_
                        rotate_left
                        · intro w'
                          go_simp
                          with_reducible rfl
                        rotate_left
                        · simp only [Act.put, List.setIfInBounds_toArray, List.set_cons_zero, List.set_cons_succ]
                          rfl
                        refine last_ (i := 9) (N := some 80) #[true, true, true, true, true, true, true, true, true, true, true, false, false, false] rfl rfl (by kernel_rfl) (by decide) (fun K hK => ?_)
                        have hxl : xs.length = ns.length := HXL.out
                        obtain ⟨inner, hx, hr⟩ := HDp4.out.hx
                        refine step_app (gb + 1) (by rfl) rfl (.tmp 77) (.tmp 79) 24 26 (.agg #[.int .i64 0, .bool false, .slice none 0 0, .slice none 0 0, .slice none 0 0]) 5 88 rfl Tryd.underlying24 (by kernel_rfl) rfl (by decide) (by decide) vX xs.length inner #[.int .i64 x.f0, .bool x.f1, .slice X2 x.f2.length d2, .slice X3 x.f3.length d3, .slice X4 x.f4.length d4].toList rfl ⟨b8, 0, none⟩ rfl rfl (by simp [Value.oneCell']) (box_cells HX8p4.out) hx HDp4.out.hW (by have := HMX.out; omega) ?_
                        intro v2 w10 ho hg hat
                        obtain ⟨A6, c6, rfl⟩ := own_slice ho
                        have hD := HDp4.out.appX hx hr HFp4.out ho hg hat
                        refine hK.out _ _ ?_
                        clear hK K
                        refine norm_ (a' := ?_) ?_ ?_
                        rotate_left
                        · show Act.put _ (some 80) _ = _
                          simp only [Act.put, List.setIfInBounds_toArray, List.set_cons_zero, List.set_cons_succ]
                          rfl
                        have HDz := Lib.hid hD
                        clear hxl ho hg hat hD hx hr HDp4 HBp4 HFp4 HX8p4
                        refine last_ (i := 11) (N := none) #[true, true, true, true, true, true, true, true, true, true, true, true, false, false] rfl rfl (by kernel_rfl) (by decide) (fun K hK => ?_)
                        have hfz := HDz.out.nb.free
                        have hcz := HDz.out.nb.cells
                        obtain ⟨f0, f1, f2, f3, f4⟩ := hfz
                        obtain ⟨q0, q1, q2, q3, q4⟩ := hcz
                        refine skip_ (w1 := ?_) (by rfl) rfl ?_ ?_
                        rotate_left
                        · go_simp
                          rfl
                        refine hK.out _ _ ?_
                        clear hK K q0 q1 q2 q3 q4 f0 f1 f2 f3 f4
                        have HDy := Lib.hid (HDz.out.set3 (.slice A5 (ns.length + 1) c5))
                        clear HDz
                        generalize w10.setCell ⟨gb, 3, none⟩ (.slice A5 (ns.length + 1) c5) = w11 at HDy ⊢
                        refine pure_ (i := 12) (N := some 82) (v := ?_) (a' := ?_) #[true, true, true, true, true, true, true, true, true, true, true, true, true, false] rfl rfl (by kernel_rfl) (fun _ _ _ h => h) (Or.inl ⟨by rfl, ?_⟩) ?_ ?_
                        rotate_left
                        · intro w'
                          go_simp
                          with_reducible rfl
                        rotate_left
                        · simp only [Act.put, List.setIfInBounds_toArray, List.set_cons_zero, List.set_cons_succ]
                          rfl
                        refine last_ (i := 13) (N := none) #[true, true, true, true, true, true, true, true, true, true, true, true, true, true] rfl rfl (by kernel_rfl) (by decide) (fun K hK => ?_)
                        obtain ⟨f0, f1, f2, f3, f4⟩ := HDy.out.nb.free
                        obtain ⟨q0, q1, q2, q3, q4⟩ := HDy.out.nb.cells
                        refine skip_ (w1 := ?_) (by rfl) rfl ?_ ?_
                        rotate_left
                        · go_simp
                          rfl
                        refine hK.out _ _ ?_
                        clear hK K q0 q1 q2 q3 q4 f0 f1 f2 f3 f4
                        have HDx := Lib.hid (HDy.out.set4 (.slice A6 (xs.length + 1) c6))
                        clear HDy
                        generalize w11.setCell ⟨gb, 4, none⟩ (.slice A6 (xs.length + 1) c6) = w12 at HDx ⊢
                        refine done_ (by kernel_rfl) ?_
                        go_wp2_with fail
                        have h1 := HRL.out
                        have h3 := HRL3.out
                        have h4 := HRL4.out
                        have h5 := HRL5.out
                        have h6 := HRL6.out
                        have h8 := HRL8.out
                        have hf := HFB.out
                        have hmx := HMX.out
                        have hxl := HXL.out
                        have hml := HML.out
                        refine ⟨⟨ns ++ [m], xs ++ [x], r8, f - 1, _, _, HDx, HR8, by omega, by rw [List.length_append, List.length_singleton]; omega, by rw [List.length_append, List.length_append, hxl]; rfl⟩, ?_⟩
                        rw [HDx.out.rd.rlen, hml]
                        omega
                    · refine value_ (w1 := ?_) (v := ?_) (by rfl) rfl ?_ ?_
                      rotate_left 2
                      · go_simp
                        constructor
                        · rfl
                        · rfl
                      have hD := HDv.out.alloc (.cells #[.int .i64 x.f0, .bool x.f1, .slice X2 x.f2.length d2, .slice X3 x.f3.length d3, .slice X4 x.f4.length d4] 26)
                      have hB := (below_alloc (Below.refl v0.heap.size v0) (.cells #[.int .i64 x.f0, .bool x.f1, .slice X2 x.f2.length d2, .slice X3 x.f3.length d3, .slice X4 x.f4.length d4] 26)).block gx (blk_lt HBv.out) |>.trans HBv.out
                      have hF := Kd.FK_below HFv.out (below_alloc (Below.refl v0.heap.size v0) (.cells #[.int .i64 x.f0, .bool x.f1, .slice X2 x.f2.length d2, .slice X3 x.f3.length d3, .slice X4 x.f4.length d4] 26))
                      refine hK.out _ _ (SX_of hD hB) (fun hHeld => ?_)
                      clear hK K
                      refine norm_ (a' := ?_) ?_ ?_
                      rotate_left
                      · show Act.put _ (some 79) _ = _
                        simp only [Act.put, List.setIfInBounds_toArray, List.set_cons_zero, List.set_cons_succ]
                        rfl
                      have HDv8 := Lib.hid hD
                      have HBv8 := Lib.hid hB
                      have HFv8 := Lib.hid hF
                      have HX8v8 : Hid ((v0.alloc (.cells #[.int .i64 x.f0, .bool x.f1, .slice X2 x.f2.length d2, .slice X3 x.f3.length d3, .slice X4 x.f4.length d4] 26)).heap[v0.heap.size]? = some (.cells #[.int .i64 x.f0, .bool x.f1, .slice X2 x.f2.length d2, .slice X3 x.f3.length d3, .slice X4 x.f4.length d4] 26 (0, 0))) := Lib.hid (heap_alloc_new _ _)
                      clear hD hB hF HDv HBv HFv
                      generalize v0.alloc (.cells #[.int .i64 x.f0, .bool x.f1, .slice X2 x.f2.length d2, .slice X3 x.f3.length d3, .slice X4 x.f4.length d4] 26) = v8 at HDv8 HBv8 HFv8 HX8v8 hHeld ⊢
                      generalize v0.heap.size = b8 at HX8v8 ⊢
                      refine one_ (i := 3) (N := some 74) #[true, true, true, true, false, true, true, true, true, false, false, false, false, false] rfl rfl (by kernel_rfl) (by decide) (fun K hK => ?_)
                      refine value_ (w1 := ?_) (v := ?_) (by rfl) rfl ?_ ?_
                      rotate_left 2
                      · go_simp
                        constructor
                        · rfl
                        · rfl
                      have hD := HDv8.out.alloc (.cells #[.string m] 9)
                      have hB := (below_alloc (Below.refl v8.heap.size v8) (.cells #[.string m] 9)).block gx (blk_lt HBv8.out) |>.trans HBv8.out
                      have hF := Kd.FK_below HFv8.out (below_alloc (Below.refl v8.heap.size v8) (.cells #[.string m] 9))
                      refine hK.out _ _ (SX_of hD hB) (fun hHeld => ?_)
                      clear hK K
                      refine norm_ (a' := ?_) ?_ ?_
                      rotate_left
                      · show Act.put _ (some 74) _ = _
                        simp only [Act.put, List.setIfInBounds_toArray, List.set_cons_zero, List.set_cons_succ]
                        rfl
                      have HDv3 := Lib.hid hD
                      have HBv3 := Lib.hid hB
                      have HFv3 := Lib.hid hF
                      have HX8v3 := Lib.hid ((below_alloc (Below.refl v8.heap.size v8) (.cells #[.string m] 9)).block b8 (blk_lt HX8v8.out) |>.trans HX8v8.out)
                      have HX3v3 : Hid ((v8.alloc (.cells #[.string m] 9)).heap[v8.heap.size]? = some (.cells #[.string m] 9 (0, 0))) := Lib.hid (heap_alloc_new _ _)
                      clear hD hB hF HDv8 HBv8 HFv8 HX8v8
                      generalize v8.alloc (.cells #[.string m] 9) = v3 at HDv3 HBv3 HFv3 HX8v3 HX3v3 hHeld ⊢
                      generalize v8.heap.size = b3 at HX3v3 ⊢
                      refine one_ (i := 4) (N := some 75) #[true, true, true, true, true, true, true, true, true, false, false, false, false, false] rfl rfl (by kernel_rfl) (by decide) (fun K hK => ?_)
                      refine step_app (gb + 1) (by rfl) rfl (.tmp 72) (.tmp 74) 23 9 (.string ⟨#[]⟩) 1 16 rfl Tryd.underlying23 (by kernel_rfl) rfl (by decide) (by decide) vN ns.length (encs Value.string ns) [.string m] rfl ⟨b3, 0, none⟩ rfl rfl (by simp [Value.oneCell']) (box_one HX3v3.out) HDv3.out.hn HDv3.out.hW (by have := HMX.out; omega) ?_
                      intro v1 w9 ho hg hat
                      obtain ⟨A5, c5, rfl⟩ := own_slice ho
                      have hD := HDv3.out.appN ho hg hat
                      have hB := blk_grown HBv3.out hg (own_ne HDv3.out.hn HBv3.out (by decide))
                      have hF := FK_app HFv3.out hg hat (ok' := okE (gb + 1) (.slice A5 (ns.length + 1) c5) vX) (fun k hk => hk.2.1) (fun k hk h1 _ => ⟨hk.1, h1, hk.2.2⟩)
                      have HX8p4 := Lib.hid (blk_grown HX8v3.out hg (own_ne HDv3.out.hn HX8v3.out (by decide)))
                      refine hK.out _ _ (SX_of hD hB) (fun hHeld => ?_)
                      clear hK K
                      refine norm_ (a' := ?_) ?_ ?_
                      rotate_left
                      · show Act.put _ (some 75) _ = _
                        simp only [Act.put, List.setIfInBounds_toArray, List.set_cons_zero, List.set_cons_succ]
                        rfl
                      have HDp4 := Lib.hid hD
                      have HBp4 := Lib.hid hB
                      have HFp4 := Lib.hid hF
                      clear ho hg hat hD hB hF HDv3 HBv3 HFv3 HX8v3 HX3v3
                      skip
                      refine pure_ (i := 10) (N := some 81) (v := ?_) (a' := ?_) #[true, true, true, true, true, true, true, true, true, false, true, false, false, false] rfl rfl (by kernel_rfl) (fun _ _ _ h => h) (Or.inl ⟨by rfl, ?_⟩) ?_ ?_
                      rotate_left
                      · intro w'
                        go_simp
                        with_reducible rfl
                      rotate_left
                      · simp only [Act.put, List.setIfInBounds_toArray, List.set_cons_zero, List.set_cons_succ]
                        rfl
                      refine last_ (i := 9) (N := some 80) #[true, true, true, true, true, true, true, true, true, true, true, false, false, false] rfl rfl (by kernel_rfl) (by decide) (fun K hK => ?_)
                      have hxl : xs.length = ns.length := HXL.out
                      obtain ⟨inner, hx, hr⟩ := HDp4.out.hx
                      refine step_app (gb + 1) (by rfl) rfl (.tmp 77) (.tmp 79) 24 26 (.agg #[.int .i64 0, .bool false, .slice none 0 0, .slice none 0 0, .slice none 0 0]) 5 88 rfl Tryd.underlying24 (by kernel_rfl) rfl (by decide) (by decide) vX xs.length inner #[.int .i64 x.f0, .bool x.f1, .slice X2 x.f2.length d2, .slice X3 x.f3.length d3, .slice X4 x.f4.length d4].toList rfl ⟨b8, 0, none⟩ rfl rfl (by simp [Value.oneCell']) (box_cells HX8p4.out) hx HDp4.out.hW (by have := HMX.out; omega) ?_
                      intro v2 w10 ho hg hat
                      obtain ⟨A6, c6, rfl⟩ := own_slice ho
                      have hD := HDp4.out.appX hx hr HFp4.out ho hg hat
                      refine hK.out _ _ ?_
                      clear hK K
                      refine norm_ (a' := ?_) ?_ ?_
                      rotate_left
                      · show Act.put _ (some 80) _ = _
                        simp only [Act.put, List.setIfInBounds_toArray, List.set_cons_zero, List.set_cons_succ]
                        rfl
                      have HDz := Lib.hid hD
                      clear hxl ho hg hat hD hx hr HDp4 HBp4 HFp4 HX8p4
                      refine last_ (i := 11) (N := none) #[true, true, true, true, true, true, true, true, true, true, true, true, false, false] rfl rfl (by kernel_rfl) (by decide) (fun K hK => ?_)
                      have hfz := HDz.out.nb.free
                      have hcz := HDz.out.nb.cells
                      obtain ⟨f0, f1, f2, f3, f4⟩ := hfz
                      obtain ⟨q0, q1, q2, q3, q4⟩ := hcz
                      refine skip_ (w1 := ?_) (by rfl) rfl ?_ ?_
                      rotate_left
                      · go_simp
                        rfl
                      refine hK.out _ _ ?_
                      clear hK K q0 q1 q2 q3 q4 f0 f1 f2 f3 f4
                      have HDy := Lib.hid (HDz.out.set3 (.slice A5 (ns.length + 1) c5))
                      clear HDz
                      generalize w10.setCell ⟨gb, 3, none⟩ (.slice A5 (ns.length + 1) c5) = w11 at HDy ⊢
                      refine pure_ (i := 12) (N := some 82) (v := ?_) (a' := ?_) #[true, true, true, true, true, true, true, true, true, true, true, true, true, false] rfl rfl (by kernel_rfl) (fun _ _ _ h => h) (Or.inl ⟨by rfl, ?_⟩) ?_ ?_
                      rotate_left
                      · intro w'
                        go_simp
                        with_reducible rfl
                      rotate_left
                      · simp only [Act.put, List.setIfInBounds_toArray, List.set_cons_zero, List.set_cons_succ]
                        rfl
                      refine last_ (i := 13) (N := none) #[true, true, true, true, true, true, true, true, true, true, true, true, true, true] rfl rfl (by kernel_rfl) (by decide) (fun K hK => ?_)
                      obtain ⟨f0, f1, f2, f3, f4⟩ := HDy.out.nb.free
                      obtain ⟨q0, q1, q2, q3, q4⟩ := HDy.out.nb.cells
                      refine skip_ (w1 := ?_) (by rfl) rfl ?_ ?_
                      rotate_left
                      · go_simp
                        rfl
                      refine hK.out _ _ ?_
                      clear hK K q0 q1 q2 q3 q4 f0 f1 f2 f3 f4
                      have HDx := Lib.hid (HDy.out.set4 (.slice A6 (xs.length + 1) c6))
                      clear HDy
                      generalize w11.setCell ⟨gb, 4, none⟩ (.slice A6 (xs.length + 1) c6) = w12 at HDx ⊢
                      refine done_ (by kernel_rfl) ?_
                      go_wp2_with fail
                      have h1 := HRL.out
                      have h3 := HRL3.out
                      have h4 := HRL4.out
                      have h5 := HRL5.out
                      have h6 := HRL6.out
                      have h8 := HRL8.out
                      have hf := HFB.out
                      have hmx := HMX.out
                      have hxl := HXL.out
                      have hml := HML.out
                      refine ⟨⟨ns ++ [m], xs ++ [x], r8, f - 1, _, _, HDx, HR8, by omega, by rw [List.length_append, List.length_singleton]; omega, by rw [List.length_append, List.length_append, hxl]; rfl⟩, ?_⟩
                      rw [HDx.out.rd.rlen, hml]
                      omega
                  · refine Lib.hid ?_
                    have HRES2 : Hid (rents (rnode k) (l.length + 1) l [] [] = none) := Lib.hid (by have h := HR6.out; rw [hm] at h; exact h)
                    have HNF := Lib.hid (HD7.out.nb.call hg)
                    obtain ⟨A3, c3, A4, c4, rfl, rfl⟩ := HD7.out.forms
                    have HK := Lib.hid hk
                    clear hg hm hk hlit
                    obtain ⟨q0, q1, q2, q3, q4⟩ := HNF.out.cells
                    obtain ⟨f0, f1, f2, f3, f4⟩ := HNF.out.free
                    unfold flt
                    go_wp2_with fail
                    rw [Exit.noGoto_ret]
                    refine bodyPost_ret (results_cell2 Tryd.results35 rfl HNF.out.five.load) rfl ⟨HNF.out.five.gr, Or.inr ⟨HRES2.out, k3, 2, false, _, _, _, _, _, _, _, _, _, HK.out, rfl⟩⟩
                · skip
                  have HRES2 : Hid (rents (rnode k) (l.length + 1) l [] [] = none) := Lib.hid (by have h := HR5.out; rw [hrn] at h; exact h)
                  have HNF := Lib.hid ((HD5.out.nb.call hg).call (World.grownBy_alloc _ (.cells #[.int .i64 g0, .bool g1, .slice B2 n2 d2, .slice B3 n3 d3, .slice B4 n4 d4] 26) _))
                  generalize hwa : w6.alloc (.cells #[.int .i64 g0, .bool g1, .slice B2 n2 d2, .slice B3 n3 d3, .slice B4 n4 d4] 26) = wa at HNF
                  obtain ⟨A3, c3, A4, c4, rfl, rfl⟩ := HD5.out.forms
                  have HK := Lib.hid hq
                  clear hg hrn hq
                  obtain ⟨q0, q1, q2, q3, q4⟩ := HNF.out.cells
                  obtain ⟨f0, f1, f2, f3, f4⟩ := HNF.out.free
                  unfold flt
                  go_wp2_with fail
                  rw [Exit.noGoto_ret]
                  refine bodyPost_ret (results_cell2 Tryd.results35 rfl HNF.out.five.load) rfl ⟨HNF.out.five.gr, Or.inr ⟨HRES2.out, kk, 2, false, _, _, _, _, _, _, _, _, _, HK.out, rfl⟩⟩
              · refine Lib.hid ?_
                have HRES2 : Hid (rents (rnode k) (l.length + 1) l [] [] = none) := Lib.hid (by have h := HR4.out; rw [hm] at h; exact h)
                have HNF := Lib.hid (HD4.out.nb.call hg)
                obtain ⟨A3, c3, A4, c4, rfl, rfl⟩ := HD4.out.forms
                have HK := Lib.hid hk
                clear hg hm hk hlit
                obtain ⟨q0, q1, q2, q3, q4⟩ := HNF.out.cells
                obtain ⟨f0, f1, f2, f3, f4⟩ := HNF.out.free
                unfold flt
                go_wp2_with fail
                rw [Exit.noGoto_ret]
                refine bodyPost_ret (results_cell2 Tryd.results35 rfl HNF.out.five.load) rfl ⟨HNF.out.five.gr, Or.inr ⟨HRES2.out, k3, 2, false, _, _, _, _, _, _, _, _, _, HK.out, rfl⟩⟩
            · refine Lib.hid ?_
              have HRES2 : Hid (rents (rnode k) (l.length + 1) l [] [] = none) := Lib.hid (by have h := HR3.out; rw [hrn] at h; exact h)
              have HNF := Lib.hid (HD3.out.nb.call hg)
              obtain ⟨A3, c3, A4, c4, rfl, rfl⟩ := HD3.out.forms
              have HK := Lib.hid hq
              clear hg hrn hq
              obtain ⟨q0, q1, q2, q3, q4⟩ := HNF.out.cells
              obtain ⟨f0, f1, f2, f3, f4⟩ := HNF.out.free
              unfold flt
              go_wp2_with fail
              rw [Exit.noGoto_ret]
              refine bodyPost_ret (results_cell2 Tryd.results35 rfl HNF.out.five.load) rfl ⟨HNF.out.five.gr, Or.inr ⟨HRES2.out, q, 2, false, _, _, _, _, _, _, _, _, _, HK.out, rfl⟩⟩
          · refine Lib.hid ?_
            have HRES2 : Hid (rents (rnode k) (l.length + 1) l [] [] = none) := Lib.hid (by have h := HRES.out; rw [hm] at h; exact h)
            have HNF := Lib.hid (HD2.out.nb.call hg)
            obtain ⟨A3, c3, A4, c4, rfl, rfl⟩ := HD2.out.forms
            have HK := Lib.hid hk
            clear hg hm hk hlit
            obtain ⟨q0, q1, q2, q3, q4⟩ := HNF.out.cells
            obtain ⟨f0, f1, f2, f3, f4⟩ := HNF.out.free
            unfold flt
            go_wp2_with fail
            rw [Exit.noGoto_ret]
            refine bodyPost_ret (results_cell2 Tryd.results35 rfl HNF.out.five.load) rfl ⟨HNF.out.five.gr, Or.inr ⟨HRES2.out, k3, 2, false, _, _, _, _, _, _, _, _, _, HK.out, rfl⟩⟩
        · have hb2 : (s.toList == [101, 110, 116, 114, 121]) = false := by rw [hen]; simpa using hs2
          have hres := HE.out.trans (rents_other HRN.out hs hs2)
          clear hen HE HRN
          have HRES := Lib.hid (hres)
          have HNF := Lib.hid (HD2.out.nb)
          obtain ⟨A3, c3, A4, c4, rfl, rfl⟩ := HD2.out.forms
          clear hres
          obtain ⟨q0, q1, q2, q3, q4⟩ := HNF.out.cells
          obtain ⟨f0, f1, f2, f3, f4⟩ := HNF.out.free
          go_wp2_with fail
          rw [Exit.noGoto_ret]
          refine bodyPost_ret (results_cell2 Tryd.results35 rfl HNF.out.five.load) rfl ⟨HNF.out.five.gr, Or.inr ⟨HRES.out, 10, 2, false, _, _, _, _, _, _, _, _, _, by decide, rfl⟩⟩
    · refine Lib.hid ?_
      have HRES := Lib.hid (HE.out.trans (rents_none hrn))
      have HNF := Lib.hid (HD.out.nb.call hg)
      obtain ⟨A3, c3, A4, c4, rfl, rfl⟩ := HD.out.forms
      have HK := Lib.hid hq
      clear hg hrn hq HE
      obtain ⟨q0, q1, q2, q3, q4⟩ := HNF.out.cells
      obtain ⟨f0, f1, f2, f3, f4⟩ := HNF.out.free
      unfold flt
      go_wp2_with fail
      rw [Exit.noGoto_ret]
      refine bodyPost_ret (results_cell2 Tryd.results35 rfl HNF.out.five.load) rfl ⟨HNF.out.five.gr, Or.inr ⟨HRES.out, q, 2, false, _, _, _, _, _, _, _, _, _, HK.out, rfl⟩⟩
end Go.Proofs.YtdehcojmgmjcmaaDoor
