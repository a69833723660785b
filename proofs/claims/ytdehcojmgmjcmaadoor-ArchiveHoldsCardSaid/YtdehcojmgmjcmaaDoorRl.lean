/- ArchiveBack, walked. -/
import Derived.Test.YtdehcojmgmjcmaaDoorRc
import Derived.Test.YtdehcojmgmjcmaaDoorRq
namespace Go.Proofs.YtdehcojmgmjcmaaDoor
set_option linter.unusedVariables false
set_option linter.unusedSimpArgs false
open Go.RowKit QArchiveBack Go.Proofs.YtdehcojmgmjcmaaDoorW.PrintWords Go.Proofs.YtdehcojmgmjcmaaDoorW.PrintLast Go.Proofs.YtdehcojmgmjcmaaDoorW.PrintMore
theorem same_of (w : World) (x y : S26) (cs ds : List Value) (hx : k26.K w x cs) (hy : k26.K w y ds) (hf : fits x) : Calls Tryd.prog 8 #[.agg cs.toArray, .agg ds.toArray] w fun e w' => e = .returned (.bool (sm x y)) ∧ Below w.heap.size w w' := by
  obtain ⟨A2, c2, A3, c3, A4, c4, rfl, l2, g2, l3, g3, l4, g4⟩ := k26_open hx
  obtain ⟨B2, d2, B3, d3, B4, d4, rfl, m2, h2, m3, h3, m4, h4⟩ := k26_open hy
  obtain ⟨k, h⟩ := (same_all _ x y (Nat.le_refl _) hf).rounds
  exact stillroomref06_Same.calls k _ _ _ _ _ _ _ _ _ _ _ _ _ _ _ _ _ _ _ _ _ _ _ w g2 l2 g3 l3 g4 l4 h2 m2 h3 m3 h4 m4 h
/-- what stays from call to call: what came in, and the boxes of the two nodes -/
structure BS (w W : World) (gx gy : Nat) (cx cy : Array Value) : Prop where
  below : Below w.heap.size w W
  bx : W.heap[gx]? = some (.cells cx 26 (0, 0))
  by_ : W.heap[gy]? = some (.cells cy 26 (0, 0))
theorem BS.step {w W W' : World} {gx gy : Nat} {cx cy : Array Value} (h : BS w W gx gy cx cy) (hb : Below W.heap.size W W') : BS w W' gx gy cx cy :=
  ⟨h.below.trans (hb.mono h.below.size), (hb.block gx (blk_lt h.bx)).trans h.bx, (hb.block gy (blk_lt h.by_)).trans h.by_⟩
theorem normL_of (n : Nat) : ∀ x : S26, nodes x ≤ n → nodeL (norm x) = nodeL x := by
  induction n with
  | zero => intro x hx; have := nodes_pos x; omega
  | succ n ih =>
    intro x hx
    have hno := nodes_eq x
    have key : ∀ (l : List S26) (ms : List ByteArray), (∀ y ∈ l, nodeL (norm y) = nodeL y) → entsL (normL l) ms = entsL l ms := by
      intro l
      induction l with
      | nil => intro ms _; rfl
      | cons y l ih2 =>
        intro ms h
        cases ms with
        | nil => rw [normL]; simp [entsL]
        | cons m ms => rw [normL, entsL, entsL, h y List.mem_cons_self, ih2 ms fun z hz => h z (List.mem_cons_of_mem _ hz)]
    have k4 := key x.f4 x.f3 fun y hy => ih y (by have := nodes_mem hy; omega)
    rw [nodeL_eq, nodeL_eq x, norm_eq]
    simp only [k4, strOf_bytesOf]
theorem arch_norm {x y : S26} (h : norm x = norm y) : arch x = arch y := by
  unfold arch
  rw [← normL_of _ x (Nat.le_refl _), ← normL_of _ y (Nat.le_refl _), h]
theorem norm_norm {x : S26} (h : right x = 0) (hl : (arch x).length ≤ 1048576) : norm (norm x) = norm x := (decode_inv (inB_arch x) (decode_arch h hl)).2.2.1
theorem strOf_inj {a b : List Int} (ha : inB a) (hb : inB b) (h : strOfNums a = strOfNums b) : a = b := by rw [← bytesOf_strOf a ha, ← bytesOf_strOf b hb, h]
/-- two nodes have one archive just if they are alike -/
theorem arch_sm {x y : S26} (hx : right x = 0) (hy : right y = 0) (hl : (arch x).length ≤ 1048576) : ((strOfNums (arch x)).toList == (strOfNums (arch y)).toList) = sm x y := by
  rw [Bool.eq_iff_iff, sm_true, beq_iff_eq]
  constructor
  · intro h
    have e := strOf_inj (inB_arch x) (inB_arch y) (bytes_ext.1 h)
    have d1 := decode_arch hx hl
    have d2 := decode_arch hy (by rw [← e]; exact hl)
    rw [e, d2] at d1
    exact (Option.some.inj d1).symm
  · intro h
    rw [arch_norm h]
theorem K_zero (w : World) (k : Int) : k26.K w ⟨k, false, [], [], []⟩ [.int .i64 k, .bool false, .slice none 0 0, .slice none 0 0, .slice none 0 0] :=
  k26_mk w ⟨k, false, [], [], []⟩ (Nat.le_refl _) ⟨rfl, by simp, fun h => absurd h (by simp)⟩ (Nat.le_refl _) ⟨rfl, by simp, fun h => absurd h (by simp)⟩ (Nat.le_refl _) ⟨rfl, by simp, fun h => absurd h (by simp)⟩
theorem fits_zero (k : Int) : fits ⟨k, false, [], [], []⟩ := by
  rw [fits_eq]
  exact ⟨by simp, ⟨by simp, by simp⟩, by simp, trivial⟩
theorem right_dir : right ⟨2, false, [], [], []⟩ = 0 := by
  unfold right
  rw [if_pos (by rw [deep_eq, nodes_eq]; simp [deepL, nodesL]), bad_eq]
  simp [kindOk, entSum, namesBad, badL]
theorem arch_dir : (arch ⟨2, false, [], [], []⟩).length = 96 := by
  rw [arch_len, nodeL_eq]
  simp only [entsL, strsL, List.length_append, List.length_nil, strL_len]
  rfl
theorem K_lit {w : World} {x : S26} {cs : Array Value} (h : k26.K w x cs.toList) : ∃ A2 c2 A3 c3 A4 c4, cs = #[.int .i64 x.f0, .bool x.f1, .slice A2 x.f2.length c2, .slice A3 x.f3.length c3, .slice A4 x.f4.length c4] := by
  obtain ⟨A2, c2, A3, c3, A4, c4, e, _⟩ := k26_open h
  exact ⟨A2, c2, A3, c3, A4, c4, Array.toList_inj.1 e⟩
/-- what the comparison of two archives and of two nodes reads -/
structure SB (gx gy : Nat) (a0 a1 a2 a3 a4 b0 b1 b2 b3 b4 v1 v2 : Value) (t1 t2 : ByteArray) (w' : World) : Prop where
  x0 : w'.cell? ⟨gx, 0, none⟩ = some a0
  x1 : w'.cell? ⟨gx, 1, none⟩ = some a1
  x2 : w'.cell? ⟨gx, 2, none⟩ = some a2
  x3 : w'.cell? ⟨gx, 3, none⟩ = some a3
  x4 : w'.cell? ⟨gx, 4, none⟩ = some a4
  y0 : w'.cell? ⟨gy, 0, none⟩ = some b0
  y1 : w'.cell? ⟨gy, 1, none⟩ = some b1
  y2 : w'.cell? ⟨gy, 2, none⟩ = some b2
  y3 : w'.cell? ⟨gy, 3, none⟩ = some b3
  y4 : w'.cell? ⟨gy, 4, none⟩ = some b4
  c1 : (convert 22 9 v1).run Tryd.prog w' = .ok (.string t1) w'
  c2 : (convert 22 9 v2).run Tryd.prog w' = .ok (.string t2) w'
theorem SB_of {w W : World} {gx gy : Nat} {a0 a1 a2 a3 a4 b0 b1 b2 b3 b4 v1 v2 : Value} {t1 t2 : ByteArray} (h : BS w W gx gy #[a0, a1, a2, a3, a4] #[b0, b1, b2, b3, b4]) (c1 : (convert 22 9 v1).run Tryd.prog W = .ok (.string t1) W) (c2 : (convert 22 9 v2).run Tryd.prog W = .ok (.string t2) W) : SB gx gy a0 a1 a2 a3 a4 b0 b1 b2 b3 b4 v1 v2 t1 t2 W := by
  obtain ⟨p0, p1, p2, p3, p4⟩ := row_cells h.bx
  obtain ⟨q0, q1, q2, q3, q4⟩ := row_cells h.by_
  exact ⟨p0, p1, p2, p3, p4, q0, q1, q2, q3, q4, c1, c2⟩
theorem conv_at {W : World} {g cap : Nat} {l : List Int} (h : Byts W g 0 l.length l) (hl : l.length ≤ 9223372036854775807) : (convert 22 9 (.slice (some ⟨g, 0, none⟩) l.length cap)).run Tryd.prog W = .ok (.string (strOfNums l)) W :=
  Kd.C_string Tryd.underlying22 Tryd.underlying5 Tryd.underlying9 (c := cap) (h.to_C hl)
set_option maxRecDepth 8000 in
set_option maxHeartbeats 16000000 in
theorem back_walk (w : World) (x y : S26) (cs ds : List Value) (A : Option Addr) (n c : Nat) (bs : List Int) (hx : k26.K w x cs) (hy : k26.K w y ds) (hfx : fits x) (hfy : fits y) (hC : Kd.C (Kd.int .u8) w A n bs) (hc : n ≤ c) (hin : inB bs) (hg : w.cell? ⟨0, 0, none⟩ = some (.iface 93 (.agg #[.pointer (some ⟨4, 50, none⟩)]))) :
    Calls Tryd.prog 3 #[.agg cs.toArray, .agg ds.toArray, .slice A n c] w fun e w' => e = .returned (.bool true) ∧ Below w.heap.size w w' := by
  have HX := Lib.hid hx
  have HY := Lib.hid hy
  have HFX := Lib.hid hfx
  have HFY := Lib.hid hfy
  have HCC := Lib.hid hC
  have HC := Lib.hid hc
  have HIN := Lib.hid hin
  have HGE := Lib.hid hg
  have hn := hC.2.1
  obtain ⟨X2, d2, X3, d3, X4, d4, rfl, _⟩ := k26_open hx
  obtain ⟨Y2, e2, Y3, e3, Y4, e4, rfl, _⟩ := k26_open hy
  clear hx hy hC hc hin hg hfx hfy
  go_enter Tryd.func3, Tryd.ntmps3
  go_upto_region 1 with fail
  have hS : BS w ((w.alloc (.cells #[.int .i64 x.f0, .bool x.f1, .slice X2 x.f2.length d2, .slice X3 x.f3.length d3, .slice X4 x.f4.length d4] 26)).alloc (.cells #[.int .i64 y.f0, .bool y.f1, .slice Y2 y.f2.length e2, .slice Y3 y.f3.length e3, .slice Y4 y.f4.length e4] 26)) w.heap.size (w.heap.size + 1) #[.int .i64 x.f0, .bool x.f1, .slice X2 x.f2.length d2, .slice X3 x.f3.length d3, .slice X4 x.f4.length d4] #[.int .i64 y.f0, .bool y.f1, .slice Y2 y.f2.length e2, .slice Y3 y.f3.length e3, .slice Y4 y.f4.length e4] := by
    have h1 := (Below.refl w.heap.size w).alloc (Nat.le_refl _) (.cells #[.int .i64 x.f0, .bool x.f1, .slice X2 x.f2.length d2, .slice X3 x.f3.length d3, .slice X4 x.f4.length d4] 26)
    have h2 : (w.alloc (.cells #[.int .i64 x.f0, .bool x.f1, .slice X2 x.f2.length d2, .slice X3 x.f3.length d3, .slice X4 x.f4.length d4] 26)).heap[w.heap.size]? = some (.cells #[.int .i64 x.f0, .bool x.f1, .slice X2 x.f2.length d2, .slice X3 x.f3.length d3, .slice X4 x.f4.length d4] 26 (0, 0)) := heap_alloc_new _ _
    have h3 : (w.alloc (.cells #[.int .i64 x.f0, .bool x.f1, .slice X2 x.f2.length d2, .slice X3 x.f3.length d3, .slice X4 x.f4.length d4] 26)).heap.size = w.heap.size + 1 := by simp
    refine ⟨h1.alloc h1.size _, ((below_alloc (Below.refl _ _) _).block _ (blk_lt h2)).trans h2, ?_⟩
    rw [← h3]
    exact heap_alloc_new _ _
  generalize (w.alloc (.cells #[.int .i64 x.f0, .bool x.f1, .slice X2 x.f2.length d2, .slice X3 x.f3.length d3, .slice X4 x.f4.length d4] 26)).alloc (.cells #[.int .i64 y.f0, .bool y.f1, .slice Y2 y.f2.length e2, .slice Y3 y.f3.length e3, .slice Y4 y.f4.length e4] 26) = w1 at hS ⊢
  generalize hgx : w.heap.size = gx at hS ⊢
  have HS1 := Lib.hid hS
  clear hS hgx
  obtain ⟨p0, p1, p2, p3, p4⟩ := row_cells HS1.out.bx
  obtain ⟨q0, q1, q2, q3, q4⟩ := row_cells HS1.out.by_
  have hla := large_of w1 x _ (k26.K_below HS1.out.below HX.out) HFX.out
  go_wp2_with (go_at_call 5; refine hla.mono ?_; rintro e w2 ⟨⟨r, rfl⟩, hb⟩; refine Hid.out ?_)
  refine Lib.hid ?_
  have HS2 := Lib.hid (HS1.out.step hb)
  clear hb hla p0 p1 p2 p3 p4 q0 q1 q2 q3 q4
  obtain ⟨p0, p1, p2, p3, p4⟩ := row_cells HS2.out.bx
  obtain ⟨q0, q1, q2, q3, q4⟩ := row_cells HS2.out.by_
  cases r
  · have hla := large_of w2 y _ (k26.K_below HS2.out.below HY.out) HFY.out
    go_wp2_with (go_at_call 5; refine hla.mono ?_; rintro e w3 ⟨⟨r, rfl⟩, hb⟩; refine Hid.out ?_)
    refine Lib.hid ?_
    have HS3 := Lib.hid (HS2.out.step hb)
    clear hb hla p0 p1 p2 p3 p4 q0 q1 q2 q3 q4
    obtain ⟨p0, p1, p2, p3, p4⟩ := row_cells HS3.out.bx
    obtain ⟨q0, q1, q2, q3, q4⟩ := row_cells HS3.out.by_
    cases r
    · have hen := encode_of w3 ⟨2, false, [], [], []⟩ _ (K_zero w3 2) (fits_zero 2)
      go_wp2_with (go_at_call 6; refine hen.mono ?_; rintro e w4 ⟨hb, ⟨hr, g, cap, rfl, hcap, hby, hgl⟩ | ⟨hr, A9, c9, rfl⟩⟩ <;> refine Hid.out ?_)
      · refine Lib.hid ?_
        have HS4 := Lib.hid (HS3.out.step hb)
        rw [arch_dir]
        clear hb hen hby hgl hcap hr p0 p1 p2 p3 p4 q0 q1 q2 q3 q4
        obtain ⟨p0, p1, p2, p3, p4⟩ := row_cells HS4.out.bx
        obtain ⟨q0, q1, q2, q3, q4⟩ := row_cells HS4.out.by_
        have hen := encode_of w4 x _ (k26.K_below HS4.out.below HX.out) HFX.out
        go_wp2_with (go_at_call 6; refine hen.mono ?_; rintro e w5 ⟨hb, ⟨hr, g5, cap5, rfl, hcap, hby, hgl⟩ | ⟨hr, A9, c9, rfl⟩⟩ <;> refine Hid.out ?_)
        · refine Lib.hid ?_
          have HS5 := Lib.hid (HS4.out.step hb)
          have HB5 := Lib.hid hby
          have HCAP := Lib.hid hcap
          have HRX := Lib.hid hr
          have hlx : (arch x).length ≤ 9223372036854775807 := by have := (right_len hr).1; rw [arch_len]; omega
          clear hb hen hby hgl hcap hr p0 p1 p2 p3 p4 q0 q1 q2 q3 q4
          by_cases hl : ((arch x).length : Int) ≤ 1048576
          · have hda := decode_arch HRX.out (by omega)
            have HNN := Lib.hid (norm_norm HRX.out (by omega))
            have HLX : Hid ((arch x).length ≤ 1048576) := Lib.hid (by omega)
            have HFN := Lib.hid (decode_inv (inB_arch x) hda).2.2.2
            have hdc := decode_of w5 (some ⟨g5, 0, none⟩) (arch x).length cap5 (arch x) (HB5.out.to_C hlx) HCAP.out (inB_arch x) (by rw [HS5.out.below.cell (p := ⟨0, 0, none⟩) (by have := World.block_lt_of_cell? _ _ HGE.out; exact this)]; exact HGE.out)
            obtain ⟨p0, p1, p2, p3, p4⟩ := row_cells HS5.out.bx
            obtain ⟨q0, q1, q2, q3, q4⟩ := row_cells HS5.out.by_
            go_wp2_with (go_at_call 7; refine hdc.mono ?_; rintro e w6 ⟨hb, ⟨z, zs, hd, rfl, hK⟩ | ⟨hd, k, hk, rfl⟩⟩ <;> refine Hid.out ?_)
            · refine Lib.hid ?_
              rw [hda] at hd
              injection hd with hz
              obtain ⟨Z2, z2, Z3, z3, Z4, z4, rfl⟩ := K_lit hK
              have hba := below_alloc (Below.refl w6.heap.size w6) (.cells #[.int .i64 z.f0, .bool z.f1, .slice Z2 z.f2.length z2, .slice Z3 z.f3.length z3, .slice Z4 z.f4.length z4] 26)
              have HS7 := Lib.hid ((HS5.out.step hb).step hba)
              have HB7 := Lib.hid ((HB5.out.below hb).below hba)
              have HZ := Lib.hid hz
              have HFZ : Hid (fits z) := by rw [← hz]; exact HFN
              have HKZ := Lib.hid (k26.K_below hba hK)
              have HBZ : Hid ((w6.alloc (.cells #[.int .i64 z.f0, .bool z.f1, .slice Z2 z.f2.length z2, .slice Z3 z.f3.length z3, .slice Z4 z.f4.length z4] 26)).heap[w6.heap.size]? = some (.cells #[.int .i64 z.f0, .bool z.f1, .slice Z2 z.f2.length z2, .slice Z3 z.f3.length z3, .slice Z4 z.f4.length z4] 26 (0, 0))) := Lib.hid (heap_alloc_new _ _)
              clear hb hba hz hK hda hdc HFN HB5 p0 p1 p2 p3 p4 q0 q1 q2 q3 q4
              generalize hw7 : w6.alloc (.cells #[.int .i64 z.f0, .bool z.f1, .slice Z2 z.f2.length z2, .slice Z3 z.f3.length z3, .slice Z4 z.f4.length z4] 26) = w7 at HS7 HB7 HKZ HBZ
              generalize hgz : w6.heap.size = gz at HBZ
              obtain ⟨p0, p1, p2, p3, p4⟩ := row_cells HS7.out.bx
              obtain ⟨q0, q1, q2, q3, q4⟩ := row_cells HS7.out.by_
              obtain ⟨s0, s1, s2, s3, s4⟩ := row_cells HBZ.out
              have hsm := same_of w7 z x [.int .i64 z.f0, .bool z.f1, .slice Z2 z.f2.length z2, .slice Z3 z.f3.length z3, .slice Z4 z.f4.length z4] _ HKZ.out (k26.K_below HS7.out.below HX.out) HFZ.out
              rw [sm_true.2 (by rw [← HZ.out]; exact HNN.out)] at hsm
              go_wp2_with (go_at_call 8; (try rw [hw7]); refine hsm.mono ?_; rintro e w8 ⟨rfl, hb⟩; refine Hid.out ?_)
              refine Lib.hid ?_
              have HS8 := Lib.hid (HS7.out.step hb)
              have HB8 := Lib.hid (HB7.out.below hb)
              clear hb hsm hw7 hgz HKZ HBZ HZ HFZ p0 p1 p2 p3 p4 q0 q1 q2 q3 q4 s0 s1 s2 s3 s4
              obtain ⟨p0, p1, p2, p3, p4⟩ := row_cells HS8.out.bx
              obtain ⟨q0, q1, q2, q3, q4⟩ := row_cells HS8.out.by_
              have hen := encode_of w8 y _ (k26.K_below HS8.out.below HY.out) HFY.out
              go_wp2_with (go_at_call 6; refine hen.mono ?_; rintro e w9 ⟨hb, ⟨hr, g9, cap9, rfl, hcap9, hby9, hgl9⟩ | ⟨hr, A9, c9, rfl⟩⟩ <;> refine Hid.out ?_)
              · refine Lib.hid ?_
                have HS9 := Lib.hid (HS8.out.step hb)
                have HB9 := Lib.hid (HB8.out.below hb)
                have HBY := Lib.hid hby9
                have HEQ := Lib.hid (arch_sm HRX.out hr HLX.out)
                have hly : (arch y).length ≤ 9223372036854775807 := by have := (right_len hr).1; rw [arch_len]; omega
                clear hb hen hby9 hgl9 hcap9 p0 p1 p2 p3 p4 q0 q1 q2 q3 q4
                obtain ⟨p0, p1, p2, p3, p4⟩ := row_cells HS9.out.bx
                obtain ⟨q0, q1, q2, q3, q4⟩ := row_cells HS9.out.by_
                have heq := HEQ.out
                go_upto_region 12 with fail
                have HSd := Lib.hid (HS9.out.step (below_drew (Below.refl _ _)))
                have HBd := Lib.hid (HB9.out.below (below_drew (Below.refl _ _)))
                have HYd := Lib.hid (HBY.out.below (below_drew (Below.refl _ _)))
                clear HS9 HB9 HBY p0 p1 p2 p3 p4 q0 q1 q2 q3 q4
                refine start_ (n := 13) (S := SB gx (gx + 1) (.int .i64 x.f0) (.bool x.f1) (.slice X2 x.f2.length d2) (.slice X3 x.f3.length d3) (.slice X4 x.f4.length d4) (.int .i64 y.f0) (.bool y.f1) (.slice Y2 y.f2.length e2) (.slice Y3 y.f3.length e3) (.slice Y4 y.f4.length e4) (.slice (some ⟨g5, 0, none⟩) (arch x).length cap5) (.slice (some ⟨g9, 0, none⟩) (arch y).length cap9) (strOfNums (arch x)) (strOfNums (arch y))) (ds := []) #[false, false, false, false, false, false, false, false, false, false, false, false, false] (by kernel_rfl) rfl rfl (SB_of HSd.out (conv_at HBd.out hlx) (conv_at HYd.out hly)) (fun hHeld => ?_)
                generalize w9.drew = v9 at HSd HBd HYd hHeld ⊢
                refine pure_ (i := 0) (N := some 64) (v := ?_) (a' := ?_) #[true, false, false, false, false, false, false, false, false, false, false, false, false] rfl rfl (by kernel_rfl) (fun _ _ _ h => h) (Or.inl ⟨by rfl, ?_⟩) ?_ ?_
                rotate_left
                · intro w'
                  go_simp
                  with_reducible rfl
                rotate_left
                · simp only [Act.put, List.setIfInBounds_toArray, List.set_cons_zero, List.set_cons_succ]
                  rfl
                refine pure_ (i := 1) (N := some 65) (v := ?_) (a' := ?_) #[true, true, false, false, false, false, false, false, false, false, false, false, false] rfl rfl (by kernel_rfl) (fun _ _ _ h => h) (Or.inl ⟨by rfl, ?_⟩) ?_ ?_
                rotate_left
                · intro w'
                  go_simp
                  with_reducible rfl
                rotate_left
                · simp only [Act.put, List.setIfInBounds_toArray, List.set_cons_zero, List.set_cons_succ]
                  rfl
                refine pure_ (i := 2) (N := some 66) (v := ?_) (a' := ?_) #[true, true, true, false, false, false, false, false, false, false, false, false, false] rfl rfl (by kernel_rfl) (fun _ _ _ h => h) (Or.inl ⟨by rfl, ?_⟩) ?_ ?_
                rotate_left
                · intro w'
                  go_simp
                  with_reducible rfl
                rotate_left
                · simp only [Act.put, List.setIfInBounds_toArray, List.set_cons_zero, List.set_cons_succ]
                  rfl
                refine pure_ (i := 3) (N := some 67) (v := ?_) (a' := ?_) #[true, true, true, true, false, false, false, false, false, false, false, false, false] rfl rfl (by kernel_rfl) (fun _ _ _ h => h) (Or.inl ⟨by rfl, ?_⟩) ?_ ?_
                rotate_left
                · intro w'
                  go_simp
                  with_reducible rfl
                rotate_left
                · simp only [Act.put, List.setIfInBounds_toArray, List.set_cons_zero, List.set_cons_succ]
                  rfl
                refine pure_ (i := 5) (N := some 69) (v := ?_) (a' := ?_) #[true, true, true, true, false, true, false, false, false, false, false, false, false] rfl rfl (by kernel_rfl) (fun _ _ _ h => h) (Or.inl ⟨by rfl, ?_⟩) ?_ ?_
                rotate_left
                · intro w'
                  go_simp
                  with_reducible rfl
                rotate_left
                · simp only [Act.put, List.setIfInBounds_toArray, List.set_cons_zero, List.set_cons_succ]
                  rfl
                refine take_ (i := 4) (N := some 68) (v := ?_) (a' := ?_) #[true, true, true, true, true, true, false, false, false, false, false, false, false] rfl rfl (by kernel_rfl) (fun _ _ _ h => h) (Or.inl ⟨by rfl, ?_⟩) hHeld ?_ ?_
                rotate_left
                · rintro w' ⟨s0, s1, s2, s3, s4, t0, t1, t2, t3, t4, c1, c2⟩
                  go_simp
                  with_reducible rfl
                rotate_left
                · simp only [Act.put, List.setIfInBounds_toArray, List.set_cons_zero, List.set_cons_succ]
                  rfl
                refine take_ (i := 6) (N := some 70) (v := ?_) (a' := ?_) #[true, true, true, true, true, true, true, false, false, false, false, false, false] rfl rfl (by kernel_rfl) (fun _ _ _ h => h) (Or.inl ⟨by rfl, ?_⟩) hHeld ?_ ?_
                rotate_left
                · rintro w' ⟨s0, s1, s2, s3, s4, t0, t1, t2, t3, t4, c1, c2⟩
                  go_simp
                  with_reducible rfl
                rotate_left
                · simp only [Act.put, List.setIfInBounds_toArray, List.set_cons_zero, List.set_cons_succ]
                  rfl
                refine pure_ (i := 7) (N := some 71) (v := ?_) (a' := ?_) #[true, true, true, true, true, true, true, true, false, false, false, false, false] rfl rfl (by kernel_rfl) (fun _ _ _ h => h) (Or.inl ⟨by rfl, ?_⟩) ?_ ?_
                rotate_left
                · intro w'
                  go_simp
                  with_reducible rfl
                rotate_left
                · simp only [Act.put, List.setIfInBounds_toArray, List.set_cons_zero, List.set_cons_succ]
                  rfl
                refine take_ (i := 8) (N := some 72) (v := ?_) (a' := ?_) #[true, true, true, true, true, true, true, true, true, false, false, false, false] rfl rfl (by kernel_rfl) (fun _ _ _ h => h) (Or.inl ⟨by rfl, ?_⟩) hHeld ?_ ?_
                rotate_left
                · rintro w' ⟨s0, s1, s2, s3, s4, t0, t1, t2, t3, t4, c1, c2⟩
                  go_simp
                  with_reducible rfl
                rotate_left
                · simp only [Act.put, List.setIfInBounds_toArray, List.set_cons_zero, List.set_cons_succ]
                  rfl
                refine take_ (i := 9) (N := some 73) (v := ?_) (a' := ?_) #[true, true, true, true, true, true, true, true, true, true, false, false, false] rfl rfl (by kernel_rfl) (fun _ _ _ h => h) (Or.inl ⟨by rfl, ?_⟩) hHeld ?_ ?_
                rotate_left
                · rintro w' ⟨s0, s1, s2, s3, s4, t0, t1, t2, t3, t4, c1, c2⟩
                  go_simp
                  with_reducible rfl
                rotate_left
                · simp only [Act.put, List.setIfInBounds_toArray, List.set_cons_zero, List.set_cons_succ]
                  rfl
                refine one_ (i := 10) (N := some 74) #[true, true, true, true, true, true, true, true, true, true, true, false, false] rfl rfl (by kernel_rfl) (by decide) (fun K hK => ?_)
                refine goes_ Tryd.func8 (by kernel_rfl) rfl #[.agg #[.int .i64 x.f0, .bool x.f1, .slice X2 x.f2.length d2, .slice X3 x.f3.length d3, .slice X4 x.f4.length d4], .agg #[.int .i64 y.f0, .bool y.f1, .slice Y2 y.f2.length e2, .slice Y3 y.f3.length e3, .slice Y4 y.f4.length e4]] (by rfl) rfl rfl (by simp only [List.map_toArray, List.map_cons, List.map_nil]; rfl) ?_
                have hsm := same_of v9 x y #[.int .i64 x.f0, .bool x.f1, .slice X2 x.f2.length d2, .slice X3 x.f3.length d3, .slice X4 x.f4.length d4].toList #[.int .i64 y.f0, .bool y.f1, .slice Y2 y.f2.length e2, .slice Y3 y.f3.length e3, .slice Y4 y.f4.length e4].toList (k26.K_below HSd.out.below HX.out) (k26.K_below HSd.out.below HY.out) HFX.out
                refine hsm.mono ?_
                rintro e w10 ⟨rfl, hb⟩
                refine ⟨_, rfl, ?_⟩
                have HS10 := Lib.hid (HSd.out.step hb)
                refine hK.out _ _ (SB_of HS10.out (conv_at (HBd.out.below hb) hlx) (conv_at (HYd.out.below hb) hly)) (fun hHeld => ?_)
                clear hK K hb hsm HSd HBd HYd
                refine norm_ (a' := ?_) ?_ ?_
                rotate_left
                · show Act.put _ (some 74) _ = _
                  simp only [Act.put, List.setIfInBounds_toArray, List.set_cons_zero, List.set_cons_succ]
                  rfl
                refine pure_ (i := 11) (N := some 75) (v := ?_) (a' := ?_) #[true, true, true, true, true, true, true, true, true, true, true, true, false] rfl rfl (by kernel_rfl) (fun _ _ _ h => h) (Or.inl ⟨by rfl, ?_⟩) ?_ ?_
                rotate_left
                · intro w'
                  go_simp
                  with_reducible rfl
                rotate_left
                · simp only [Act.put, List.setIfInBounds_toArray, List.set_cons_zero, List.set_cons_succ]
                  rfl
                refine pure_ (i := 12) (N := some 76) (v := ?_) (a' := ?_) #[true, true, true, true, true, true, true, true, true, true, true, true, true] rfl rfl (by kernel_rfl) (fun _ _ _ h => h) (Or.inl ⟨by rfl, ?_⟩) ?_ ?_
                rotate_left
                · intro w'
                  go_simp
                  with_reducible rfl
                rotate_left
                · simp only [Act.put, List.setIfInBounds_toArray, List.set_cons_zero, List.set_cons_succ]
                  rfl
                refine done_ (by kernel_rfl) ?_
                clear hHeld
                obtain ⟨p0, p1, p2, p3, p4⟩ := row_cells HS10.out.bx
                obtain ⟨q0, q1, q2, q3, q4⟩ := row_cells HS10.out.by_
                have hdc := decode_of w10 A n c bs (Kd.C_below HCC.out HS10.out.below) HC.out HIN.out (by rw [HS10.out.below.cell (p := ⟨0, 0, none⟩) (by have := World.block_lt_of_cell? _ _ HGE.out; exact this)]; exact HGE.out)
                go_wp2_with (go_at_call 7; refine hdc.mono ?_; rintro e wa ⟨hb, ⟨z, zs, hd, rfl, hK⟩ | ⟨hd, k, hk, rfl⟩⟩ <;> refine Hid.out ?_)
                · refine Lib.hid ?_
                  obtain ⟨Z2, z2, Z3, z3, Z4, z4, rfl⟩ := K_lit hK
                  obtain ⟨hi1, hi2, hi3, hi4⟩ := decode_inv HIN.out hd
                  have HSA := Lib.hid (HS10.out.step hb)
                  have HKA := Lib.hid (k26.K_below (below_alloc (Below.refl _ _) (.cells #[.int .i64 z.f0, .bool z.f1, .slice Z2 z.f2.length z2, .slice Z3 z.f3.length z3, .slice Z4 z.f4.length z4] 26)) hK)
                  have HBA := Lib.hid (HSA.out.below.trans ((below_alloc (Below.refl wa.heap.size wa) (.cells #[.int .i64 z.f0, .bool z.f1, .slice Z2 z.f2.length z2, .slice Z3 z.f3.length z3, .slice Z4 z.f4.length z4] 26)).mono HSA.out.below.size))
                  have HZX : Hid ((wa.alloc (.cells #[.int .i64 z.f0, .bool z.f1, .slice Z2 z.f2.length z2, .slice Z3 z.f3.length z3, .slice Z4 z.f4.length z4] 26)).heap[wa.heap.size]? = some (.cells #[.int .i64 z.f0, .bool z.f1, .slice Z2 z.f2.length z2, .slice Z3 z.f3.length z3, .slice Z4 z.f4.length z4] 26 (0, 0))) := Lib.hid (heap_alloc_new _ _)
                  have HI1 := Lib.hid hi1
                  have HI2 := Lib.hid hi2
                  have HI4 := Lib.hid hi4
                  clear hb hd hK hdc hi1 hi2 hi3 hi4 p0 p1 p2 p3 p4 q0 q1 q2 q3 q4
                  generalize hwb : wa.alloc (.cells #[.int .i64 z.f0, .bool z.f1, .slice Z2 z.f2.length z2, .slice Z3 z.f3.length z3, .slice Z4 z.f4.length z4] 26) = wb at HKA HBA HZX
                  generalize hgz : wa.heap.size = gz at HZX
                  obtain ⟨p0, p1, p2, p3, p4⟩ := row_cells HZX.out
                  have hen := encode_of wb z [.int .i64 z.f0, .bool z.f1, .slice Z2 z.f2.length z2, .slice Z3 z.f3.length z3, .slice Z4 z.f4.length z4] HKA.out HI4.out
                  go_wp2_with (go_at_call 6; (try rw [hwb]); refine hen.mono ?_; rintro e wc ⟨hb, ⟨hr, g, cap, rfl, hcap, hby, hgl⟩ | ⟨hr, A9, c9, rfl⟩⟩ <;> refine Hid.out ?_)
                  · refine Lib.hid ?_
                    have HBC := Lib.hid (HBA.out.trans (hb.mono HBA.out.size))
                    have hlz : (arch z).length ≤ 9223372036854775807 := by have := (right_len hr).1; rw [arch_len]; omega
                    have cv1 := Kd.C_string Tryd.underlying22 Tryd.underlying5 Tryd.underlying9 (c := cap) (hby.to_C hlz)
                    have cv2 := Kd.C_string Tryd.underlying22 Tryd.underlying5 Tryd.underlying9 (c := c) (Kd.C_below HCC.out HBC.out)
                    rw [HI1.out] at cv2
                    clear hen hb hby hgl hcap hlz hwb hgz p0 p1 p2 p3 p4
                    generalize strOfNums (arch z) = tz at cv1 cv2
                    go_wp2_with fail
                    go_ret
                    exact ⟨rfl, HBC.out⟩
                  · exact absurd HI2.out hr
                · refine Lib.hid ?_
                  have HSA := Lib.hid (HS10.out.step hb)
                  have HK := Lib.hid hk
                  have b0 : (k == 0) = false := by simpa using hk
                  have b1 : (k != 0) = true := by simpa using hk
                  clear hb hd hdc hk p0 p1 p2 p3 p4 q0 q1 q2 q3 q4
                  go_wp2_with (go_at_call 8; refine Hid.out ?_)
                  refine Lib.hid ?_
                  have hsm := same_of (wa.alloc (.cells #[.int .i64 0, .bool false, .slice none 0 0, .slice none 0 0, .slice none 0 0] 26)) ⟨0, false, [], [], []⟩ ⟨0, false, [], [], []⟩ _ _ (K_zero _ 0) (K_zero _ 0) (fits_zero 0)
                  refine hsm.mono ?_
                  rintro e wz ⟨rfl, hb⟩
                  have HBZ := Lib.hid (HSA.out.below.trans (((below_alloc (Below.refl wa.heap.size wa) (.cells #[.int .i64 0, .bool false, .slice none 0 0, .slice none 0 0, .slice none 0 0] 26)).trans (hb.mono (by simp))).mono HSA.out.below.size))
                  rw [sm_true.2 rfl]
                  clear hsm hb
                  go_wp2_with fail
                  go_ret
                  exact ⟨rfl, HBZ.out⟩
              · refine Lib.hid ?_
                have HS9 := Lib.hid (HS8.out.step hb)
                have b0 : (right y == 0) = false := by simpa using hr
                have b1 : (right y != 0) = true := by simpa using hr
                clear hb hen hr p0 p1 p2 p3 p4 q0 q1 q2 q3 q4
                go_upto_region 12 with fail
                go_quiet (fail)
                have HS10 := Lib.hid (HS9.out.step (pw_below_drewN (Below.refl _ _) nq))
                generalize w9.drewN nq = w10 at HS10 ⊢
                obtain ⟨p0, p1, p2, p3, p4⟩ := row_cells HS10.out.bx
                obtain ⟨q0, q1, q2, q3, q4⟩ := row_cells HS10.out.by_
                have hdc := decode_of w10 A n c bs (Kd.C_below HCC.out HS10.out.below) HC.out HIN.out (by rw [HS10.out.below.cell (p := ⟨0, 0, none⟩) (by have := World.block_lt_of_cell? _ _ HGE.out; exact this)]; exact HGE.out)
                go_wp2_with (go_at_call 7; refine hdc.mono ?_; rintro e wa ⟨hb, ⟨z, zs, hd, rfl, hK⟩ | ⟨hd, k, hk, rfl⟩⟩ <;> refine Hid.out ?_)
                · refine Lib.hid ?_
                  obtain ⟨Z2, z2, Z3, z3, Z4, z4, rfl⟩ := K_lit hK
                  obtain ⟨hi1, hi2, hi3, hi4⟩ := decode_inv HIN.out hd
                  have HSA := Lib.hid (HS10.out.step hb)
                  have HKA := Lib.hid (k26.K_below (below_alloc (Below.refl _ _) (.cells #[.int .i64 z.f0, .bool z.f1, .slice Z2 z.f2.length z2, .slice Z3 z.f3.length z3, .slice Z4 z.f4.length z4] 26)) hK)
                  have HBA := Lib.hid (HSA.out.below.trans ((below_alloc (Below.refl wa.heap.size wa) (.cells #[.int .i64 z.f0, .bool z.f1, .slice Z2 z.f2.length z2, .slice Z3 z.f3.length z3, .slice Z4 z.f4.length z4] 26)).mono HSA.out.below.size))
                  have HZX : Hid ((wa.alloc (.cells #[.int .i64 z.f0, .bool z.f1, .slice Z2 z.f2.length z2, .slice Z3 z.f3.length z3, .slice Z4 z.f4.length z4] 26)).heap[wa.heap.size]? = some (.cells #[.int .i64 z.f0, .bool z.f1, .slice Z2 z.f2.length z2, .slice Z3 z.f3.length z3, .slice Z4 z.f4.length z4] 26 (0, 0))) := Lib.hid (heap_alloc_new _ _)
                  have HI1 := Lib.hid hi1
                  have HI2 := Lib.hid hi2
                  have HI4 := Lib.hid hi4
                  clear hb hd hK hdc hi1 hi2 hi3 hi4 p0 p1 p2 p3 p4 q0 q1 q2 q3 q4
                  generalize hwb : wa.alloc (.cells #[.int .i64 z.f0, .bool z.f1, .slice Z2 z.f2.length z2, .slice Z3 z.f3.length z3, .slice Z4 z.f4.length z4] 26) = wb at HKA HBA HZX
                  generalize hgz : wa.heap.size = gz at HZX
                  obtain ⟨p0, p1, p2, p3, p4⟩ := row_cells HZX.out
                  have hen := encode_of wb z [.int .i64 z.f0, .bool z.f1, .slice Z2 z.f2.length z2, .slice Z3 z.f3.length z3, .slice Z4 z.f4.length z4] HKA.out HI4.out
                  go_wp2_with (go_at_call 6; (try rw [hwb]); refine hen.mono ?_; rintro e wc ⟨hb, ⟨hr, g, cap, rfl, hcap, hby, hgl⟩ | ⟨hr, A9, c9, rfl⟩⟩ <;> refine Hid.out ?_)
                  · refine Lib.hid ?_
                    have HBC := Lib.hid (HBA.out.trans (hb.mono HBA.out.size))
                    have hlz : (arch z).length ≤ 9223372036854775807 := by have := (right_len hr).1; rw [arch_len]; omega
                    have cv1 := Kd.C_string Tryd.underlying22 Tryd.underlying5 Tryd.underlying9 (c := cap) (hby.to_C hlz)
                    have cv2 := Kd.C_string Tryd.underlying22 Tryd.underlying5 Tryd.underlying9 (c := c) (Kd.C_below HCC.out HBC.out)
                    rw [HI1.out] at cv2
                    clear hen hb hby hgl hcap hlz hwb hgz p0 p1 p2 p3 p4
                    generalize strOfNums (arch z) = tz at cv1 cv2
                    go_wp2_with fail
                    go_ret
                    exact ⟨rfl, HBC.out⟩
                  · exact absurd HI2.out hr
                · refine Lib.hid ?_
                  have HSA := Lib.hid (HS10.out.step hb)
                  have HK := Lib.hid hk
                  have b0 : (k == 0) = false := by simpa using hk
                  have b1 : (k != 0) = true := by simpa using hk
                  clear hb hd hdc hk p0 p1 p2 p3 p4 q0 q1 q2 q3 q4
                  go_wp2_with (go_at_call 8; refine Hid.out ?_)
                  refine Lib.hid ?_
                  have hsm := same_of (wa.alloc (.cells #[.int .i64 0, .bool false, .slice none 0 0, .slice none 0 0, .slice none 0 0] 26)) ⟨0, false, [], [], []⟩ ⟨0, false, [], [], []⟩ _ _ (K_zero _ 0) (K_zero _ 0) (fits_zero 0)
                  refine hsm.mono ?_
                  rintro e wz ⟨rfl, hb⟩
                  have HBZ := Lib.hid (HSA.out.below.trans (((below_alloc (Below.refl wa.heap.size wa) (.cells #[.int .i64 0, .bool false, .slice none 0 0, .slice none 0 0, .slice none 0 0] 26)).trans (hb.mono (by simp))).mono HSA.out.below.size))
                  rw [sm_true.2 rfl]
                  clear hsm hb
                  go_wp2_with fail
                  go_ret
                  exact ⟨rfl, HBZ.out⟩
            · rw [hda] at hd; cases hd
          · clear HB5 HCAP
            obtain ⟨p0, p1, p2, p3, p4⟩ := row_cells HS5.out.bx
            obtain ⟨q0, q1, q2, q3, q4⟩ := row_cells HS5.out.by_
            have hdc := decode_of w5 A n c bs (Kd.C_below HCC.out HS5.out.below) HC.out HIN.out (by rw [HS5.out.below.cell (p := ⟨0, 0, none⟩) (by have := World.block_lt_of_cell? _ _ HGE.out; exact this)]; exact HGE.out)
            go_wp2_with (go_at_call 7; refine hdc.mono ?_; rintro e wa ⟨hb, ⟨z, zs, hd, rfl, hK⟩ | ⟨hd, k, hk, rfl⟩⟩ <;> refine Hid.out ?_)
            · refine Lib.hid ?_
              obtain ⟨Z2, z2, Z3, z3, Z4, z4, rfl⟩ := K_lit hK
              obtain ⟨hi1, hi2, hi3, hi4⟩ := decode_inv HIN.out hd
              have HSA := Lib.hid (HS5.out.step hb)
              have HKA := Lib.hid (k26.K_below (below_alloc (Below.refl _ _) (.cells #[.int .i64 z.f0, .bool z.f1, .slice Z2 z.f2.length z2, .slice Z3 z.f3.length z3, .slice Z4 z.f4.length z4] 26)) hK)
              have HBA := Lib.hid (HSA.out.below.trans ((below_alloc (Below.refl wa.heap.size wa) (.cells #[.int .i64 z.f0, .bool z.f1, .slice Z2 z.f2.length z2, .slice Z3 z.f3.length z3, .slice Z4 z.f4.length z4] 26)).mono HSA.out.below.size))
              have HZX : Hid ((wa.alloc (.cells #[.int .i64 z.f0, .bool z.f1, .slice Z2 z.f2.length z2, .slice Z3 z.f3.length z3, .slice Z4 z.f4.length z4] 26)).heap[wa.heap.size]? = some (.cells #[.int .i64 z.f0, .bool z.f1, .slice Z2 z.f2.length z2, .slice Z3 z.f3.length z3, .slice Z4 z.f4.length z4] 26 (0, 0))) := Lib.hid (heap_alloc_new _ _)
              have HI1 := Lib.hid hi1
              have HI2 := Lib.hid hi2
              have HI4 := Lib.hid hi4
              clear hb hd hK hdc hi1 hi2 hi3 hi4 p0 p1 p2 p3 p4 q0 q1 q2 q3 q4
              generalize hwb : wa.alloc (.cells #[.int .i64 z.f0, .bool z.f1, .slice Z2 z.f2.length z2, .slice Z3 z.f3.length z3, .slice Z4 z.f4.length z4] 26) = wb at HKA HBA HZX
              generalize hgz : wa.heap.size = gz at HZX
              obtain ⟨p0, p1, p2, p3, p4⟩ := row_cells HZX.out
              have hen := encode_of wb z [.int .i64 z.f0, .bool z.f1, .slice Z2 z.f2.length z2, .slice Z3 z.f3.length z3, .slice Z4 z.f4.length z4] HKA.out HI4.out
              go_wp2_with (go_at_call 6; (try rw [hwb]); refine hen.mono ?_; rintro e wc ⟨hb, ⟨hr, g, cap, rfl, hcap, hby, hgl⟩ | ⟨hr, A9, c9, rfl⟩⟩ <;> refine Hid.out ?_)
              · refine Lib.hid ?_
                have HBC := Lib.hid (HBA.out.trans (hb.mono HBA.out.size))
                have hlz : (arch z).length ≤ 9223372036854775807 := by have := (right_len hr).1; rw [arch_len]; omega
                have cv1 := Kd.C_string Tryd.underlying22 Tryd.underlying5 Tryd.underlying9 (c := cap) (hby.to_C hlz)
                have cv2 := Kd.C_string Tryd.underlying22 Tryd.underlying5 Tryd.underlying9 (c := c) (Kd.C_below HCC.out HBC.out)
                rw [HI1.out] at cv2
                clear hen hb hby hgl hcap hlz hwb hgz p0 p1 p2 p3 p4
                generalize strOfNums (arch z) = tz at cv1 cv2
                go_wp2_with fail
                go_ret
                exact ⟨rfl, HBC.out⟩
              · exact absurd HI2.out hr
            · refine Lib.hid ?_
              have HSA := Lib.hid (HS5.out.step hb)
              have HK := Lib.hid hk
              have b0 : (k == 0) = false := by simpa using hk
              have b1 : (k != 0) = true := by simpa using hk
              clear hb hd hdc hk p0 p1 p2 p3 p4 q0 q1 q2 q3 q4
              go_wp2_with (go_at_call 8; refine Hid.out ?_)
              refine Lib.hid ?_
              have hsm := same_of (wa.alloc (.cells #[.int .i64 0, .bool false, .slice none 0 0, .slice none 0 0, .slice none 0 0] 26)) ⟨0, false, [], [], []⟩ ⟨0, false, [], [], []⟩ _ _ (K_zero _ 0) (K_zero _ 0) (fits_zero 0)
              refine hsm.mono ?_
              rintro e wz ⟨rfl, hb⟩
              have HBZ := Lib.hid (HSA.out.below.trans (((below_alloc (Below.refl wa.heap.size wa) (.cells #[.int .i64 0, .bool false, .slice none 0 0, .slice none 0 0, .slice none 0 0] 26)).trans (hb.mono (by simp))).mono HSA.out.below.size))
              rw [sm_true.2 rfl]
              clear hsm hb
              go_wp2_with fail
              go_ret
              exact ⟨rfl, HBZ.out⟩
        · refine Lib.hid ?_
          have HS5 := Lib.hid (HS4.out.step hb)
          have b0 : (right x == 0) = false := by simpa using hr
          have b1 : (right x != 0) = true := by simpa using hr
          clear hb hen hr p0 p1 p2 p3 p4 q0 q1 q2 q3 q4
          obtain ⟨p0, p1, p2, p3, p4⟩ := row_cells HS5.out.bx
          obtain ⟨q0, q1, q2, q3, q4⟩ := row_cells HS5.out.by_
          have hdc := decode_of w5 A n c bs (Kd.C_below HCC.out HS5.out.below) HC.out HIN.out (by rw [HS5.out.below.cell (p := ⟨0, 0, none⟩) (by have := World.block_lt_of_cell? _ _ HGE.out; exact this)]; exact HGE.out)
          go_wp2_with (go_at_call 7; refine hdc.mono ?_; rintro e wa ⟨hb, ⟨z, zs, hd, rfl, hK⟩ | ⟨hd, k, hk, rfl⟩⟩ <;> refine Hid.out ?_)
          · refine Lib.hid ?_
            obtain ⟨Z2, z2, Z3, z3, Z4, z4, rfl⟩ := K_lit hK
            obtain ⟨hi1, hi2, hi3, hi4⟩ := decode_inv HIN.out hd
            have HSA := Lib.hid (HS5.out.step hb)
            have HKA := Lib.hid (k26.K_below (below_alloc (Below.refl _ _) (.cells #[.int .i64 z.f0, .bool z.f1, .slice Z2 z.f2.length z2, .slice Z3 z.f3.length z3, .slice Z4 z.f4.length z4] 26)) hK)
            have HBA := Lib.hid (HSA.out.below.trans ((below_alloc (Below.refl wa.heap.size wa) (.cells #[.int .i64 z.f0, .bool z.f1, .slice Z2 z.f2.length z2, .slice Z3 z.f3.length z3, .slice Z4 z.f4.length z4] 26)).mono HSA.out.below.size))
            have HZX : Hid ((wa.alloc (.cells #[.int .i64 z.f0, .bool z.f1, .slice Z2 z.f2.length z2, .slice Z3 z.f3.length z3, .slice Z4 z.f4.length z4] 26)).heap[wa.heap.size]? = some (.cells #[.int .i64 z.f0, .bool z.f1, .slice Z2 z.f2.length z2, .slice Z3 z.f3.length z3, .slice Z4 z.f4.length z4] 26 (0, 0))) := Lib.hid (heap_alloc_new _ _)
            have HI1 := Lib.hid hi1
            have HI2 := Lib.hid hi2
            have HI4 := Lib.hid hi4
            clear hb hd hK hdc hi1 hi2 hi3 hi4 p0 p1 p2 p3 p4 q0 q1 q2 q3 q4
            generalize hwb : wa.alloc (.cells #[.int .i64 z.f0, .bool z.f1, .slice Z2 z.f2.length z2, .slice Z3 z.f3.length z3, .slice Z4 z.f4.length z4] 26) = wb at HKA HBA HZX
            generalize hgz : wa.heap.size = gz at HZX
            obtain ⟨p0, p1, p2, p3, p4⟩ := row_cells HZX.out
            have hen := encode_of wb z [.int .i64 z.f0, .bool z.f1, .slice Z2 z.f2.length z2, .slice Z3 z.f3.length z3, .slice Z4 z.f4.length z4] HKA.out HI4.out
            go_wp2_with (go_at_call 6; (try rw [hwb]); refine hen.mono ?_; rintro e wc ⟨hb, ⟨hr, g, cap, rfl, hcap, hby, hgl⟩ | ⟨hr, A9, c9, rfl⟩⟩ <;> refine Hid.out ?_)
            · refine Lib.hid ?_
              have HBC := Lib.hid (HBA.out.trans (hb.mono HBA.out.size))
              have hlz : (arch z).length ≤ 9223372036854775807 := by have := (right_len hr).1; rw [arch_len]; omega
              have cv1 := Kd.C_string Tryd.underlying22 Tryd.underlying5 Tryd.underlying9 (c := cap) (hby.to_C hlz)
              have cv2 := Kd.C_string Tryd.underlying22 Tryd.underlying5 Tryd.underlying9 (c := c) (Kd.C_below HCC.out HBC.out)
              rw [HI1.out] at cv2
              clear hen hb hby hgl hcap hlz hwb hgz p0 p1 p2 p3 p4
              generalize strOfNums (arch z) = tz at cv1 cv2
              go_wp2_with fail
              go_ret
              exact ⟨rfl, HBC.out⟩
            · exact absurd HI2.out hr
          · refine Lib.hid ?_
            have HSA := Lib.hid (HS5.out.step hb)
            have HK := Lib.hid hk
            have b0 : (k == 0) = false := by simpa using hk
            have b1 : (k != 0) = true := by simpa using hk
            clear hb hd hdc hk p0 p1 p2 p3 p4 q0 q1 q2 q3 q4
            go_wp2_with (go_at_call 8; refine Hid.out ?_)
            refine Lib.hid ?_
            have hsm := same_of (wa.alloc (.cells #[.int .i64 0, .bool false, .slice none 0 0, .slice none 0 0, .slice none 0 0] 26)) ⟨0, false, [], [], []⟩ ⟨0, false, [], [], []⟩ _ _ (K_zero _ 0) (K_zero _ 0) (fits_zero 0)
            refine hsm.mono ?_
            rintro e wz ⟨rfl, hb⟩
            have HBZ := Lib.hid (HSA.out.below.trans (((below_alloc (Below.refl wa.heap.size wa) (.cells #[.int .i64 0, .bool false, .slice none 0 0, .slice none 0 0, .slice none 0 0] 26)).trans (hb.mono (by simp))).mono HSA.out.below.size))
            rw [sm_true.2 rfl]
            clear hsm hb
            go_wp2_with fail
            go_ret
            exact ⟨rfl, HBZ.out⟩
      · exact absurd right_dir hr
    · go_wp2_with fail
      go_ret
      exact ⟨rfl, HS3.out.below⟩
  · go_wp2_with fail
    go_ret
    exact ⟨rfl, HS2.out.below⟩
end Go.Proofs.YtdehcojmgmjcmaaDoor
