/- ref02.Sum: the reference's digest of any bytes. -/
import Derived.Test.YtecahdjopdfeeaaGreatDoorSs
import Derived.Test.YtecahdjopdfeeaaGreatDoorQbits
namespace Go.Proofs.YtecahdjopdfeeaaGreatDoor
set_option linter.unusedVariables false
set_option linter.unusedSimpArgs false
open Go.RowKit QObjectNobody Go.Proofs.YtecahdjopdfeeaaGreatDoorW.PrintWords Go.Proofs.YtecahdjopdfeeaaGreatDoorW.PrintLast Go.Proofs.YtecahdjopdfeeaaGreatDoorW.PrintMore
def kList : List Int := stillroomref02_constants.f.getD []
def k0 (i : Nat) : Int := kList.getD i 0
def s0 : Nat → Int := row8 1779033703 3144134277 1013904242 2773480762 1359893119 2600822924 528734635 1541459225
theorem s0_ok (j : Nat) : 0 ≤ s0 j ∧ s0 j < 4294967296 := by
  rcases j with _ | _ | _ | _ | _ | _ | _ | _ | j
  all_goals first | decide | (show (0 : Int) ≤ 1541459225 ∧ (1541459225 : Int) < 4294967296; decide)
theorem cut_mid (G q M cap : Nat) (h : 64 * q + 64 ≤ cap) : ∀ W, (Instr.slice 29 (.slice (some ⟨G, 0, none⟩) M cap) (some (.int .i64 (64 * (q : Int)))) (some (.int .i64 (64 * (q : Int) + 64))) none).run Tryz.prog W = .ok (.slice (some ⟨G, 64 * q, none⟩) 64 (cap - 64 * q)) W := by
  intro W
  have he : Tryz.prog.elem 29 = 5 := by kernel_rfl
  rw [run_slice_lh W 29 _ M cap (by rw [he]; exact Tryz.underlying29) .i64 .i64 (64 * (q : Int)) (64 * (q : Int) + 64) (by omega) (by omega) (by omega), he, Tryz.sizeOf5]
  have h2 : ¬ cap = 64 * q := by omega
  have e1 : (64 * (q : Int)).toNat = 64 * q := by omega
  have e2 : (64 * (q : Int) + 64).toNat = 64 * q + 64 := by omega
  simp [sliced, Addr.add, e1, e2, h2]
  try omega
theorem mid_run (ρ : Operand → Value) (o : Oper) (w : World) (x y z : Operand) (G q M cap : Nat) (ho : o.op = .slice 29 x (some y) (some z) none) (hx : ρ x = .slice (some ⟨G, 0, none⟩) M cap) (hy : ρ y = .int .i64 (64 * (q : Int))) (hz : ρ z = .int .i64 (64 * (q : Int) + 64)) (hc : 64 * q + 64 ≤ cap) : (execOp ρ o).run Tryz.prog w = .ok (.value (.slice (some ⟨G, 64 * q, none⟩) 64 (cap - 64 * q))) w := by
  have HL := cut_mid G q M cap hc w
  unfold execOp
  simp [ho, hx, hy, hz, Instr.sliceAt, HL, Result.andThen]
theorem add_run (ρ : Operand → Value) (o : Oper) (w : World) (x : Operand) (q : Nat) (ho : o.op = .binOp .add 3 x (.const (.int .i64 64)) 3) (hx : ρ x = .int .i64 (64 * (q : Int))) (hk : ρ (.const (.int .i64 64)) = .int .i64 64) (hq : q < 1099511627776) : (execOp ρ o).run Tryz.prog w = .ok (.value (.int .i64 (64 * (q : Int) + 64))) w := by
  have e : IntKind.i64.wrap (64 * (q : Int) + 64) = 64 * (q : Int) + 64 := IntWalk.i64_in _ (by omega)
  unfold execOp
  simp [ho, hx, hk, go_sem, e]
theorem rblock_comp (w : World) (g o c q qc : Nat) (l : List Int) (s K : Nat → Int) (hc : 64 ≤ c) (h : Byts w g o 64 l) (hq : WordsAt w q K) (hx : ∀ j, 0 ≤ s j ∧ s j < 4294967296) :
    Calls Tryz.prog 70 #[.agg (arr 8 s), .slice (some ⟨g, o, none⟩) 64 c, .slice (some ⟨q, 0, none⟩) 64 qc] w fun e w' => e = .returned (.agg (arr 8 (comp K s l))) ∧ Below w.heap.size w w' := rblock_of w g o c q qc l s K hc h hq hx
theorem WordsAt.of_R {w : World} {b q cap : Nat} {ok : Nat → Prop} {xs : List Int} (h : Kd.R (Kd.int .u32) 108 w b ok (.slice (some ⟨q, 0, none⟩) xs.length cap) xs) (hl : xs.length = 64) (hq : q < w.heap.size) : WordsAt w q (fun i => xs.getD i 0) := by
  refine ⟨hq, fun i hi => ?_⟩
  obtain ⟨ad, he, hc⟩ := Kd.at_int (Kd.R_reads' h).2.2 (i : Int) (by omega) (by omega)
  cases he
  rw [add_plain, Int.toNat_natCast] at hc
  exact hc
theorem BRow.other {w : World} {b b' T n j : Nat} {f : Nat → Int} {v : Value} (h : BRow w b T n f) (hne : b ≠ b') : BRow (w.setCell ⟨b', j, none⟩ v) b T n f := (heap_setCell_other w ⟨b', j, none⟩ b v hne).trans h
theorem k_len : kList.length = 64 := by rfl
theorem byte_at (S : Nat → Int) (i : Nat) (hi : i < 32) : S (i / 4) / 2 ^ (24 - 8 * (i % 4)) % 256 = dgs S i := by
  unfold dgs
  have h4 : i % 4 < 4 := by omega
  generalize i % 4 = d at h4
  rcases d with _ | _ | _ | _ | d
  · rfl
  · rfl
  · rfl
  · simp [be4]
  · omega
set_option maxRecDepth 8000 in
set_option maxHeartbeats 20000000 in
theorem rsum_of (w : World) (g N c : Nat) (l : List Int) (hN : N ≤ 1099511627776) (hc : N ≤ c) (h : Byts w g 0 N l) (hg : g < w.heap.size) :
    Calls Tryz.prog 32 #[.slice (some ⟨g, 0, none⟩) N c] w fun e w' => e = .returned (.agg (brr 32 (dgs (hsh k0 s0 (tailOf l N) ((N + 72) / 64))))) ∧ Below w.heap.size w w' := by
  have H := Lib.hid h
  have HG := Lib.hid hg
  have HC := Lib.hid hc
  have HM := Lib.hid hN
  have z0 : brr 32 (fun _ => 0) = #[.int .u8 0, .int .u8 0, .int .u8 0, .int .u8 0, .int .u8 0, .int .u8 0, .int .u8 0, .int .u8 0, .int .u8 0, .int .u8 0, .int .u8 0, .int .u8 0, .int .u8 0, .int .u8 0, .int .u8 0, .int .u8 0, .int .u8 0, .int .u8 0, .int .u8 0, .int .u8 0, .int .u8 0, .int .u8 0, .int .u8 0, .int .u8 0, .int .u8 0, .int .u8 0, .int .u8 0, .int .u8 0, .int .u8 0, .int .u8 0, .int .u8 0, .int .u8 0] := rfl
  clear h hg hc hN
  go_enter Tryz.func32, Tryz.ntmps32
  go_upto_region 1 with fail
  rw [← z0]
  have Z0 := Lib.hid z0
  clear z0
  have d0 := BRow.new w 55 32 (fun _ => 0)
  have B0 : Below w.heap.size w (w.alloc (.cells (brr 32 fun _ => 0) 55 (0, 0))) := (Below.refl _ _).alloc (Nat.le_refl _) _
  have S0 : (w.alloc (.cells (brr 32 fun _ => 0) 55 (0, 0))).heap.size = w.heap.size + 1 := by simp
  generalize w.alloc (.cells (brr 32 fun _ => 0) 55 (0, 0)) = w0 at d0 B0 S0 ⊢
  generalize hn : w.heap.size = n at d0 B0 S0 HG ⊢
  have HN := Lib.hid hn
  have S0h := Lib.hid S0
  clear hn S0
  go_wp2_with (first
    | (refine wpList_buildTo rfl 109 _ rfl (some 11) rfl (arr 8 s0) (by kernel_rfl) ?_)
    | (refine wpList_store_row rfl 109 _ _ rfl w0.heap.size (arr 8 s0) rfl rfl 109 _ (heap_alloc_new _ _) (by rw [arr_size]; kernel_rfl) (by rw [arr_size]; rfl) (arr_one 8 s0) ?_; refine Hid.out ?_))
  refine Lib.hid ?_
  change wpList _ _ _ _ _ ((w0.alloc (.cells (arr 8 fun _ => 0) 109 (0, 0))).setRow w0.heap.size (arr 8 s0))
  have r0 := setRow_new (RowAt.new w0 109 8 (fun _ => 0)) s0
  have bz := (Below.refl w0.heap.size w0).alloc (Nat.le_refl _) (.cells (arr 8 fun _ => 0) 109 (0, 0))
  have d1 := (d0.below bz d0.lt).setRow (show n ≠ w0.heap.size by rw [S0h.out]; omega) (arr 8 s0)
  have B1 := below_setRow (B0.trans (bz.mono (show n ≤ w0.heap.size by rw [S0h.out]; omega))) (show n ≤ w0.heap.size by rw [S0h.out]; omega) (arr 8 s0)
  have S1 : ((w0.alloc (.cells (arr 8 fun _ => 0) 109 (0, 0))).setRow w0.heap.size (arr 8 s0)).heap.size = n + 2 := by simp [S0h.out]
  generalize (w0.alloc (.cells (arr 8 fun _ => 0) 109 (0, 0))).setRow w0.heap.size (arr 8 s0) = w1 at r0 d1 B1 S1 ⊢
  rw [S0h.out] at r0 ⊢
  have B1h := Lib.hid B1
  have S1h := Lib.hid S1
  have H1 := Lib.hid (H.out.kept B1 HG.out)
  clear bz d0 B0 S0h B1 S1
  go_wp2_with fail
  refine (stillroomref02_constants.calls kList w1 rfl).mono ?_
  rintro e w2 ⟨vk, rfl, hok, hbk⟩
  obtain ⟨qk, ck, rfl, hqk, hqk2, _⟩ := Kd.R_form hok (by rw [k_len]; decide)
  have hW2 : WordsAt w2 qk k0 := WordsAt.of_R hok k_len hqk2
  rw [k_len]
  have r2 := r0.below hbk r0.lt
  have d2 := d1.below hbk d1.lt
  have S2 : n + 2 ≤ w2.heap.size := by rw [← S1h.out]; exact hbk.size
  have H2 := Lib.hid (H1.out.below hbk)
  have B2 : Below n w w2 := B1h.out.trans (hbk.mono (by rw [S1h.out]; omega))
  have hqn : n + 2 ≤ qk := by rw [← S1h.out]; exact hqk
  have B2h := Lib.hid B2
  have QK := Lib.hid hqn
  have QK2 := Lib.hid hqk2
  have W2 := Lib.hid hW2
  have R2 := Lib.hid r2
  have D2 := Lib.hid d2
  have S2h := Lib.hid S2
  clear hok hbk hqk hqk2 hW2 r2 d2 S2 B2 hqn r0 d1 H1 B1h S1h
  have ho3 : Kd.R (Kd.int .u8) 5 (w2.alloc (.cells #[] 5)) w2.heap.size (fun _ => True) (.slice (some ⟨w2.heap.size, 0, none⟩) 0 0) [] := Kd.R_of_own (enc := Value.int .u8) (h1 := fun _ => rfl) (ok := fun _ => True) (own_lit w2 w2.heap.size 5 .u8 [] (Nat.le_refl _) (by decide)) (fun _ _ => trivial)
  have hb3 : Below w2.heap.size w2 (w2.alloc (.cells #[] 5)) := (Below.refl _ _).alloc (Nat.le_refl _) _
  have HC3 : Kd.C (Kd.int .u8) (w2.alloc (.cells #[] 5)) (some ⟨g, 0, none⟩) N l := (H2.out.below hb3).to_C (by have := HM.out; omega)
  have hsz : w2.heap.size ≤ (w2.alloc (.cells #[] 5)).heap.size := hb3.size
  have hll : l.length = N := H.out.len
  have HLN := Lib.hid hll
  have hNm : N ≤ 1099511627776 := HM.out
  have HNM := Lib.hid hNm
  go_wp2_with ((with_reducible refine gate_builtin (b := .append) (xs := #[.tmp 13, .tmp 14]) rfl ?_); refine Hid.out ?_)
  refine Lib.hid ?_
  generalize w2.alloc (.cells #[] 5) = w3 at ho3 hb3 HC3 hsz ⊢
  generalize hB : w2.heap.size = B at ho3 hb3 hsz QK2 S2h ⊢
  have HBB := Lib.hid hB
  clear hB
  refine Kd.R_append_rows (Kd.int .u8) (w0 := w2) B rfl (.tmp 13) (.tmp 14) 29 5 (.int .u8 0) 1 rfl Tryz.underlying29 info5 rfl (by decide) (by omega) (.slice (some ⟨B, 0, none⟩) 0 0) [] l (some ⟨g, 0, none⟩) N c (fun _ => True) (fun _ => False) rfl rfl ho3 HC3 (fun _ _ h => h) (fun _ h => h.elim) (fun _ _ => trivial) hb3 hsz (by simp only [List.length_nil]; omega) ?_
  intro v4 w4 ho4 hb4 hg4 hat4
  rw [List.nil_append] at ho4
  clear ho3 hb3 HC3 hg4 hat4
  obtain ⟨A4, c4, rfl⟩ := R_slice' ho4 hll
  have hs4 : B ≤ w4.heap.size := by rw [← HBB.out]; exact hb4.size
  clear hll hNm hsz
  go_wp2_with ((with_reducible refine gate_builtin (b := .append) (xs := #[.tmp 15, .tmp 16]) rfl ?_); at_builtin; refine Kd.R_append (Kd.int .u8) (w0 := w2) B rfl (.tmp 15) (.tmp 16) 29 5 (.int .u8 0) 1 rfl Tryz.underlying29 info5 rfl (by decide) (by omega) (.slice A4 N c4) l 128 [.int .u8 128] (fun _ => True) (fun _ => False) rfl rfl rfl (fun _ h => h.elim) (fun _ _ => trivial) ho4 hb4 hs4 (by rw [HLN.out]; have := HNM.out; omega) ?_; intro v5 w5 ho5 hb5 hg5 hat5; refine Hid.out ?_)
  refine Lib.hid ?_
  clear ho4 hb4 hg5 hat5
  have HO5 := Lib.hid ho5
  have HB5 := Lib.hid hb5
  clear ho5 hb5
  go_wp2_with fail
  go_loopw [5] (fun v5 wq => ∃ j : Nat, j ≤ gap N ∧ slen v5 = N + 1 + j ∧ Hid (Kd.R (Kd.int .u8) 5 wq B (fun _ => True) v5 (l ++ [128] ++ List.replicate j 0)) ∧ Hid (Below B w2 wq)) (fun v _ => N + 1 + gap N - slen v)
  case atStart =>
    obtain ⟨A5, c5, rfl⟩ := R_slice' HO5.out (L := N + 1) (by rw [List.length_append, HLN.out]; rfl)
    exact ⟨0, Nat.zero_le _, rfl, by rw [List.replicate_zero, List.append_nil]; exact HO5, HB5⟩
  case round =>
    clear HO5 HB5
    obtain ⟨j, hj, hsl, HO5, HB5⟩ := hrel
    have hlen : (l ++ [128] ++ List.replicate j 0).length = N + 1 + j := by simp [HLN.out]; omega
    obtain ⟨L, hL⟩ : ∃ L, N + 1 + j = L := ⟨_, rfl⟩
    rw [hL] at hlen hsl
    have HL := Lib.hid hL
    have HLL := Lib.hid hlen
    obtain ⟨A5, c5, rfl⟩ := R_slice' HO5.out hlen
    have szq : B ≤ wr.heap.size := by rw [← HBB.out]; exact HB5.out.size
    clear hL hsl hlen
    by_cases hc : L % 64 = 56
    · have hj2 := gap_at N j hj (by have := HL.out; omega)
      subst hj2
      have b0 : ((L : Int) % 64 != 56) = false := by rw [bne_eq_false_iff_eq]; omega
      clear hc
      go_wp2_with fail
      have e8 : IntKind.u64.wrap (IntKind.u64.wrap (N : Int) * 8) = 8 * (N : Int) := by rw [IntKind.wrap_u64, IntKind.wrap_u64]; have := HNM.out; omega
      rw [e8]
      refine (stillroomref01_Bytes.calls 10 (8 * (N : Int)) 8 (be8 (8 * (N : Int))) 0 wr (rbits8 _ (by omega) (by have := HNM.out; omega))).mono ?_
      rintro e w8 ⟨v8, rfl, ho8, hb8⟩
      have HO8 := Lib.hid (Kd.R_below HO5.out hb8)
      have HB8 := Lib.hid (HB5.out.trans (hb8.mono szq))
      obtain ⟨A8, c8, rfl⟩ := R_slice' ho8 (L := 8) rfl
      have HC8 : Kd.C (Kd.int .u8) w8 A8 8 (be8 (8 * (N : Int))) := (Kd.R_reads' ho8).2.2
      have szq8 : B ≤ w8.heap.size := Nat.le_trans szq hb8.size
      clear ho8 hb8 HO5 HB5 e8
      go_wp2_with ((with_reducible refine gate_builtin (b := .append) (xs := #[.tmp 33, .tmp 34]) rfl ?_); at_builtin; refine Kd.R_append_rows (Kd.int .u8) (w0 := w2) B rfl (.tmp 33) (.tmp 34) 29 5 (.int .u8 0) 1 rfl Tryz.underlying29 info5 rfl (by decide) (by omega) (.slice A5 L c5) (l ++ [128] ++ List.replicate (gap N) 0) (be8 (8 * (N : Int))) A8 8 c8 (fun _ => True) (fun _ => False) rfl rfl HO8.out HC8 (fun _ _ h => h) (fun _ h => h.elim) (fun _ _ => trivial) HB8.out szq8 (by rw [HLL.out]; have := HL.out; have := gap_lt N; have := HNM.out; omega) ?_; intro v9 w9 ho9 hb9 hg9 hat9; refine Hid.out ?_)
      refine Lib.hid ?_
      clear HC8 hg9 hat9
      have eT : l ++ [128] ++ List.replicate (gap N) 0 ++ be8 (8 * (N : Int)) = tailOf l N := by rw [← HLN.out]; rfl
      rw [eT] at ho9
      have hTl : (tailOf l N).length = N + 9 + gap N := by rw [tail_len, HLN.out]
      obtain ⟨G, cap, rfl, hG, hGl, _⟩ := Kd.R_form ho9 (by rw [hTl]; omega)
      have hcap : (tailOf l N).length ≤ cap := (Kd.R_reads' ho9).2.1
      have hByt := Byts.of_R ho9 (inB_tail H.out.ran N)
      generalize hT : tailOf l N = T at hTl hcap hByt ⊢
      have ET := Lib.hid hT
      have HGG := Lib.hid (show n + 2 ≤ G from Nat.le_trans S2h.out hG)
      obtain ⟨M, hM⟩ : ∃ M, T.length = M := ⟨_, rfl⟩
      rw [hM] at hcap hByt ⊢
      have EM := Lib.hid (hM.symm.trans hTl)
      have HBY := Lib.hid hByt
      have HCAP := Lib.hid hcap
      have hr9 := R2.out.below hb9 (by have := S2h.out; omega)
      have HW9 := Lib.hid (W2.out.below hb9 QK2.out)
      have hb9' := Lib.hid (hb9.mono (show n + 1 ≤ B by have := S2h.out; omega))
      have HR9 := Lib.hid hr9
      clear ho9 hb9 hT hTl hG hM hByt hcap hr9 HO8 HB8 eT
      go_wp2_with fail
      go_loopw [8] (fun i wr => ∃ q : Nat, 64 * q ≤ M ∧ i = .int .i64 (64 * (q : Int)) ∧ Below (n + 1) w2 wr ∧ Hid (Byts wr G 0 M T) ∧ Hid (WordsAt wr qk k0) ∧ RowAt wr (n + 1) 109 8 (hsh k0 s0 T q)) (fun i _ => M - (intOf i).toNat)
      case atStart => exact ⟨0, by omega, rfl, hb9'.out, HBY, HW9, HR9.out⟩
      case round =>
        obtain ⟨q, hqM, rfl, hb, HB, HW, hr⟩ := hrel
        have hmm : M % 64 = 0 := by have := EM.out; have := gap_sum N; omega
        have hml : M ≤ 1099511627776 + 80 := by have := EM.out; have := gap_lt N; have := HNM.out; omega
        by_cases hlt : 64 * q < M
        · have ge : (64 * (q : Int)) < (M : Int) := by omega
          go_wp2_with fail
          refine wp_region_held (S := fun _ => True) (by kernel_rfl) ?_
          change wpAnyH _ _ _ _ _ 9 _ _ wr.drew
          replace hr := hr.drew
          replace hb := below_drewN hb 1
          change Below (n + 1) w2 wr.drew at hb
          have hby := HB.out.drew
          have hwd : WordsAt wr.drew qk k0 := ⟨HW.out.lt, HW.out.cell⟩
          generalize wr.drew = w7 at hr hb hby hwd ⊢
          refine wpAnyH_take (i := 1) rfl (by kernel_rfl) (by kernel_rfl) (by kernel_rfl) (fun _ _ _ h => h) (Or.inl ⟨rfl, fun w _ => rfl⟩) trivial ?_
          refine wpAnyH_take (i := 2) rfl (by kernel_rfl) (by kernel_rfl) (by kernel_rfl) (fun _ _ _ h => h) (Or.inl ⟨rfl, fun w _ => rfl⟩) trivial ?_
          refine wpAnyH_take (i := 3) rfl (by kernel_rfl) (by kernel_rfl) (by kernel_rfl) (fun _ _ _ h => h) (Or.inl ⟨rfl, fun w _ => rfl⟩) trivial ?_
          refine wpAnyH_take (i := 4) rfl (by kernel_rfl) (by kernel_rfl) (by kernel_rfl) (fun _ _ _ h => h) (Or.inl ⟨rfl, fun w _ => add_run _ _ w _ q rfl rfl rfl (by omega)⟩) trivial ?_
          refine wpAnyH_take (i := 5) rfl (by kernel_rfl) (by kernel_rfl) (by kernel_rfl) (fun _ _ _ h => h) (Or.inl ⟨rfl, fun w _ => mid_run _ _ w _ _ _ G q M cap rfl rfl rfl rfl (by have := HCAP.out; omega)⟩) trivial ?_
          refine wpAnyH_take (i := 6) rfl (by kernel_rfl) (by kernel_rfl) (by kernel_rfl) (fun _ _ _ h => h) (Or.inl ⟨rfl, fun w _ => rfl⟩) trivial ?_
          refine wpAnyH_all (rs := [0]) (by kernel_rfl) (by simp) ?_
          intro i hi
          obtain rfl := List.mem_singleton.1 hi
          refine step_val (some 42) rfl rfl rfl _ _ (load_run8 _ _ w7 (n + 1) (hsh k0 s0 T q) _ rfl rfl hr) ?_
          refine ⟨trivial, ?_⟩
          refine wpAnyH_all (rs := [7]) (by kernel_rfl) (by simp) ?_
          intro i hi
          obtain rfl := List.mem_singleton.1 hi
          refine step_call (some 49) rfl rfl rfl 70 #[.agg (arr 8 (hsh k0 s0 T q)), .slice (some ⟨G, 64 * q, none⟩) 64 (cap - 64 * q), .slice (some ⟨qk, 0, none⟩) 64 ck] (by first | rfl | (simp [execOp, go_sem]; done)) ?_
          refine (rblock_comp _ G (64 * q) (cap - 64 * q) qk ck ((T.drop (64 * q)).take 64) (hsh k0 s0 T q) k0 (by have := HCAP.out; omega) ?_ hwd (hsh_ok k0 s0 T s0_ok q)).mono ?_
          · have := hby.part (64 * q) 64 (by omega)
            rw [Nat.zero_add] at this
            exact this
          rintro e w10 ⟨rfl, hb10⟩
          refine ⟨_, rfl, ?_⟩
          replace hr := hr.below hb10 hr.lt
          replace hby := hby.below hb10
          replace hwd := hwd.below hb10 hwd.lt
          replace hb := hb.trans (hb10.mono (show n + 1 ≤ w7.heap.size by have := hb.size; have := HBB.out; have := S2h.out; omega))
          clear hb10
          refine ⟨trivial, ?_⟩
          refine wpAnyH_all (rs := [8]) (by kernel_rfl) (by simp) ?_
          intro i hi
          obtain rfl := List.mem_singleton.1 hi
          refine step_store rfl rfl rfl 109 (.tmp 3) (.tmp 49) rfl (n + 1) (arr 8 (comp k0 (hsh k0 s0 T q) ((T.drop (64 * q)).take 64))) (by kernel_rfl) (by kernel_rfl) 109 _ hr (by rw [arr_size]; kernel_rfl) rfl (arr_one 8 _) ?_
          refine ⟨trivial, ?_⟩
          refine wpAnyH_done (by kernel_rfl) ?_ _
          have hr8 : RowAt (w10.setRow (n + 1) (arr 8 (comp k0 (hsh k0 s0 T q) ((T.drop (64 * q)).take 64)))) (n + 1) 109 8 (hsh k0 s0 T (q + 1)) := setRow_new hr _
          have hb8 := below_setRow hb (Nat.le_refl _) (arr 8 (comp k0 (hsh k0 s0 T q) ((T.drop (64 * q)).take 64)))
          have hby8 := Lib.hid (hby.setRow (show G ≠ n + 1 by have := HGG.out; omega) (arr 8 (comp k0 (hsh k0 s0 T q) ((T.drop (64 * q)).take 64))))
          have hwd8 := Lib.hid (hwd.setRow (show qk ≠ n + 1 by have := QK.out; omega) (arr 8 (comp k0 (hsh k0 s0 T q) ((T.drop (64 * q)).take 64))))
          clear hr hb hby hwd HB HW
          generalize w10.setRow (n + 1) (arr 8 (comp k0 (hsh k0 s0 T q) ((T.drop (64 * q)).take 64))) = w11 at hr8 hb8 hby8 hwd8 ⊢
          go_wp2_with fail
          go_roundw
          case rel => exact ⟨q + 1, by omega, by go_num, hb8, hby8, hwd8, hr8⟩
          case measure => simp [intOf]; omega
        · have hq : q = (N + 72) / 64 := by have := EM.out; unfold gap at *; omega
          subst hq
          rw [← ET.out] at hr
          have XS : Hid (∀ j, 0 ≤ hsh k0 s0 (tailOf l N) ((N + 72) / 64) j ∧ hsh k0 s0 (tailOf l N) ((N + 72) / 64) j < 4294967296) := hsh_ok k0 s0 _ s0_ok _
          generalize hS : hsh k0 s0 (tailOf l N) ((N + 72) / 64) = S at hr XS ⊢
          have HS := Lib.hid hS
          clear hS HB HW
          have hd := D2.out.below hb (by omega)
          have hb' := hb.mono (show n ≤ n + 1 by omega)
          go_wp2_with fail
          rw [← Z0.out]
          have rD := BRow.new wr 55 32 (fun _ => 0)
          have bz := (Below.refl wr.heap.size wr).alloc (Nat.le_refl _) (.cells (brr 32 fun _ => 0) 55 (0, 0))
          have hDn : n + 2 ≤ wr.heap.size := by have := hb.size; have := HBB.out; have := S2h.out; omega
          replace hr := hr.below bz hr.lt
          replace hd := hd.below bz hd.lt
          replace hb' := hb'.trans (bz.mono (show n ≤ wr.heap.size by omega))
          change Code.wp _ _ _ _ (wr.alloc (.cells (brr 32 fun _ => 0) 55 (0, 0)))
          generalize wr.alloc (.cells (brr 32 fun _ => 0) 55 (0, 0)) = w12 at rD hr hd hb' ⊢
          generalize wr.heap.size = D at rD hDn ⊢
          clear bz hb
          go_loopw [10] (fun i wr => ∃ k : Nat, k ≤ 32 ∧ i = .int .i64 k ∧ Below n w2 wr ∧ RowAt wr (n + 1) 109 8 S ∧ BRow wr n 55 32 (fun _ => 0) ∧ BRow wr D 55 32 (upto (dgs S) k)) (fun i _ => 32 - (intOf i).toNat)
          case atStart => exact ⟨0, by omega, rfl, hb', hr, hd, rD⟩
          case round =>
            clear hb' hr hd rD
            obtain ⟨k, hk, rfl, hb, hr, hd, rD⟩ := hrel
            by_cases hlt : k < 32
            · have c1 := hr.cell (k := k / 4) (by omega)
              have f1 := rD.free k
              have x1 := rD.cell hlt
              have i1 : ((k : Int) / 4).toNat = k / 4 := by omega
              have g0 : (0 : Int) ≤ (k : Int) / 4 := by omega
              have g1 : (k : Int) / 4 < 8 := by omega
              have g2 : (k : Int) < 32 := by omega
              have g3 : (0 : Int) ≤ 24 - 8 * ((k : Int) % 4) := by omega
              obtain ⟨sk0, sk1⟩ := XS.out (k / 4)
              go_wp2_with fail
              have e1 := byte_at S k hlt
              exact ⟨⟨k + 1, by omega, by go_num, hb.setCell (by show n ≤ D; omega) _, hr.other (by omega), hd.other (by omega), rD.set hlt (by rw [upto_lt _ (Nat.lt_succ_self k), e1]) (fun j hj => upto_step _ _ j (by omega))⟩, by simp [intOf]; omega⟩
            · obtain rfl : k = 32 := by omega
              replace rD : BRow wr D 55 32 (dgs S) := rD.ext fun j hj => upto_lt _ hj
              go_wp2_with (first
                | (refine wpList_load_row rfl 55 _ rfl D rfl 55 (brr 32 (dgs S)) (0, 0) _ rD Tryz.underlying55 rfl (by rw [brr_size]; kernel_rfl) ?_)
                | (refine wpList_store_row rfl 55 _ _ rfl n (brr 32 (dgs S)) rfl rfl 55 _ hd (by rw [brr_size]; kernel_rfl) rfl (brr_one 32 _) ?_))
              have HL := run_loadVar_row (P := Tryz.prog) (wr.setRow n (brr 32 (dgs S))) n 55 55 _ (0, 0) _ (setRow_heap wr n _ (brr 32 (dgs S)) _ _ hd) Tryz.underlying55 rfl (by rw [brr_size]; kernel_rfl)
              refine bodyPost_ret (v := .agg (brr 32 (dgs S))) (results_cell Tryz.results32 rfl HL) rfl ⟨?_, ?_⟩
              · rw [HS.out]
              · rw [HN.out]
                exact B2h.out.trans (below_setRow hb (Nat.le_refl _) _)
    · have b0 : ((L : Int) % 64 != 56) = true := by rw [bne_iff_ne]; omega
      have hjlt : j < gap N := by
        rcases Nat.lt_or_ge j (gap N) with h | h
        · exact h
        · exfalso; have := gap_sum N; have h2 : j = gap N := by omega
          subst h2; have := HL.out; omega
      have hLm : L < 1099511627776 + 66 := by have := HL.out; have := gap_lt N; have := HNM.out; omega
      clear hc
      go_wp2_with ((with_reducible refine gate_builtin (b := .append) (xs := #[.tmp 22, .tmp 23]) rfl ?_); at_builtin; refine Kd.R_append (Kd.int .u8) (w0 := w2) B rfl (.tmp 22) (.tmp 23) 29 5 (.int .u8 0) 1 rfl Tryz.underlying29 info5 rfl (by decide) (by omega) (.slice A5 L c5) (l ++ [128] ++ List.replicate j 0) 0 [.int .u8 0] (fun _ => True) (fun _ => False) rfl rfl rfl (fun _ h => h.elim) (fun _ _ => trivial) HO5.out HB5.out szq (by rw [HLL.out]; omega) ?_; intro v6 w6 ho6 hb6 hg6 hat6; refine Hid.out ?_)
      refine Lib.hid ?_
      clear hg6 hat6
      have e6 : l ++ [128] ++ List.replicate j 0 ++ [0] = l ++ [128] ++ List.replicate (j + 1) 0 := by rw [List.append_assoc _ _ [0], ← List.replicate_succ']
      rw [e6] at ho6
      obtain ⟨A6, c6, rfl⟩ := R_slice' ho6 (L := L + 1) (by have := HL.out; simp [HLN.out]; omega)
      have HO6 := Lib.hid ho6
      have HB6 := Lib.hid hb6
      clear ho6 hb6
      go_wp2_with fail
      go_roundw
      case rel => exact ⟨j + 1, hjlt, by have := HL.out; show L + 1 = _; omega, HO6, HB6⟩
      case measure => have := HL.out; simp [slen]; omega
end Go.Proofs.YtecahdjopdfeeaaGreatDoor
