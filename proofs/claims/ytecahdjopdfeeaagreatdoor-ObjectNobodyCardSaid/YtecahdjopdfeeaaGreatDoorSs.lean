/- digest.Sum: the digest of any bytes. -/
import Derived.Test.YtecahdjopdfeeaaGreatDoorSb
namespace Go.Proofs.YtecahdjopdfeeaaGreatDoor
open Go.RowKit QObjectNobody Go.Proofs.YtecahdjopdfeeaaGreatDoorW.PrintWords Go.Proofs.YtecahdjopdfeeaaGreatDoorW.PrintLast Go.Proofs.YtecahdjopdfeeaaGreatDoorW.PrintMore
def slen : Value → Nat
  | .slice _ n _ => n
  | _ => 0
set_option maxRecDepth 8000 in
set_option maxHeartbeats 20000000 in
theorem sum_of (w : World) (g N c : Nat) (l : List Int) (s K : Nat → Int) (hN : N ≤ 1099511627776) (hc : N ≤ c) (h : Byts w g 0 N l) (hg : g < w.heap.size) (hq : RowAt w 1 169 64 K) (hsq : RowAt w 0 109 8 s) (hs : ∀ j, 0 ≤ s j ∧ s j < 4294967296) :
    Calls Tryz.prog 48 #[.slice (some ⟨g, 0, none⟩) N c] w fun e w' => e = .returned (.agg (brr 32 (dgs (hsh K s (tailOf l N) ((N + 72) / 64))))) ∧ Below w.heap.size w w' := by
  have H := Lib.hid h
  have HQ := Lib.hid hq
  have HX := Lib.hid hs
  have HG := Lib.hid hg
  have HC := Lib.hid hc
  have HM := Lib.hid hN
  have z0 : brr 32 (fun _ => 0) = #[.int .u8 0, .int .u8 0, .int .u8 0, .int .u8 0, .int .u8 0, .int .u8 0, .int .u8 0, .int .u8 0, .int .u8 0, .int .u8 0, .int .u8 0, .int .u8 0, .int .u8 0, .int .u8 0, .int .u8 0, .int .u8 0, .int .u8 0, .int .u8 0, .int .u8 0, .int .u8 0, .int .u8 0, .int .u8 0, .int .u8 0, .int .u8 0, .int .u8 0, .int .u8 0, .int .u8 0, .int .u8 0, .int .u8 0, .int .u8 0, .int .u8 0, .int .u8 0] := rfl
  clear h hq hs hg hc hN
  go_enter Tryz.func48, Tryz.ntmps48
  go_upto_region 1 with fail
  rw [← z0]
  clear z0
  have d0 := BRow.new w 57 32 (fun _ => 0)
  have B0 : Below w.heap.size w (w.alloc (.cells (brr 32 fun _ => 0) 57 (0, 0))) := (Below.refl _ _).alloc (Nat.le_refl _) _
  have S0 : (w.alloc (.cells (brr 32 fun _ => 0) 57 (0, 0))).heap.size = w.heap.size + 1 := by simp
  generalize w.alloc (.cells (brr 32 fun _ => 0) 57 (0, 0)) = w0 at d0 B0 S0 ⊢
  generalize hn : w.heap.size = n at d0 B0 S0 HG ⊢
  have HN := Lib.hid hn
  have sq0 := hsq.below (hn ▸ B0) hsq.lt
  have QN := Lib.hid (hn ▸ HQ.out.lt : 1 < n)
  have SN := Lib.hid (hn ▸ hsq.lt : 0 < n)
  have S0h := Lib.hid S0
  clear hsq hn S0
  have s0 : arr 8 (fun _ => 0) = #[.int .u32 0, .int .u32 0, .int .u32 0, .int .u32 0, .int .u32 0, .int .u32 0, .int .u32 0, .int .u32 0] := rfl
  go_wp2_with (first
    | (refine wpList_load_row rfl 109 _ rfl 0 rfl 109 (arr 8 s) (0, 0) _ sq0 Tryz.underlying109 rfl (by rw [arr_size]; kernel_rfl) ?_)
    | (refine wpList_store_row rfl 109 _ _ rfl w0.heap.size (arr 8 s) rfl rfl 109 _ (heap_alloc_new _ _) (by rw [arr_size]; kernel_rfl) (by rw [arr_size]; rfl) (arr_one 8 s) ?_))
  change Code.wp _ _ _ _ ((w0.alloc (.cells (arr 8 fun _ => 0) 109 (0, 0))).setRow w0.heap.size (arr 8 s))
  have r0 := setRow_new (RowAt.new w0 109 8 (fun _ => 0)) s
  have bz := (Below.refl w0.heap.size w0).alloc (Nat.le_refl _) (.cells (arr 8 fun _ => 0) 109 (0, 0))
  have d1 := (d0.below bz d0.lt).setRow (show n ≠ w0.heap.size by rw [S0h.out]; omega) (arr 8 s)
  have B1 := below_setRow (B0.trans (bz.mono (show n ≤ w0.heap.size by rw [S0h.out]; omega))) (show n ≤ w0.heap.size by rw [S0h.out]; omega) (arr 8 s)
  have S1 : ((w0.alloc (.cells (arr 8 fun _ => 0) 109 (0, 0))).setRow w0.heap.size (arr 8 s)).heap.size = n + 2 := by simp [S0h.out]
  generalize (w0.alloc (.cells (arr 8 fun _ => 0) 109 (0, 0))).setRow w0.heap.size (arr 8 s) = w1 at r0 d1 B1 S1 ⊢
  rw [S0h.out] at r0 ⊢
  have B1h := Lib.hid B1
  have S1h := Lib.hid S1
  have H1 := Lib.hid (H.out.kept B1 HG.out)
  have HQ1 := Lib.hid (HQ.out.below B1 QN.out)
  clear bz d0 B0 sq0 s0 S0h B1 S1
  go_loopw [0] (fun v0 wr => ∃ (k m cc : Nat) (A : Option Addr), v0 = .slice A m cc ∧ N = 64 * k + m ∧ c = 64 * k + cc ∧ (0 < cc → A = some ⟨g, 64 * k, none⟩) ∧ Below (n + 1) w1 wr ∧ RowAt wr (n + 1) 109 8 (hsh K s l k)) (fun v _ => slen v)
  case atStart => exact ⟨0, N, c, _, rfl, by omega, by omega, fun _ => rfl, Below.refl _ _, r0⟩
  case round =>
    obtain ⟨k, m, cc, A, rfl, hN, hc, hA, hb, hr⟩ := hrel
    have hmc : m ≤ cc := by have := HC.out; omega
    have hml : m ≤ 1099511627776 := by have := HM.out; omega
    have EN := Lib.hid hN
    have EC := Lib.hid hc
    clear hN hc
    by_cases hlt : 64 ≤ m
    · obtain rfl := hA (by omega)
      have hcut := cut_next g (64 * k) m cc hlt
      have ge : (64 : Int) ≤ (m : Int) := by omega
      go_wp2_with fail
      refine wp_region_held (S := fun _ => True) (by kernel_rfl) ?_
      change wpAnyH _ _ _ _ _ 5 _ _ wr.drew
      replace hr := hr.drew
      replace hb := below_drewN hb 1
      change Below (n + 1) w1 wr.drew at hb
      generalize wr.drew = w7 at hr hb ⊢
      refine wpAnyH_take (i := 1) rfl (by kernel_rfl) (by kernel_rfl) (by kernel_rfl) (fun _ _ _ h => h) (Or.inl ⟨rfl, fun w _ => rfl⟩) trivial ?_
      refine wpAnyH_take (i := 2) rfl (by kernel_rfl) (by kernel_rfl) (by kernel_rfl) (fun _ _ _ h => h) (Or.inl ⟨rfl, fun w _ => slice_run _ _ w _ g (64 * k) m cc rfl rfl rfl (by omega)⟩) trivial ?_
      refine wpAnyH_all (rs := [0]) (by kernel_rfl) (by simp) ?_
      intro i hi
      obtain rfl := List.mem_singleton.1 hi
      refine step_val (some 21) rfl rfl rfl _ _ (load_run8 _ _ w7 (n + 1) (hsh K s l k) _ rfl rfl hr) ?_
      refine ⟨trivial, ?_⟩
      refine wpAnyH_all (rs := [3]) (by kernel_rfl) (by simp) ?_
      intro i hi
      obtain rfl := List.mem_singleton.1 hi
      refine step_call (some 24) rfl rfl rfl 85 #[.agg (arr 8 (hsh K s l k)), .slice (some ⟨g, 64 * k, none⟩) 64 cc] (by first | rfl | (simp [execOp, go_sem]; done)) ?_
      refine (add_comp _ g (64 * k) cc ((l.drop (64 * k)).take 64) (hsh K s l k) K (by omega) ?_ (HQ1.out.below hb (by have := QN.out; omega)) (hsh_ok K s l HX.out k)).mono ?_
      · have := (H1.out.kept hb (by have := HG.out; omega)).part (64 * k) 64 (by have := EN.out; omega)
        rw [Nat.zero_add] at this
        exact this
      rintro e w8 ⟨rfl, hb8⟩
      refine ⟨_, rfl, ?_⟩
      replace hr := hr.below hb8 hr.lt
      replace hb := hb.trans (hb8.mono (show n + 1 ≤ w7.heap.size by have := hb.size; have := S1h.out; omega))
      clear hb8
      refine ⟨trivial, ?_⟩
      refine wpAnyH_all (rs := [4]) (by kernel_rfl) (by simp) ?_
      intro i hi
      obtain rfl := List.mem_singleton.1 hi
      refine step_store rfl rfl rfl 109 (.tmp 3) (.tmp 24) rfl (n + 1) (arr 8 (comp K (hsh K s l k) ((l.drop (64 * k)).take 64))) (by kernel_rfl) (by kernel_rfl) 109 _ hr (by rw [arr_size]; kernel_rfl) rfl (arr_one 8 _) ?_
      refine ⟨trivial, ?_⟩
      refine wpAnyH_done (by kernel_rfl) ?_ _
      have hr8 : RowAt (w8.setRow (n + 1) (arr 8 (comp K (hsh K s l k) ((l.drop (64 * k)).take 64)))) (n + 1) 109 8 (hsh K s l (k + 1)) := setRow_new hr _
      have hb8 := below_setRow hb (Nat.le_refl _) (arr 8 (comp K (hsh K s l k) ((l.drop (64 * k)).take 64)))
      clear hr hb
      generalize w8.setRow (n + 1) (arr 8 (comp K (hsh K s l k) ((l.drop (64 * k)).take 64))) = w9 at hr8 hb8 ⊢
      go_wp2_with fail
      go_roundw
      case rel => exact ⟨k + 1, m - 64, cc - 64, nxt g (64 * k) cc, rfl, by have := EN.out; omega, by have := EC.out; omega, fun h => nxt_at _ _ _ (by omega), hb8, hr8⟩
      case measure => simp [slen]; omega
    · have hm64 : m < 64 := by omega
      have gl : ¬ (64 : Int) ≤ (m : Int) := by omega
      obtain ⟨w2, rfl⟩ : ∃ x, x = wr := ⟨wr, rfl⟩
      obtain ⟨i0, hi0, hzz⟩ := Option.map_eq_some_iff.1 info5
      simp only [Prod.mk.injEq] at hzz
      obtain ⟨hz0, hz1, hz2⟩ := hzz
      have szr : n + 2 ≤ w2.heap.size := Nat.le_trans (Nat.le_of_eq S1h.out.symm) hb.size
      have HBr := Lib.hid hb
      have HRr := Lib.hid hr
      have HA := Lib.hid hA
      clear hb hr hA
      go_wp2_with (refine wpList_make_own _ rfl (.const (.int .i64 0)) (.const (.int .i64 128)) 29 rfl (n + 2) 5 i0 (.int .u8 0) 1 Tryz.underlying29 hi0 hz0 hz1 .i64 .i64 128 128 rfl rfl rfl (by rw [hz2]; decide) (by decide) szr ?_; intro w3 own3 gr3; refine Hid.out ?_)
      refine Lib.hid ?_
      have ho3 : Kd.R (Kd.int .u8) 5 w3 (n + 2) (fun _ => True) _ [] := Kd.R_of_own (enc := Value.int .u8) (h1 := fun _ => rfl) (ok := fun _ => True) own3 (fun _ _ => trivial)
      have hb3 : Below (n + 2) w2 w3 := pw_below_grown (Below.refl _ _) none szr gr3 (fun _ h => by cases h)
      have HC3 := part_C ((H1.out.kept HBr.out (by have := HG.out; omega)).kept hb3 (by have := HG.out; omega)) EN.out HA.out hmc (by omega)
      clear own3 gr3 hz0 hz1 hz2 hi0
      generalize hv3 : Value.slice (some ⟨w2.heap.size, 0, none⟩) 0 128 = v3 at ho3 ⊢
      clear hv3
      go_wp2_with ((with_reducible refine gate_builtin (b := .append) (xs := #[.tmp 25, .tmp 26]) rfl ?_); at_builtin; refine Kd.R_append_rows (Kd.int .u8) (w0 := w2) (n + 2) rfl (.tmp 25) (.tmp 26) 29 5 (.int .u8 0) 1 rfl Tryz.underlying29 info5 rfl (by decide) (by omega) v3 [] (l.drop (64 * k)) A m cc (fun _ => True) (fun _ => False) rfl rfl ho3 HC3 (fun _ _ h => h) (fun _ h => h.elim) (fun _ _ => trivial) hb3 (Nat.le_trans szr hb3.size) (by simp only [List.length_nil]; omega) ?_; intro v4 w4 ho4 hb4 hg4 hat4; refine Hid.out ?_)
      refine Lib.hid ?_
      rw [List.nil_append] at ho4
      have hrl : (l.drop (64 * k)).length = m := by rw [List.length_drop, H.out.len]; have := EN.out; omega
      generalize hrest : l.drop (64 * k) = rest at ho4 hrl
      have ER := Lib.hid hrest
      clear hrest HC3 ho3 hg4 hat4 hb3
      obtain ⟨A4, c4, rfl⟩ := R_slice' ho4 hrl
      have hb4' : Below (n + 2) w2 w4 := hb4
      go_wp2_with ((with_reducible refine gate_builtin (b := .append) (xs := #[.tmp 27, .tmp 28]) rfl ?_); at_builtin; refine Kd.R_append (Kd.int .u8) (w0 := w2) (n + 2) rfl (.tmp 27) (.tmp 28) 29 5 (.int .u8 0) 1 rfl Tryz.underlying29 info5 rfl (by decide) (by omega) (.slice A4 m c4) rest 128 [.int .u8 128] (fun _ => True) (fun _ => False) rfl rfl rfl (fun _ h => h.elim) (fun _ _ => trivial) ho4 hb4' (Nat.le_trans szr hb4'.size) (by rw [hrl]; omega) ?_; intro v5 w5 ho5 hb5 hg5 hat5; refine Hid.out ?_)
      refine Lib.hid ?_
      clear ho4 hb4 hb4' hg5 hat5
      have HO5 := Lib.hid ho5
      have HB5 := Lib.hid hb5
      have HRL := Lib.hid hrl
      clear ho5 hb5 hrl
      go_wp2_with fail
      have hm9 : Hid (m ≤ 1099511627776) := hml
      go_loopw [5] (fun v5 wq => ∃ j : Nat, j ≤ gap m ∧ slen v5 = m + 1 + j ∧ Hid (Kd.R (Kd.int .u8) 5 wq (n + 2) (fun _ => True) v5 (rest ++ [128] ++ List.replicate j 0)) ∧ Hid (Below (n + 2) w2 wq)) (fun v _ => m + 1 + gap m - slen v)
      case atStart =>
        obtain ⟨A5, c5, rfl⟩ := R_slice' HO5.out (L := m + 1) (by rw [List.length_append, HRL.out]; rfl)
        exact ⟨0, Nat.zero_le _, rfl, by rw [List.replicate_zero, List.append_nil]; exact HO5, HB5⟩
      case round =>
        clear HO5 HB5
        obtain ⟨j, hj, hsl, HO5, HB5⟩ := hrel
        have hlen : (rest ++ [128] ++ List.replicate j 0).length = m + 1 + j := by simp [HRL.out]; omega
        obtain ⟨L, hL⟩ : ∃ L, m + 1 + j = L := ⟨_, rfl⟩
        rw [hL] at hlen hsl
        have HL := Lib.hid hL
        have HLL := Lib.hid hlen
        have HSL := Lib.hid hsl
        obtain ⟨A5, c5, rfl⟩ := R_slice' HO5.out hlen
        clear hL hsl hlen
        by_cases hc : L % 64 = 56
        · have hj2 := gap_at m j hj (by have := HL.out; omega)
          subst hj2
          have b0 : ((L : Int) % 64 != 56) = false := by rw [bne_eq_false_iff_eq]; omega
          clear hc
          go_wp2_with fail
          have e8 : IntKind.u64.wrap (IntKind.u64.wrap (N : Int) * 8) = 8 * (N : Int) := by rw [IntKind.wrap_u64, IntKind.wrap_u64]; have := HM.out; omega
          rw [e8]
          have szq : n + 2 ≤ wr.heap.size := Nat.le_trans szr HB5.out.size
          refine (bits_Bytes.calls 11 (8 * (N : Int)) 8 (be8 (8 * (N : Int))) 0 wr (bits8 _)).mono ?_
          rintro e w8 ⟨v8, rfl, ho8, hb8⟩
          have HO8 := Lib.hid (Kd.R_below HO5.out hb8)
          have HB8 := Lib.hid (HB5.out.trans (hb8.mono szq))
          obtain ⟨A8, c8, rfl⟩ := R_slice' ho8 (L := 8) rfl
          have HC8 : Kd.C (Kd.int .u8) w8 A8 8 (be8 (8 * (N : Int))) := (Kd.R_reads' ho8).2.2
          clear ho8 hb8 HO5 HB5 e8
          go_wp2_with ((with_reducible refine gate_builtin (b := .append) (xs := #[.tmp 43, .tmp 44]) rfl ?_); at_builtin; refine Kd.R_append_rows (Kd.int .u8) (w0 := w2) (n + 2) rfl (.tmp 43) (.tmp 44) 29 5 (.int .u8 0) 1 rfl Tryz.underlying29 info5 rfl (by decide) (by omega) (.slice A5 L c5) (rest ++ [128] ++ List.replicate (gap m) 0) (be8 (8 * (N : Int))) A8 8 c8 (fun _ => True) (fun _ => False) rfl rfl HO8.out HC8 (fun _ _ h => h) (fun _ h => h.elim) (fun _ _ => trivial) HB8.out (Nat.le_trans szr HB8.out.size) (by rw [HLL.out]; have := HL.out; have := gap_lt m; omega) ?_; intro v9 w9 ho9 hb9 hg9 hat9; refine Hid.out ?_)
          refine Lib.hid ?_
          clear HC8 hg9 hat9
          have eT : rest ++ [128] ++ List.replicate (gap m) 0 ++ be8 (8 * (N : Int)) = tailOf rest N := by rw [← HRL.out]; rfl
          rw [eT] at ho9
          have hTl : (tailOf rest N).length = m + 9 + gap m := by rw [tail_len, HRL.out]
          obtain ⟨G, cap, rfl, hG, hGl, _⟩ := Kd.R_form ho9 (by rw [hTl]; omega)
          have hcap : (tailOf rest N).length ≤ cap := (Kd.R_reads' ho9).2.1
          have hByt := Byts.of_R ho9 (inB_tail (by rw [← ER.out]; exact H.out.ran.drop _) N)
          generalize hT : tailOf rest N = T at hTl hcap hByt ⊢
          have ET := Lib.hid hT
          have HTL := Lib.hid hTl
          have HGG := Lib.hid hG
          obtain ⟨M, hM⟩ : ∃ M, T.length = M := ⟨_, rfl⟩
          rw [hM] at hcap hByt ⊢
          have EM := Lib.hid (hM.symm.trans hTl)
          have HBY := Lib.hid hByt
          have HCAP := Lib.hid hcap
          have hr9 := HRr.out.below hb9 (by omega)
          have hb9' := Lib.hid (HBr.out.trans (hb9.mono (show n + 1 ≤ n + 2 by omega)))
          have HR9 := Lib.hid hr9
          clear ho9 hb9 hT hTl hG hM hByt hcap hr9 HO8 HB8 eT
          go_wp2_with fail
          go_loopw [5] (fun v5 wr => ∃ (q mm cc : Nat) (A : Option Addr), v5 = .slice A mm cc ∧ M = 64 * q + mm ∧ cap = 64 * q + cc ∧ (0 < cc → A = some ⟨G, 64 * q, none⟩) ∧ Below (n + 1) w1 wr ∧ Hid (Byts wr G 0 M T) ∧ RowAt wr (n + 1) 109 8 (hsh K (hsh K s l k) T q)) (fun v _ => slen v)
          case atStart => exact ⟨0, M, cap, _, rfl, by omega, by omega, fun _ => rfl, hb9'.out, HBY, HR9.out⟩
          case round =>
            obtain ⟨q, mm, cd, AA, rfl, hM, hc, hA, hb, HB, hr⟩ := hrel
            have hmc : mm ≤ cd := by have := HCAP.out; omega
            have hmm : mm % 64 = 0 := by have := EM.out; have := gap_sum m; omega
            have hml : mm ≤ 1099511627776 := by have := EM.out; have := gap_lt m; omega
            have EM2 := Lib.hid hM
            have EC2 := Lib.hid hc
            clear hM hc
            by_cases hlt : 0 < mm
            · have hlt : 64 ≤ mm := by omega
              obtain rfl := hA (by omega)
              have hcut := cut_next G (64 * q) mm cd hlt
              have ge : (0 : Int) < (mm : Int) := by omega
              have ge64 : (64 : Int) ≤ (mm : Int) := by omega
              go_wp2_with fail
              refine wp_region_held (S := fun _ => True) (by kernel_rfl) ?_
              change wpAnyH _ _ _ _ _ 5 _ _ wr.drew
              replace hr := hr.drew
              replace hb := below_drewN hb 1
              change Below (n + 1) w1 wr.drew at hb
              have hby := HB.out.drew
              generalize wr.drew = w7 at hr hb hby ⊢
              refine wpAnyH_take (i := 1) rfl (by kernel_rfl) (by kernel_rfl) (by kernel_rfl) (fun _ _ _ h => h) (Or.inl ⟨rfl, fun w _ => rfl⟩) trivial ?_
              refine wpAnyH_take (i := 2) rfl (by kernel_rfl) (by kernel_rfl) (by kernel_rfl) (fun _ _ _ h => h) (Or.inl ⟨rfl, fun w _ => slice_run _ _ w _ G (64 * q) mm cd rfl rfl rfl (by omega)⟩) trivial ?_
              refine wpAnyH_all (rs := [0]) (by kernel_rfl) (by simp) ?_
              intro i hi
              obtain rfl := List.mem_singleton.1 hi
              refine step_val (some 51) rfl rfl rfl _ _ (load_run8 _ _ w7 (n + 1) (hsh K (hsh K s l k) T q) _ rfl rfl hr) ?_
              refine ⟨trivial, ?_⟩
              refine wpAnyH_all (rs := [3]) (by kernel_rfl) (by simp) ?_
              intro i hi
              obtain rfl := List.mem_singleton.1 hi
              refine step_call (some 54) rfl rfl rfl 85 #[.agg (arr 8 (hsh K (hsh K s l k) T q)), .slice (some ⟨G, 64 * q, none⟩) 64 cd] (by first | rfl | (simp [execOp, go_sem]; done)) ?_
              refine (add_comp _ G (64 * q) cd ((T.drop (64 * q)).take 64) (hsh K (hsh K s l k) T q) K (by omega) ?_ (HQ1.out.below hb (by have := QN.out; omega)) (hsh_ok K _ T (hsh_ok K s l HX.out k) q)).mono ?_
              · have := hby.part (64 * q) 64 (by have := EM2.out; omega)
                rw [Nat.zero_add] at this
                exact this
              rintro e w10 ⟨rfl, hb10⟩
              refine ⟨_, rfl, ?_⟩
              replace hr := hr.below hb10 hr.lt
              replace hby := hby.below hb10
              replace hb := hb.trans (hb10.mono (show n + 1 ≤ w7.heap.size by have := hb.size; have := S1h.out; omega))
              clear hb10
              refine ⟨trivial, ?_⟩
              refine wpAnyH_all (rs := [4]) (by kernel_rfl) (by simp) ?_
              intro i hi
              obtain rfl := List.mem_singleton.1 hi
              refine step_store rfl rfl rfl 109 (.tmp 3) (.tmp 54) rfl (n + 1) (arr 8 (comp K (hsh K (hsh K s l k) T q) ((T.drop (64 * q)).take 64))) (by kernel_rfl) (by kernel_rfl) 109 _ hr (by rw [arr_size]; kernel_rfl) rfl (arr_one 8 _) ?_
              refine ⟨trivial, ?_⟩
              refine wpAnyH_done (by kernel_rfl) ?_ _
              have hr8 : RowAt (w10.setRow (n + 1) (arr 8 (comp K (hsh K (hsh K s l k) T q) ((T.drop (64 * q)).take 64)))) (n + 1) 109 8 (hsh K (hsh K s l k) T (q + 1)) := setRow_new hr _
              have hb8 := below_setRow hb (Nat.le_refl _) (arr 8 (comp K (hsh K (hsh K s l k) T q) ((T.drop (64 * q)).take 64)))
              have hby8 := Lib.hid (hby.setRow (show G ≠ n + 1 by have := HGG.out; omega) (arr 8 (comp K (hsh K (hsh K s l k) T q) ((T.drop (64 * q)).take 64))))
              clear hr hb hby HB
              generalize w10.setRow (n + 1) (arr 8 (comp K (hsh K (hsh K s l k) T q) ((T.drop (64 * q)).take 64))) = w11 at hr8 hb8 hby8 ⊢
              go_wp2_with fail
              go_roundw
              case rel => exact ⟨q + 1, mm - 64, cd - 64, nxt G (64 * q) cd, rfl, by have := EM2.out; omega, by have := EC2.out; omega, fun h => nxt_at _ _ _ (by omega), hb8, hby8, hr8⟩
              case measure => simp [slen]; omega
            · obtain rfl : mm = 0 := by omega
              have eS : hsh K (hsh K s l k) T q = hsh K s (tailOf l N) ((N + 72) / 64) := by
                have e1 : (N + 72) / 64 = k + q := by have := EN.out; have := EM.out; have := EM2.out; unfold gap at *; omega
                have e2 := hsh_pad K s l k (by rw [H.out.len]; have := EN.out; omega) q
                rw [H.out.len, ER.out, ET.out] at e2
                rw [e1, e2]
              rw [eS] at hr
              have XS : Hid (∀ j, 0 ≤ hsh K s (tailOf l N) ((N + 72) / 64) j ∧ hsh K s (tailOf l N) ((N + 72) / 64) j < 4294967296) := hsh_ok K s _ HX.out _
              generalize hS : hsh K s (tailOf l N) ((N + 72) / 64) = S at hr XS ⊢
              have HS := Lib.hid hS
              clear hS
              have hd := d1.below hb (by omega)
              have hb' := hb.mono (show n ≤ n + 1 by omega)
              go_wp2_with (refine wpList_load_row rfl 109 _ rfl (n + 1) rfl 109 (arr 8 S) (0, 0) _ hr Tryz.underlying109 rfl (by rw [arr_size]; kernel_rfl) ?_)
              clear hr hb HB
              go_loopw [56] (fun i wr => ∃ k : Nat, k ≤ 8 ∧ i = .int .i64 k ∧ Below n w1 wr ∧ BRow wr n 57 32 (upto (dgs S) (4 * k))) (fun i _ => 8 - (intOf i).toNat)
              case atStart => exact ⟨0, by omega, rfl, hb', hd⟩
              case round =>
                clear hd hb'
                obtain ⟨i, hi, rfl, hb, hd⟩ := hrel
                by_cases hlt : i < 8
                · obtain ⟨s0, s1⟩ := XS.out i
                  have hv := index_arr S i hlt
                  have gi : (i : Int) < 8 := by omega
                  have gi4 : (4 * (i : Int)) ≤ 32 := by omega
                  go_wp2_with fail
                  have e4 : IntKind.u64.wrap (S i) = S i := by rw [IntKind.wrap_u64]; omega
                  try rw [e4]
                  refine (bits_Bytes.calls 7 (S i) 4 (be4 (S i)) 0 wr (bits4 _)).mono ?_
                  rintro e w8 ⟨v8, rfl, ho8, hb8⟩
                  have hwr := hd.lt
                  replace hd := hd.below hb8 hd.lt
                  replace hb := hb.trans (hb8.mono (show n ≤ wr.heap.size by omega))
                  obtain ⟨b8, c8, rfl, _, hb8l, _⟩ := Kd.R_form ho8 (Nat.succ_pos _)
                  have hB8 := Byts.of_R ho8 (fun x hx => by simp only [be4, List.mem_cons, List.not_mem_nil, or_false] at hx; omega)
                  have hcut := cut_digest n i hlt
                  have hw4 : IntKind.i64.wrap (4 * (i : Int)) = 4 * (i : Int) := IntWalk.i64_in _ (by omega)
                  clear hb8 ho8 hv
                  go_wp2_with ((with_reducible refine gate_builtin (b := .copy) (xs := #[.tmp 68, .tmp 69]) rfl ?_); refine Hid.out ?_)
                  refine Lib.hid ?_
                  refine wpList_copy_own rfl (.tmp 68) (.tmp 69) 29 29 rfl 5 Tryz.underlying29 (by kernel_rfl) n (4 * i) (32 - 4 * i) (32 - 4 * i) ⟨b8, 0, none⟩ 4 c8 (by rfl) (by rfl) (brr 32 (upto (dgs S) (4 * i))) 57 hd ((be4 (S i)).map (Value.int .u8)) (by rw [List.length_map]; show 4 = Nat.min 4 (32 - 4 * i); exact (Nat.min_eq_left (by omega)).symm) hB8.cs (by rw [List.length_map, brr_size]; show 4 * i + 4 ≤ 32; omega) (by intro v hv; obtain ⟨x, _, rfl⟩ := List.mem_map.1 hv; rfl) ?_
                  rw [show ((be4 (S i)).map (Value.int .u8)).length = 4 from rfl, dgs_row S i hlt]
                  have hd' : BRow (w8.setRow n (brr 32 (upto (dgs S) (4 * (i + 1))))) n 57 32 (upto (dgs S) (4 * (i + 1))) := setRow_heap w8 n _ (brr 32 (upto (dgs S) (4 * (i + 1)))) _ _ hd
                  have hb' := below_setRow hb (Nat.le_refl _) (brr 32 (upto (dgs S) (4 * (i + 1))))
                  clear hd hb
                  generalize w8.setRow n (brr 32 (upto (dgs S) (4 * (i + 1)))) = w12 at hd' hb' ⊢
                  go_wp2_with fail
                  exact ⟨⟨i + 1, by omega, by go_num, hb', hd'⟩, by simp [intOf]; omega⟩
                · obtain rfl : i = 8 := by omega
                  replace hd : BRow wr n 57 32 (dgs S) := hd.ext fun j hj => upto_lt _ (by omega)
                  go_wp2_with (first
                    | (refine wpList_load_row rfl 57 _ rfl n rfl 57 (brr 32 (dgs S)) (0, 0) _ hd Tryz.underlying57 rfl (by rw [brr_size]; kernel_rfl) ?_)
                    | (refine wpList_store_row rfl 57 _ _ rfl n (brr 32 (dgs S)) rfl rfl 57 _ hd (by rw [brr_size]; kernel_rfl) rfl (brr_one 32 _) ?_))
                  have HL := run_loadVar_row (P := Tryz.prog) (wr.setRow n (brr 32 (dgs S))) n 57 57 _ (0, 0) _ (setRow_heap wr n _ (brr 32 (dgs S)) _ _ hd) Tryz.underlying57 rfl (by rw [brr_size]; kernel_rfl)
                  refine bodyPost_ret (v := .agg (brr 32 (dgs S))) (results_cell Tryz.results48 rfl HL) rfl ⟨?_, ?_⟩
                  · rw [HS.out]
                  · rw [HN.out]
                    exact B1h.out.trans (below_setRow hb (Nat.le_refl _) _)
        · have b0 : ((L : Int) % 64 != 56) = true := by rw [bne_iff_ne]; omega
          have hjlt : j < gap m := by
            rcases Nat.lt_or_ge j (gap m) with h | h
            · exact h
            · exfalso; have := gap_sum m; have h2 : j = gap m := by omega
              subst h2; have := HL.out; omega
          have hLm : L < 1099511627776 + 66 := by have := HL.out; have := gap_lt m; have := hm9.out; omega
          clear hc
          go_wp2_with ((with_reducible refine gate_builtin (b := .append) (xs := #[.tmp 34, .tmp 35]) rfl ?_); at_builtin; refine Kd.R_append (Kd.int .u8) (w0 := w2) (n + 2) rfl (.tmp 34) (.tmp 35) 29 5 (.int .u8 0) 1 rfl Tryz.underlying29 info5 rfl (by decide) (by omega) (.slice A5 L c5) (rest ++ [128] ++ List.replicate j 0) 0 [.int .u8 0] (fun _ => True) (fun _ => False) rfl rfl rfl (fun _ h => h.elim) (fun _ _ => trivial) HO5.out HB5.out (Nat.le_trans szr HB5.out.size) (by rw [HLL.out]; omega) ?_; intro v6 w6 ho6 hb6 hg6 hat6; refine Hid.out ?_)
          refine Lib.hid ?_
          clear hg6 hat6
          have e6 : rest ++ [128] ++ List.replicate j 0 ++ [0] = rest ++ [128] ++ List.replicate (j + 1) 0 := by rw [List.append_assoc _ _ [0], ← List.replicate_succ']
          rw [e6] at ho6
          obtain ⟨A6, c6, rfl⟩ := R_slice' ho6 (L := L + 1) (by have := HL.out; simp [HRL.out]; omega)
          have HO6 := Lib.hid ho6
          have HB6 := Lib.hid hb6
          clear ho6 hb6
          go_wp2_with fail
          go_roundw
          case rel => exact ⟨j + 1, hjlt, by have := HL.out; show L + 1 = _; omega, HO6, HB6⟩
          case measure => have := HL.out; simp [slen]; omega
end Go.Proofs.YtecahdjopdfeeaaGreatDoor
