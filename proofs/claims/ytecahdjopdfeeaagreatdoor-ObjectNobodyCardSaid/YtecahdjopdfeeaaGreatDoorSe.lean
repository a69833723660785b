/- block: the reference's. -/
import Derived.Test.YtecahdjopdfeeaaGreatDoorSp
import Derived.Great.BuildSlice
namespace Go.Proofs.YtecahdjopdfeeaaGreatDoor
set_option linter.unusedVariables false
set_option linter.unusedSimpArgs false
open Go.RowKit
/-- the sixty-four constants, at a block's head -/
structure WordsAt (w : World) (q : Nat) (K : Nat → Int) : Prop where
  lt : q < w.heap.size
  cell : ∀ k, k < 64 → w.cell? ⟨q, k, none⟩ = some (.int .u32 (K k))
theorem WordsAt.below {w w' : World} {q B : Nat} {K : Nat → Int} (h : WordsAt w q K) (hb : Below B w w') (hB : q < B) : WordsAt w' q K :=
  ⟨Nat.lt_of_lt_of_le h.lt hb.size, fun k hk => (hb.cell (p := ⟨q, k, none⟩) hB).trans (h.cell k hk)⟩
theorem WordsAt.setRow {w : World} {q b : Nat} {K : Nat → Int} (h : WordsAt w q K) (hne : q ≠ b) (cs : Array Value) : WordsAt (w.setRow b cs) q K :=
  ⟨by have := h.lt; simpa [World.setRow] using this, fun k hk => by
    have := h.cell k hk
    unfold World.cell? at this ⊢
    rw [setRow_other w b q cs hne]
    exact this⟩
theorem sg0_bx (x : Int) (h0 : 0 ≤ x) (h1 : x < 4294967296) : sg0 x = bits .xor .u32 (bx (rot x 7) (rot x 18)) (x / 8) := by
  have b1 := rot_bounds x (k := 7) (by omega) h0 h1
  have b2 := rot_bounds x (k := 18) (by omega) h0 h1
  unfold sg0 xor
  rw [bx_walk _ _ b1.1 b1.2 b2.1 b2.2]
theorem sg1_bx (x : Int) (h0 : 0 ≤ x) (h1 : x < 4294967296) : sg1 x = bits .xor .u32 (bx (rot x 17) (rot x 19)) (x / 1024) := by
  have b1 := rot_bounds x (k := 17) (by omega) h0 h1
  have b2 := rot_bounds x (k := 19) (by omega) h0 h1
  unfold sg1 xor
  rw [bx_walk _ _ b1.1 b1.2 b2.1 b2.2]
def row8 (a b c d e f g h : Int) : Nat → Int
  | 0 => a | 1 => b | 2 => c | 3 => d | 4 => e | 5 => f | 6 => g | _ => h
theorem row_rnd (K W s : Nat → Int) (k : Nat) (t u : Int) (ht : tsum K W k (rnds K W s k) = t) (hu : usum (rnds K W s k) = u) :
    arr 8 (row8 ((t + u) % 4294967296) (rnds K W s k 0) (rnds K W s k 1) (rnds K W s k 2) ((rnds K W s k 3 + t) % 4294967296) (rnds K W s k 4) (rnds K W s k 5) (rnds K W s k 6)) = arr 8 (rnds K W s (k + 1)) := by
  subst ht hu
  refine arr_ext fun j hj => ?_
  rcases j with _ | _ | _ | _ | _ | _ | _ | _ | j <;> first | (simp [rnds, rnd, row8]; done) | omega
theorem byts_lt {w : World} {g o : Nat} {l : List Int} (h : Byts w g o 64 l) : g < w.heap.size := World.block_lt_of_cell? _ _ (h.at_ 0 (by omega))
theorem byts_of2 {w1 w : World} {g o n B : Nat} {l : List Int} (h : Byts w1 g o n l) (hb : Below B w1 w) (hg : g < B) : Byts w g o n l :=
  ⟨h.len, fun i hi => (hb.cell (p := ⟨g, o + i, none⟩) hg).trans (h.at_ i hi), h.lo, h.hi⟩
set_option maxRecDepth 8000 in
set_option maxHeartbeats 40000000 in
theorem rblock_of (w : World) (g o c q qc : Nat) (l : List Int) (s : Nat → Int) (K : Nat → Int) (hc : 64 ≤ c) (h : Byts w g o 64 l) (hq : WordsAt w q K) (hx : ∀ j, 0 ≤ s j ∧ s j < 4294967296) :
    Calls Tryz.prog 70 #[.agg (arr 8 s), .slice (some ⟨g, o, none⟩) 64 c, .slice (some ⟨q, 0, none⟩) 64 qc] w fun e w' => e = .returned (.agg (arr 8 (sm s (rnds K (wod l) s 64) 8))) ∧ Below w.heap.size w w' := by
  have H := Lib.hid h
  have HX := Lib.hid hx
  have HQ := Lib.hid hq
  clear h hx hq
  go_enter Tryz.func70, Tryz.ntmps70
  go_wp2_with fail
  have h5 : arr 8 (fun _ => 0) = #[.int .u32 0, .int .u32 0, .int .u32 0, .int .u32 0, .int .u32 0, .int .u32 0, .int .u32 0, .int .u32 0] := rfl
  rw [← h5]
  have n1 := RowAt.new w 109 8 s
  generalize hw1 : w.alloc (.cells (arr 8 s) 109 (0, 0)) = w1 at n1 ⊢
  have s1 : w1.heap.size = w.heap.size + 1 := by rw [← hw1]; simp
  have B1 : Below w.heap.size w w1 := by rw [← hw1]; exact (Below.refl _ _).alloc (Nat.le_refl _) _
  have n2 := RowAt.new w1 109 8 (fun _ => 0)
  have B2 : Below w.heap.size w (w1.alloc (.cells (arr 8 fun _ => 0) 109 (0, 0))) := B1.alloc (by omega) _
  have n12 := n1.below ((Below.refl w1.heap.size w1).alloc (Nat.le_refl _) (.cells (arr 8 fun _ => 0) 109 (0, 0))) (by omega)
  have s2 : (w1.alloc (.cells (arr 8 fun _ => 0) 109 (0, 0))).heap.size = w.heap.size + 2 := by simp [s1]
  generalize w1.alloc (.cells (arr 8 fun _ => 0) 109 (0, 0)) = w2 at n2 n12 B2 s2 ⊢
  rw [s1] at n2
  have n3 := RowAt.new w2 169 64 (upto (wod l) 0)
  have B3 : Below (w.heap.size + 2) w2 (w2.alloc (.cells (arr 64 (upto (wod l) 0)) 169 (0, 0))) := (Below.refl _ _).alloc (by omega) _
  rw [s2] at n3
  change Code.wp _ _ _ _ (w2.alloc (.cells (arr 64 (upto (wod l) 0)) 169 (0, 0)))
  generalize hw3 : w2.alloc (.cells (arr 64 (upto (wod l) 0)) 169 (0, 0)) = w3 at n3 B3 ⊢
  have s3 : w3.heap.size = w.heap.size + 3 := by rw [← hw3]; simp [s2]
  have N1 := Lib.hid (n12.below B3 (by omega))
  have N2 := Lib.hid (n2.below B3 (by omega))
  have BW := Lib.hid (B2.trans (B3.mono (by omega)))
  have H3 := Lib.hid (H.out.below BW.out)
  have S3 := Lib.hid s3
  have G := Lib.hid (byts_lt H.out)
  have HQ1 := Lib.hid (HQ.out.below BW.out HQ.out.lt)
  have HQN := Lib.hid HQ.out.lt
  clear HQ
  clear hw1 hw3 s1 s2 s3 h5 B1 B2 B3 n1 n12 n2
  generalize hn : w.heap.size = n at n3 N1 N2 BW S3 G HQN ⊢
  have HN := Lib.hid hn
  clear hn
  go_loopw [8] (fun i wr => ∃ k : Nat, k ≤ 16 ∧ i = .int .i64 k ∧ Below (n + 2) w3 wr ∧ RowAt wr (n + 2) 169 64 (upto (wod l) k)) (fun i _ => 16 - (intOf i).toNat)
  case atStart => exact ⟨0, Nat.zero_le _, rfl, Below.refl _ _, n3⟩
  case round =>
    obtain ⟨k, hk, rfl, hb, hr⟩ := hrel
    by_cases hlt : k < 16
    · have HB := Lib.hid (byts_of2 H3.out hb (by have := G.out; omega))
      obtain ⟨e1, e2, e3⟩ := HB.out.wd hlt
      have E1 := Lib.hid e1
      clear e1
      have hx := hr.cell (k := k) (by omega)
      have hf := hr.free k
      go_wp2_with (go_at_call 116; refine (rnumber4 _ _ _ _ _ (HB.out.four hlt)).mono ?_; rintro e w' ⟨rfl, rfl⟩; rw [E1.out])
      all_goals
        go_roundw
        case rel => exact ⟨k + 1, by omega, by go_num, hb.setCell (Nat.le_refl _) _, hr.set (by omega) (by rw [upto_lt _ (by omega)]) (upto_step _ _)⟩
        case measure => simp [intOf]; omega
    · obtain rfl : k = 16 := by omega
      go_wp2_with fail
      go_slots
      go_loopw [11] (fun i wr => ∃ k : Nat, 16 ≤ k ∧ k ≤ 64 ∧ i = .int .i64 k ∧ Below (n + 2) w3 wr ∧ RowAt wr (n + 2) 169 64 (upto (wod l) k)) (fun i _ => 64 - (intOf i).toNat)
      case atStart => exact ⟨16, by omega, by omega, rfl, hb, hr⟩
      case round =>
        obtain ⟨k, hk0, hk, rfl, hb, hr⟩ := hrel
        by_cases hlt : k < 64
        · obtain ⟨j, rfl⟩ : ∃ j, k = j + 16 := ⟨k - 16, by omega⟩
          obtain ⟨b10, b11⟩ := H.out.wdb (j + 1)
          obtain ⟨b20, b21⟩ := H.out.wdb (j + 14)
          go_wp2_with fail
          refine wp_region_still_tail 35 (by kernel_rfl) (by kernel_rfl) ?_
          simp only [List.take_succ_cons, List.take_zero, List.drop_succ_cons, List.drop_zero]
          change wpStill _ _ wr.drew (fun _ => wpList _ _ _ _ _ wr.drew) _ _
          replace hr := hr.drew
          replace hb := below_drewN hb 1
          change Below (n + 2) w3 wr.drew at hb
          generalize wr.drew = w7 at hr hb ⊢
          have r16 := (hr.cell (k := j) (by omega)).trans (by rw [upto_lt _ (by omega)])
          have r15 := (hr.cell (k := j + 1) (by omega)).trans (by rw [upto_lt _ (by omega)])
          have r7 := (hr.cell (k := j + 9) (by omega)).trans (by rw [upto_lt _ (by omega)])
          have r2 := (hr.cell (k := j + 14) (by omega)).trans (by rw [upto_lt _ (by omega)])
          have hx := hr.cell (k := j + 16) (by omega)
          have hf := hr.free (j + 16)
          have i16 : ((j : Int) + 16).toNat = j + 16 := by omega
          have i7 : ((j : Int) + 16 - 7).toNat = j + 9 := by omega
          have i15 : ((j : Int) + 16 - 15).toNat = j + 1 := by omega
          have i2 : ((j : Int) + 16 - 2).toNat = j + 14 := by omega
          have w16 : IntKind.i64.wrap (j : Int) = (j : Int) := IntWalk.i64_in _ (by omega)
          have w7' : IntKind.i64.wrap ((j : Int) + 16 - 7) = (j : Int) + 16 - 7 := IntWalk.i64_in _ (by omega)
          have w15 : IntKind.i64.wrap ((j : Int) + 16 - 15) = (j : Int) + 16 - 15 := IntWalk.i64_in _ (by omega)
          have w2' : IntKind.i64.wrap ((j : Int) + 16 - 2) = (j : Int) + 16 - 2 := IntWalk.i64_in _ (by omega)
          have g0 : (0 : Int) ≤ j := by omega
          have g1 : (j : Int) < 64 := by omega
          have g6 : (7 : Int) ≤ (j : Int) + 16 := by omega
          have g7 : (15 : Int) ≤ (j : Int) + 16 := by omega
          have g8 : (2 : Int) ≤ (j : Int) + 16 := by omega
          have g3 : (j : Int) + 16 - 7 < 64 := by omega
          have g9 : (j : Int) + 16 - 15 < 64 := by omega
          have g10 : (j : Int) + 16 - 2 < 64 := by omega
          have g4 : (0 : Int) ≤ (j : Int) + 16 := by omega
          have g5 : (j : Int) + 16 < 64 := by omega
          repeat still_step
          still_call ((rot2_any _ 17 19 _ b20 b21 (by decide) (by decide) (by decide) (by decide)).mono fun e w' h => ⟨h.1, h.2.symm⟩)
          repeat still_step
          still_call ((rot2_any _ 7 18 _ b10 b11 (by decide) (by decide) (by decide) (by decide)).mono fun e w' h => ⟨h.1, h.2.symm⟩)
          repeat still_step
          try refine wpStill_nil ?_
          go_wp2_with fail
          refine ⟨?_, ?measure⟩
          (repeat apply Exists.intro)
          refine ⟨?rel, rfl⟩
          case rel => exact ⟨j + 17, by omega, by omega, by go_num, hb.setCell (Nat.le_refl _) _, hr.set (by omega) (by rw [upto_lt _ (by omega), wd_step, sg0_bx _ b10 b11, sg1_bx _ b20 b21]; show (bits .xor .u32 (bx (rot (wod l (j + 14)) 17) (rot (wod l (j + 14)) 19)) (wod l (j + 14) / 1024) + wod l (j + 9) + bits .xor .u32 (bx (rot (wod l (j + 1)) 7) (rot (wod l (j + 1)) 18)) (wod l (j + 1) / 8) + wod l j) % 4294967296 = _; omega) (upto_step _ _)⟩
          case measure => simp [intOf]; omega
        · obtain rfl : k = 64 := by omega
          have t1 := N1.out.below hb (by omega)
          have t2 := N2.out.below hb (by omega)
          go_wp2_with (first
            | (refine wpList_load_row rfl 109 _ rfl n rfl 109 (arr 8 s) (0, 0) _ t1 Tryz.underlying109 rfl (by rw [arr_size]; kernel_rfl) ?_)
            | (refine wpList_store_row rfl 109 _ _ rfl wr.heap.size (arr 8 s) rfl rfl 109 _ (heap_alloc_new _ _) (by rw [arr_size]; kernel_rfl) (by rw [arr_size]; rfl) (arr_one 8 s) ?_))
          have lb : n + 3 ≤ wr.heap.size := Nat.le_trans (Nat.le_of_eq S3.out.symm) hb.size
          have z := RowAt.new wr 109 8 (fun _ => 0)
          have hz := (Below.refl wr.heap.size wr).alloc (Nat.le_refl _) (.cells (arr 8 fun _ => 0) 109 (0, 0))
          change Code.wp _ _ _ _ ((wr.alloc (.cells (arr 8 fun _ => 0) 109 (0, 0))).setRow wr.heap.size (arr 8 s))
          have v1 := setRow_row (t1.below hz (by omega)) (show n ≠ wr.heap.size by omega) (arr 8 s)
          have v2 := setRow_row (t2.below hz (by omega)) (show n + 1 ≠ wr.heap.size by omega) (arr 8 s)
          have v3 := setRow_row (hr.below hz (by omega)) (show n + 2 ≠ wr.heap.size by omega) (arr 8 s)
          have v4 := setRow_new z s
          have v5 := below_setRow (hb.trans (hz.mono (show n + 2 ≤ wr.heap.size by omega))) (show n + 2 ≤ wr.heap.size by omega) (arr 8 s)
          generalize (wr.alloc (.cells (arr 8 fun _ => 0) 109 (0, 0))).setRow wr.heap.size (arr 8 s) = w4 at v1 v2 v3 v4 v5 ⊢
          clear z hz t1 t2 hr hb
          generalize wr.heap.size = b at lb v4 ⊢
          go_loopw [13] (fun i wr => ∃ k : Nat, k ≤ 64 ∧ i = .int .i64 k ∧ Below (n + 2) w3 wr ∧ RowAt wr n 109 8 s ∧ RowAt wr (n + 1) 109 8 (fun _ => 0) ∧ RowAt wr (n + 2) 169 64 (upto (wod l) 64) ∧ RowAt wr b 109 8 (rnds K (wod l) s k)) (fun i _ => 64 - (intOf i).toNat)
          case atStart => exact ⟨0, by omega, rfl, v5, v1, v2, v3, v4⟩
          case round =>
            clear v1 v2 v3 v4 v5
            obtain ⟨k, hk, rfl, hb, q1, q2, q5, q6⟩ := hrel
            by_cases hlt : k < 64
            · have hq := HQ1.out.below hb (Nat.lt_of_lt_of_le HQN.out (Nat.le_add_right _ _))
              have hcu := hq.cell k hlt
              have hwo := (q5.cell (k := k) hlt).trans (by rw [upto_lt _ hlt])
              have X := Lib.hid (rnds_ok K (wod l) s HX.out k)
              have x0 := q6.cell (k := 0) (by omega)
              have x1 := q6.cell (k := 1) (by omega)
              have x2 := q6.cell (k := 2) (by omega)
              have x4 := q6.cell (k := 4) (by omega)
              have x5 := q6.cell (k := 5) (by omega)
              have x6 := q6.cell (k := 6) (by omega)
              have x7 := q6.cell (k := 7) (by omega)
              obtain ⟨a0, a1⟩ := X.out 0
              obtain ⟨e0, e1⟩ := X.out 4
              clear hq
              go_wp2_with fail
              go_quiet (first
                | (go_at_call 117; exact Calls.quiet_of_same ((rot2_any _ 6 11 _ e0 e1 (by decide) (by decide) (by decide) (by decide)).mono fun e w' h => ⟨h.1, h.2.symm⟩))
                | (go_at_call 118; exact Calls.quiet_of_same ((rrotate_any _ 25 _ e0 e1 (by decide) (by decide)).mono fun e w' h => ⟨h.1, h.2.symm⟩)))
              go_wp2_with fail
              clear x0 x1 x2 x4 x5 x6 x7 hcu hwo
              replace q1 := q1.drewN nq
              replace q2 := q2.drewN nq
              replace q5 := q5.drewN nq
              replace q6 := q6.drewN nq
              replace hb := below_drewN hb nq
              generalize wr.drewN nq = w6 at q1 q2 q5 q6 hb ⊢
              rw [tsum_ref K (wod l) (rnds K (wod l) s k) k X.out]
              generalize ht : tsum K (wod l) k (rnds K (wod l) s k) = t
              have HT := Lib.hid ht
              clear ht
              have x0 := q6.cell (k := 0) (by omega)
              have x1 := q6.cell (k := 1) (by omega)
              have x2 := q6.cell (k := 2) (by omega)
              go_quiet (first
                | (go_at_call 117; exact Calls.quiet_of_same ((rot2_any _ 2 13 _ a0 a1 (by decide) (by decide) (by decide) (by decide)).mono fun e w' h => ⟨h.1, h.2.symm⟩))
                | (go_at_call 118; exact Calls.quiet_of_same ((rrotate_any _ 22 _ a0 a1 (by decide) (by decide)).mono fun e w' h => ⟨h.1, h.2.symm⟩)))
              clear x0 x1 x2
              replace q1 := q1.drewN nq
              replace q2 := q2.drewN nq
              replace q5 := q5.drewN nq
              replace q6 := q6.drewN nq
              replace hb := below_drewN hb nq
              generalize w6.drewN nq = w7 at q1 q2 q5 q6 hb ⊢
              rw [usum_ref (rnds K (wod l) s k) X.out]
              generalize hu : usum (rnds K (wod l) s k) = u
              have HU := Lib.hid hu
              clear hu
              have x0 := q6.cell (k := 0) (by omega)
              have x1 := q6.cell (k := 1) (by omega)
              have x2 := q6.cell (k := 2) (by omega)
              have x3 := q6.cell (k := 3) (by omega)
              have x4 := q6.cell (k := 4) (by omega)
              have x5 := q6.cell (k := 5) (by omega)
              have x6 := q6.cell (k := 6) (by omega)
              go_wp2_with (first
                | (refine wpList_buildTo rfl 109 _ rfl (some 156) rfl (arr 8 (row8 ((t + u) % 4294967296) (rnds K (wod l) s k 0) (rnds K (wod l) s k 1) (rnds K (wod l) s k 2) ((rnds K (wod l) s k 3 + t) % 4294967296) (rnds K (wod l) s k 4) (rnds K (wod l) s k 5) (rnds K (wod l) s k 6))) (by kernel_rfl) ?_)
                | (refine wpList_store_row rfl 109 _ _ rfl b (arr 8 (row8 ((t + u) % 4294967296) (rnds K (wod l) s k 0) (rnds K (wod l) s k 1) (rnds K (wod l) s k 2) ((rnds K (wod l) s k 3 + t) % 4294967296) (rnds K (wod l) s k 4) (rnds K (wod l) s k 5) (rnds K (wod l) s k 6))) rfl rfl 109 _ q6 (by rw [arr_size]; kernel_rfl) (by rw [arr_size]; rfl) (arr_one 8 _) ?_))
              refine ⟨⟨k + 1, by omega, by go_num, below_setRow hb (by omega) _, setRow_row q1 (by omega) _, setRow_row q2 (by omega) _, setRow_row q5 (by omega) _, ?_⟩, by simp [intOf]; omega⟩
              rw [row_rnd K (wod l) s k t u HT.out HU.out]
              exact setRow_new q6 _
            · obtain rfl : k = 64 := by omega
              go_wp2_with fail
              have hb' := hb.mono (show n ≤ n + 2 by omega)
              clear hb q5
              go_loopw [16] (fun i wr => ∃ k : Nat, k ≤ 8 ∧ i = .int .i64 k ∧ Below n w3 wr ∧ RowAt wr n 109 8 (sm s (rnds K (wod l) s 64) k) ∧ RowAt wr b 109 8 (rnds K (wod l) s 64) ∧ RowAt wr (n + 1) 109 8 (fun _ => 0)) (fun i _ => 8 - (intOf i).toNat)
              case atStart => exact ⟨0, by omega, rfl, hb', q1, q6, q2⟩
              case round =>
                obtain ⟨k, hk, rfl, hb, q1, q6, q2⟩ := hrel
                by_cases hlt : k < 8
                · go_wp2_with fail
                  refine wp_region_still_tail 9 (by kernel_rfl) (by kernel_rfl) ?_
                  simp only [List.take_succ_cons, List.take_zero, List.drop_succ_cons, List.drop_zero]
                  change wpStill _ _ wr.drew (fun _ => wpList _ _ _ _ _ wr.drew) _ _
                  replace q1 := q1.drew
                  replace q2 := q2.drew
                  replace q6 := q6.drew
                  replace hb := below_drewN hb 1
                  change Below n w3 wr.drew at hb
                  generalize wr.drew = w7 at q1 q2 q6 hb ⊢
                  have c1 := (q1.cell hlt).trans (by rw [sm_old])
                  have c6 := q6.cell hlt
                  have f1 := q1.free k
                  have g0 : (0 : Int) ≤ k := by omega
                  have g1 : (k : Int) < 8 := by omega
                  repeat still_step
                  try refine wpStill_nil ?_
                  go_wp2_with fail
                  refine ⟨?_, ?measure⟩
                  (repeat apply Exists.intro)
                  refine ⟨?rel, rfl⟩
                  case rel => exact ⟨k + 1, by omega, by go_num, hb.setCell (Nat.le_refl _) _, q1.set hlt (by rw [sm_at]) (sm_step _ _ _), q6.other (by omega), q2.other (by omega)⟩
                  case measure => simp [intOf]; omega
                · obtain rfl : k = 8 := by omega
                  go_wp2_with (first
                    | (refine wpList_load_row rfl 109 _ rfl n rfl 109 (arr 8 (sm s (rnds K (wod l) s 64) 8)) (0, 0) _ q1 Tryz.underlying109 rfl (by rw [arr_size]; kernel_rfl) ?_)
                    | (refine wpList_store_row rfl 109 _ _ rfl (n + 1) (arr 8 (sm s (rnds K (wod l) s 64) 8)) rfl rfl 109 _ q2 (by rw [arr_size]; kernel_rfl) rfl (arr_one 8 _) ?_))
                  have HL := run_loadVar_row (P := Tryz.prog) (wr.setRow (n + 1) (arr 8 (sm s (rnds K (wod l) s 64) 8))) (n + 1) 109 109 _ (0, 0) _ (setRow_heap wr (n + 1) _ (arr 8 (sm s (rnds K (wod l) s 64) 8)) _ _ q2) Tryz.underlying109 rfl (by rw [arr_size]; kernel_rfl)
                  refine bodyPost_ret (v := .agg (arr 8 (sm s (rnds K (wod l) s 64) 8))) (results_cell Tryz.results70 rfl HL) rfl ⟨rfl, ?_⟩
                  rw [HN.out]
                  exact BW.out.trans (below_setRow hb (by omega) _)
end Go.Proofs.YtecahdjopdfeeaaGreatDoor
