/- ArchiveHolds, walked. -/
import Derived.Test.YtdehcojmgmjcmaaDoorRl
namespace Go.Proofs.YtdehcojmgmjcmaaDoor
set_option linter.unusedVariables false
set_option linter.unusedSimpArgs false
open Go.RowKit QArchiveBack Go.Proofs.YtdehcojmgmjcmaaDoorW.PrintWords Go.Proofs.YtdehcojmgmjcmaaDoorW.PrintLast Go.Proofs.YtdehcojmgmjcmaaDoorW.PrintMore
theorem right_file (ex : Bool) (xs : List Int) (h : xs.length ≤ 3000) : right ⟨1, ex, xs, [], []⟩ = 0 := by
  unfold right
  rw [if_pos (by rw [deep_eq, nodes_eq]; simp [deepL, nodesL]), bad_eq]
  have h1 : ¬ 31744 < xs.length := by omega
  simp [kindOk, entSum, namesBad, badL, h1]
theorem fits_file (ex : Bool) (xs : List Int) (h : xs.length ≤ 3000) : fits ⟨1, ex, xs, [], []⟩ := by
  rw [fits_eq]
  exact ⟨by simp only []; omega, ⟨by simp, by simp⟩, by simp, trivial⟩
theorem arch_file (ex : Bool) (xs : List Int) : (arch ⟨1, ex, xs, [], []⟩).length = 96 + (xs.length + 7) / 8 * 8 + 16 + (if ex = true then 32 else 0) := by
  have hp : 8 + xs.length + padN xs.length = 8 + (xs.length + 7) / 8 * 8 := by unfold padN; omega
  rw [arch_len, nodeL_eq]
  simp only [if_true, List.length_append]
  have e1 : (strsL [wCont, strOfNums xs]).length = 16 + (8 + (xs.length + 7) / 8 * 8) := by
    rw [← hp]
    simp only [strsL, List.length_append, List.length_nil, strL_len, strOf_size]
    show (8 + 8 + padN 8) + (8 + xs.length + padN xs.length + 0) = _
    have : padN 8 = 0 := rfl
    omega
  have e2 : (strsL [wParen, wType]).length = 32 := by decide
  have e3 : (strsL [wReg]).length = 16 := by decide
  have e4 : (strsL [wExec, wNone]).length = 32 := by decide
  have e5 : (strsL [wEnd]).length = 16 := by decide
  cases ex
  · simp only [Bool.false_eq_true, if_false, List.length_nil]; omega
  · simp only [if_true]; omega
theorem K_file (w : World) (ex : Bool) (xs : List Int) {A : Option Addr} {n c : Nat} (hC : Kd.C (Kd.int .u8) w A n xs) (hc : n ≤ c) : k26.K w ⟨1, ex, xs, [], []⟩ [.int .i64 1, .bool ex, .slice A n c, .slice none 0 0, .slice none 0 0] := by
  obtain rfl := hC.1
  exact k26_mk w ⟨1, ex, xs, [], []⟩ hc hC (Nat.le_refl _) ⟨rfl, by simp, fun h => absurd h (by simp)⟩ (Nat.le_refl _) ⟨rfl, by simp, fun h => absurd h (by simp)⟩
theorem tmod_bound (a m : Int) (hm : 0 < m) : -m < a.tmod m ∧ a.tmod m < m := by
  rcases Int.le_total 0 a with h | h
  · rw [Int.tmod_eq_emod_of_nonneg h]
    have := Int.emod_nonneg a (Int.ne_of_gt hm)
    have := Int.emod_lt_of_pos a hm
    omega
  · have e : a.tmod m = -((-a) % m) := by
      rw [← Int.tmod_eq_emod_of_nonneg (show 0 ≤ -a by omega), Int.neg_tmod, Int.neg_neg]
    rw [e]
    have := Int.emod_nonneg (-a) (Int.ne_of_gt hm)
    have := Int.emod_lt_of_pos (-a) hm
    omega
theorem turn_bound (a : Int) (L : Nat) (h0 : 0 < L) (h1 : L ≤ 4000) : 0 ≤ (wrap64 (a.tmod (8 * (L : Int)) + 8 * (L : Int))).tmod (8 * (L : Int)) ∧ (wrap64 (a.tmod (8 * (L : Int)) + 8 * (L : Int))).tmod (8 * (L : Int)) < 8 * (L : Int) := by
  obtain ⟨b1, b2⟩ := tmod_bound a (8 * (L : Int)) (by omega)
  rw [w64 (by omega) (by omega)]
  have hp : 0 ≤ a.tmod (8 * (L : Int)) + 8 * (L : Int) := by omega
  rw [Int.tmod_eq_emod_of_nonneg hp]
  exact ⟨Int.emod_nonneg _ (by omega), Int.emod_lt_of_pos _ (by omega)⟩
theorem xor_turn (b : Int) (j : Nat) (h0 : 0 ≤ b) (h1 : b ≤ 255) (hj : j < 8) : 0 ≤ bits .xor .u8 b (2 ^ j % 256) ∧ bits .xor .u8 b (2 ^ j % 256) ≤ 255 ∧ bits .xor .u8 b (2 ^ j % 256) ≠ b := by
  obtain ⟨a, rfl⟩ := Int.eq_ofNat_of_zero_le h0
  have e : ((2 : Int) ^ j % 256) = ((2 ^ j : Nat) : Int) := by
    match j, hj with
    | 0, _ => rfl
    | 1, _ => rfl
    | 2, _ => rfl
    | 3, _ => rfl
    | 4, _ => rfl
    | 5, _ => rfl
    | 6, _ => rfl
    | 7, _ => rfl
  have hp : 2 ^ j < 256 := by
    have : 2 ^ j ≤ 2 ^ 7 := Nat.pow_le_pow_right (by decide) (by omega)
    omega
  rw [e, u8_xor_nat a _ (by omega) hp]
  have hx : a ^^^ 2 ^ j < 2 ^ 8 := Nat.xor_lt_two_pow (by omega) (by omega)
  refine ⟨by omega, by omega, fun h => ?_⟩
  have h2 : a ^^^ 2 ^ j = a := by omega
  have h3 : a ^^^ (a ^^^ 2 ^ j) = a ^^^ a := by rw [h2]
  rw [← Nat.xor_assoc, Nat.xor_self, Nat.zero_xor] at h3
  have := Nat.pow_pos (n := j) (show 0 < 2 by decide)
  omega
theorem set_ne {l : List Int} {i : Nat} {v : Int} (hi : i < l.length) (hv : v ≠ l.getD i 0) : l.set i v ≠ l := fun h => by
  have := congrArg (fun m => m.getD i 0) h
  simp only [List.getD, List.getElem?_set_self hi, Option.getD_some] at this
  exact hv this
theorem inB_set {l : List Int} {i : Nat} {v : Int} (h : inB l) (h0 : 0 ≤ v) (h1 : v ≤ 255) : inB (l.set i v) := fun x hx => by
  rcases List.mem_or_eq_of_mem_set hx with h2 | rfl
  · exact h x h2
  · exact ⟨h0, h1⟩
set_option maxRecDepth 8000 in
set_option maxHeartbeats 8000000 in
theorem holds_small (w : World) (A : Option Addr) (n c : Nat) (xs : List Int) (ex : Bool) (at_ : Int) (hC : Kd.C (Kd.int .u8) w A n xs) (hc : n ≤ c) (hg : w.cell? ⟨0, 0, none⟩ = some (.iface 93 (.agg #[.pointer (some ⟨4, 50, none⟩)]))) (hsm3 : n ≤ 3000) :
    Calls Tryd.prog 4 #[.slice A n c, .bool ex, .int .i64 at_] w fun e w' => e = .returned (.bool true) ∧ Below w.heap.size w w' := by
  have HCC := Lib.hid hC
  have HC := Lib.hid hc
  have HGE := Lib.hid hg
  have hn := hC.2.1
  clear hC hc hg
  go_enter Tryd.func4, Tryd.ntmps4
  have hbig : ¬ (3000 : Int) < (n : Int) := by omega
  have hen := encode_of (w.alloc (.cells #[.int .i64 1, .bool ex, .slice A n c, .slice none 0 0, .slice none 0 0] 26)) ⟨1, ex, xs, [], []⟩ [.int .i64 1, .bool ex, .slice A n c, .slice none 0 0, .slice none 0 0] (k26.K_below (below_alloc (Below.refl _ _) _) (K_file w ex xs HCC.out HC.out)) (fits_file ex xs (by have := HCC.out.1; omega))
  have hbx : (w.alloc (.cells #[.int .i64 1, .bool ex, .slice A n c, .slice none 0 0, .slice none 0 0] 26)).heap[w.heap.size]? = some (.cells #[.int .i64 1, .bool ex, .slice A n c, .slice none 0 0, .slice none 0 0] 26 (0, 0)) := heap_alloc_new _ _
  have hb1 := below_alloc (Below.refl w.heap.size w) (.cells #[.int .i64 1, .bool ex, .slice A n c, .slice none 0 0, .slice none 0 0] 26)
  go_wp2_with (go_at_call 6; refine Hid.out ?_)
  refine Lib.hid ?_
  generalize w.alloc (.cells #[.int .i64 1, .bool ex, .slice A n c, .slice none 0 0, .slice none 0 0] 26) = w1 at hen hbx hb1 ⊢
  generalize hgb : w.heap.size = gb at hbx ⊢
  have HGB := Lib.hid hgb
  clear hgb
  refine hen.mono ?_
  rintro e w2 ⟨hb, ⟨hr, g, cap, rfl, hcap, hby, hgl⟩ | ⟨hr, A9, c9, rfl⟩⟩
  · have hlen := arch_file ex xs
    rw [HCC.out.1] at hlen
    have HBX := Lib.hid ((hb.block gb (blk_lt hbx)).trans hbx)
    have HB2 := Lib.hid (hb1.trans (hb.mono hb1.size))
    have HBY := Lib.hid hby
    have HCAP := Lib.hid hcap
    have hinx := inB_arch ⟨1, ex, xs, [], []⟩
    have hdb : ∀ (z : S26), norm z = norm ⟨1, ex, xs, [], []⟩ → arch z = arch ⟨1, ex, xs, [], []⟩ := fun z h => arch_norm h
    have HIX := Lib.hid hinx
    have HDB := Lib.hid hdb
    generalize hal : arch ⟨1, ex, xs, [], []⟩ = ar at hlen HBY HCAP HIX HDB ⊢
    generalize hll : ar.length = L at hlen HBY HCAP ⊢
    have HLL := Lib.hid hll
    have hn3 : n ≤ 3000 := by omega
    have hL1 : L ≤ 4000 := by split at hlen <;> omega
    have hL0 : 0 < L := by split at hlen <;> omega
    have HLEN := Lib.hid hlen
    clear hen hb hbx hb1 hcap hby hgl hlen hinx hdb hal hll hr
    cases ex
    · have hl : (L : Int) = 96 + ((n : Int) + 7) / 8 * 8 + 16 := by have := HLEN.out; simp at this; omega
      go_upto_region 10 with fail
      clear hl
      go_upto_region 11 with fail
      obtain ⟨hk0, hk1⟩ := turn_bound at_ L hL0 hL1
      generalize (wrap64 (at_.tmod (8 * (L : Int)) + 8 * (L : Int))).tmod (8 * (L : Int)) = k at hk0 hk1 ⊢
      have hro : ReadsInt (w2.alloc (.cells #[] 5)) .u8 (some ⟨g, 0, none⟩) L ar := by
        have h1 := (HBY.out.below (below_alloc (Below.refl _ _) (.cells #[] 5)))
        refine ⟨HLL.out, by omega, fun _ => ⟨⟨g, 0, none⟩, rfl, fun j hj => ?_⟩⟩
        have := h1.at_ j hj
        rw [Nat.zero_add] at this
        rw [add_plain]
        exact this
      have hol : (w2.alloc (.cells #[] 5)).ownsRow w2.heap.size 5 1 (.slice (some ⟨w2.heap.size, 0, none⟩) 0 0) 0 (nums .u8 []) := own_lit w2 w2.heap.size 5 .u8 [] (Nat.le_refl _) (by simp)
      go_wp2_with (refine print_append_row (w0 := w2) w2.heap.size rfl (.tmp 59) (.tmp 60) 22 5 .u8 1 rfl Tryd.underlying22 (by kernel_rfl) (by decide) _ [] ar _ L cap rfl rfl hol hro (below_alloc (Below.refl _ _) _) (by simp) (by simp; omega) ?_; intro v1 w3 ho hb hg hat; refine Hid.out ?_)
      refine Lib.hid ?_
      rw [List.nil_append, HLL.out] at ho
      obtain ⟨g3, c3, rfl, hgb3, hgl3⟩ := ho.form hL0
      have HO := Lib.hid ho
      have HB3 := Lib.hid hb
      have hcap3 : L ≤ c3 := by
        rcases ho.2 with ⟨e, _⟩ | ⟨g', cap', cur, e, _, _, h1, _⟩
        · cases e
        · injection e with _ _ e3; rw [e3]; exact h1
      clear ho hb hg hat hro hol
      go_upto_region 12 with fail
      obtain ⟨hx3, hf3⟩ := own_at HO.out (k / 8) (by omega) (by omega)
      have hk8 : k / 8 < (L : Int) := by omega
      have hk80 : 0 ≤ k / 8 := by omega
      go_wp2_with (go_at_call 7; refine Hid.out ?_)
      refine Lib.hid ?_
      have hrd : rd ar (k / 8) = ar.getD (k / 8).toNat 0 := rfl
      obtain ⟨b0, b1⟩ := HIX.out.getD (k / 8).toNat
      obtain ⟨v0, v1, v2⟩ := xor_turn (rd ar (k / 8)) (k % 8).toNat (by rw [hrd]; exact b0) (by rw [hrd]; exact b1) (by omega)
      rw [hrd] at v0 v1 v2 hx3 ⊢
      generalize hv : bits .xor .u8 (ar.getD (k / 8).toNat 0) (2 ^ (k % 8).toNat % 256) = v at v0 v1 v2 ⊢
      obtain ⟨hs1, hs2⟩ := own_store HO.out (k / 8) v
      have HNE := Lib.hid (set_ne (l := ar) (i := (k / 8).toNat) (v := v) (by rw [HLL.out]; omega) v2)
      have HIS := Lib.hid (inB_set (i := (k / 8).toNat) HIX.out v0 v1)
      have hg3 : w2.heap.size ≤ g3 := own_base HO.out g3 rfl
      have hbw : Below w.heap.size w (w3.setCell ⟨g3, (k / 8).toNat, none⟩ (.int .u8 v)) := below_set (HB2.out.trans (HB3.out.mono HB2.out.size)) (by have := HB2.out.size; show w.heap.size ≤ g3; omega) _
      have hbx4 : (w3.setCell ⟨g3, (k / 8).toNat, none⟩ (.int .u8 v)).heap[gb]? = some (.cells #[.int .i64 1, .bool false, .slice A n c, .slice none 0 0, .slice none 0 0] 26 (0, 0)) := by
        have h2 := blk_lt HBX.out
        rw [Below.heap_setCell _ ⟨g3, (k / 8).toNat, none⟩ _ gb (by show gb ≠ g3; omega), HB3.out.block gb h2]
        exact HBX.out
      have HBX4 := Lib.hid hbx4
      have HB4 := Lib.hid hbw
      obtain ⟨A', c', e', hri⟩ := own_reads hs1
      injection e' with e1 _ e3
      subst e1
      subst e3
      have HC4 := Lib.hid (Kd.C_of_reads (enc := Value.int .u8) (d := (0 : Int)) (h1 := fun _ => rfl) hri)
      clear hs1 hs2 hbw hbx4 hri hx3 hf3 b0 b1 v0 v1 v2 hrd hv
      generalize w3.setCell ⟨g3, (k / 8).toNat, none⟩ (.int .u8 v) = w4 at HBX4 HB4 HC4 ⊢
      generalize ar.set (k / 8).toNat v = oo at HNE HIS HC4
      clear HO HB3 HB2 HBX HBY
      obtain ⟨q0, q1, q2, q3, q4⟩ := row_cells HBX4.out
      refine (decode_of w4 _ L c3 oo HC4.out hcap3 HIS.out (by rw [HB4.out.cell (p := ⟨0, 0, none⟩) (by have := World.block_lt_of_cell? _ _ HGE.out; exact this)]; exact HGE.out)).mono ?_
      rintro e wa ⟨hb, ⟨z, zs, hd, rfl, hK⟩ | ⟨hd, kk, hk, rfl⟩⟩
      · obtain ⟨Z2, z2, Z3, z3, Z4, z4, rfl⟩ := K_lit hK
        obtain ⟨hi1, hi2, hi3, hi4⟩ := decode_inv HIS.out hd
        have hba := below_alloc (Below.refl wa.heap.size wa) (.cells #[.int .i64 z.f0, .bool z.f1, .slice Z2 z.f2.length z2, .slice Z3 z.f3.length z3, .slice Z4 z.f4.length z4] 26)
        have HBA := Lib.hid (HB4.out.trans ((hb.trans (hba.mono hb.size)).mono HB4.out.size))
        have HKA := Lib.hid (k26.K_below hba hK)
        have HBXA := Lib.hid ((hba.block gb (Nat.lt_of_lt_of_le (blk_lt HBX4.out) hb.size)).trans ((hb.block gb (blk_lt HBX4.out)).trans HBX4.out))
        have HZX : Hid ((wa.alloc (.cells #[.int .i64 z.f0, .bool z.f1, .slice Z2 z.f2.length z2, .slice Z3 z.f3.length z3, .slice Z4 z.f4.length z4] 26)).heap[wa.heap.size]? = some (.cells #[.int .i64 z.f0, .bool z.f1, .slice Z2 z.f2.length z2, .slice Z3 z.f3.length z3, .slice Z4 z.f4.length z4] 26 (0, 0))) := Lib.hid (heap_alloc_new _ _)
        have HI4 := Lib.hid hi4
        have HSM : Hid (sm z ⟨1, false, xs, [], []⟩ = false) := Lib.hid (sm_false fun h => HNE.out (hi1.trans (HDB.out z h)))
        clear hb hba hd hK hi1 hi2 hi3 hi4 q0 q1 q2 q3 q4
        generalize hwb : wa.alloc (.cells #[.int .i64 z.f0, .bool z.f1, .slice Z2 z.f2.length z2, .slice Z3 z.f3.length z3, .slice Z4 z.f4.length z4] 26) = wb at HBA HKA HBXA HZX
        generalize hgz : wa.heap.size = gz at HZX
        obtain ⟨p0, p1, p2, p3, p4⟩ := row_cells HZX.out
        obtain ⟨q0, q1, q2, q3, q4⟩ := row_cells HBXA.out
        have hsm := same_of wb z ⟨1, false, xs, [], []⟩ #[.int .i64 z.f0, .bool z.f1, .slice Z2 z.f2.length z2, .slice Z3 z.f3.length z3, .slice Z4 z.f4.length z4].toList [.int .i64 1, .bool false, .slice A n c, .slice none 0 0, .slice none 0 0] HKA.out (K_file wb false xs (Kd.C_below HCC.out HBA.out) HC.out) HI4.out
        rw [HSM.out] at hsm
        go_wp2_with (go_at_call 8; (try rw [hwb]); refine hsm.mono ?_; rintro e wz ⟨rfl, hb⟩; refine Hid.out ?_)
        refine Lib.hid ?_
        have HBZ := Lib.hid (HBA.out.trans (hb.mono HBA.out.size))
        clear hsm hb p0 p1 p2 p3 p4 q0 q1 q2 q3 q4 hwb hgz
        go_wp2_with fail
        go_ret
        exact ⟨rfl, HBZ.out⟩
      · have HBA := Lib.hid (HB4.out.trans ((hb.trans ((below_alloc (Below.refl wa.heap.size wa) (.cells #[.int .i64 0, .bool false, .slice none 0 0, .slice none 0 0, .slice none 0 0] 26)).mono hb.size)).mono HB4.out.size))
        have b0 : (kk == 0) = false := by simpa using hk
        have b1 : (kk != 0) = true := by simpa using hk
        clear hb hd
        go_wp2_with fail
        go_ret
        exact ⟨rfl, HBA.out⟩
    · have hl : (L : Int) = 96 + ((n : Int) + 7) / 8 * 8 + 16 + 24 + 8 := by have := HLEN.out; simp at this; omega
      go_upto_region 10 with fail
      clear hl
      go_upto_region 11 with fail
      obtain ⟨hk0, hk1⟩ := turn_bound at_ L hL0 hL1
      generalize (wrap64 (at_.tmod (8 * (L : Int)) + 8 * (L : Int))).tmod (8 * (L : Int)) = k at hk0 hk1 ⊢
      have hro : ReadsInt (w2.alloc (.cells #[] 5)) .u8 (some ⟨g, 0, none⟩) L ar := by
        have h1 := (HBY.out.below (below_alloc (Below.refl _ _) (.cells #[] 5)))
        refine ⟨HLL.out, by omega, fun _ => ⟨⟨g, 0, none⟩, rfl, fun j hj => ?_⟩⟩
        have := h1.at_ j hj
        rw [Nat.zero_add] at this
        rw [add_plain]
        exact this
      have hol : (w2.alloc (.cells #[] 5)).ownsRow w2.heap.size 5 1 (.slice (some ⟨w2.heap.size, 0, none⟩) 0 0) 0 (nums .u8 []) := own_lit w2 w2.heap.size 5 .u8 [] (Nat.le_refl _) (by simp)
      go_wp2_with (refine print_append_row (w0 := w2) w2.heap.size rfl (.tmp 59) (.tmp 60) 22 5 .u8 1 rfl Tryd.underlying22 (by kernel_rfl) (by decide) _ [] ar _ L cap rfl rfl hol hro (below_alloc (Below.refl _ _) _) (by simp) (by simp; omega) ?_; intro v1 w3 ho hb hg hat; refine Hid.out ?_)
      refine Lib.hid ?_
      rw [List.nil_append, HLL.out] at ho
      obtain ⟨g3, c3, rfl, hgb3, hgl3⟩ := ho.form hL0
      have HO := Lib.hid ho
      have HB3 := Lib.hid hb
      have hcap3 : L ≤ c3 := by
        rcases ho.2 with ⟨e, _⟩ | ⟨g', cap', cur, e, _, _, h1, _⟩
        · cases e
        · injection e with _ _ e3; rw [e3]; exact h1
      clear ho hb hg hat hro hol
      go_upto_region 12 with fail
      obtain ⟨hx3, hf3⟩ := own_at HO.out (k / 8) (by omega) (by omega)
      have hk8 : k / 8 < (L : Int) := by omega
      have hk80 : 0 ≤ k / 8 := by omega
      go_wp2_with (go_at_call 7; refine Hid.out ?_)
      refine Lib.hid ?_
      have hrd : rd ar (k / 8) = ar.getD (k / 8).toNat 0 := rfl
      obtain ⟨b0, b1⟩ := HIX.out.getD (k / 8).toNat
      obtain ⟨v0, v1, v2⟩ := xor_turn (rd ar (k / 8)) (k % 8).toNat (by rw [hrd]; exact b0) (by rw [hrd]; exact b1) (by omega)
      rw [hrd] at v0 v1 v2 hx3 ⊢
      generalize hv : bits .xor .u8 (ar.getD (k / 8).toNat 0) (2 ^ (k % 8).toNat % 256) = v at v0 v1 v2 ⊢
      obtain ⟨hs1, hs2⟩ := own_store HO.out (k / 8) v
      have HNE := Lib.hid (set_ne (l := ar) (i := (k / 8).toNat) (v := v) (by rw [HLL.out]; omega) v2)
      have HIS := Lib.hid (inB_set (i := (k / 8).toNat) HIX.out v0 v1)
      have hg3 : w2.heap.size ≤ g3 := own_base HO.out g3 rfl
      have hbw : Below w.heap.size w (w3.setCell ⟨g3, (k / 8).toNat, none⟩ (.int .u8 v)) := below_set (HB2.out.trans (HB3.out.mono HB2.out.size)) (by have := HB2.out.size; show w.heap.size ≤ g3; omega) _
      have hbx4 : (w3.setCell ⟨g3, (k / 8).toNat, none⟩ (.int .u8 v)).heap[gb]? = some (.cells #[.int .i64 1, .bool true, .slice A n c, .slice none 0 0, .slice none 0 0] 26 (0, 0)) := by
        have h2 := blk_lt HBX.out
        rw [Below.heap_setCell _ ⟨g3, (k / 8).toNat, none⟩ _ gb (by show gb ≠ g3; omega), HB3.out.block gb h2]
        exact HBX.out
      have HBX4 := Lib.hid hbx4
      have HB4 := Lib.hid hbw
      obtain ⟨A', c', e', hri⟩ := own_reads hs1
      injection e' with e1 _ e3
      subst e1
      subst e3
      have HC4 := Lib.hid (Kd.C_of_reads (enc := Value.int .u8) (d := (0 : Int)) (h1 := fun _ => rfl) hri)
      clear hs1 hs2 hbw hbx4 hri hx3 hf3 b0 b1 v0 v1 v2 hrd hv
      generalize w3.setCell ⟨g3, (k / 8).toNat, none⟩ (.int .u8 v) = w4 at HBX4 HB4 HC4 ⊢
      generalize ar.set (k / 8).toNat v = oo at HNE HIS HC4
      clear HO HB3 HB2 HBX HBY
      obtain ⟨q0, q1, q2, q3, q4⟩ := row_cells HBX4.out
      refine (decode_of w4 _ L c3 oo HC4.out hcap3 HIS.out (by rw [HB4.out.cell (p := ⟨0, 0, none⟩) (by have := World.block_lt_of_cell? _ _ HGE.out; exact this)]; exact HGE.out)).mono ?_
      rintro e wa ⟨hb, ⟨z, zs, hd, rfl, hK⟩ | ⟨hd, kk, hk, rfl⟩⟩
      · obtain ⟨Z2, z2, Z3, z3, Z4, z4, rfl⟩ := K_lit hK
        obtain ⟨hi1, hi2, hi3, hi4⟩ := decode_inv HIS.out hd
        have hba := below_alloc (Below.refl wa.heap.size wa) (.cells #[.int .i64 z.f0, .bool z.f1, .slice Z2 z.f2.length z2, .slice Z3 z.f3.length z3, .slice Z4 z.f4.length z4] 26)
        have HBA := Lib.hid (HB4.out.trans ((hb.trans (hba.mono hb.size)).mono HB4.out.size))
        have HKA := Lib.hid (k26.K_below hba hK)
        have HBXA := Lib.hid ((hba.block gb (Nat.lt_of_lt_of_le (blk_lt HBX4.out) hb.size)).trans ((hb.block gb (blk_lt HBX4.out)).trans HBX4.out))
        have HZX : Hid ((wa.alloc (.cells #[.int .i64 z.f0, .bool z.f1, .slice Z2 z.f2.length z2, .slice Z3 z.f3.length z3, .slice Z4 z.f4.length z4] 26)).heap[wa.heap.size]? = some (.cells #[.int .i64 z.f0, .bool z.f1, .slice Z2 z.f2.length z2, .slice Z3 z.f3.length z3, .slice Z4 z.f4.length z4] 26 (0, 0))) := Lib.hid (heap_alloc_new _ _)
        have HI4 := Lib.hid hi4
        have HSM : Hid (sm z ⟨1, true, xs, [], []⟩ = false) := Lib.hid (sm_false fun h => HNE.out (hi1.trans (HDB.out z h)))
        clear hb hba hd hK hi1 hi2 hi3 hi4 q0 q1 q2 q3 q4
        generalize hwb : wa.alloc (.cells #[.int .i64 z.f0, .bool z.f1, .slice Z2 z.f2.length z2, .slice Z3 z.f3.length z3, .slice Z4 z.f4.length z4] 26) = wb at HBA HKA HBXA HZX
        generalize hgz : wa.heap.size = gz at HZX
        obtain ⟨p0, p1, p2, p3, p4⟩ := row_cells HZX.out
        obtain ⟨q0, q1, q2, q3, q4⟩ := row_cells HBXA.out
        have hsm := same_of wb z ⟨1, true, xs, [], []⟩ #[.int .i64 z.f0, .bool z.f1, .slice Z2 z.f2.length z2, .slice Z3 z.f3.length z3, .slice Z4 z.f4.length z4].toList [.int .i64 1, .bool true, .slice A n c, .slice none 0 0, .slice none 0 0] HKA.out (K_file wb true xs (Kd.C_below HCC.out HBA.out) HC.out) HI4.out
        rw [HSM.out] at hsm
        go_wp2_with (go_at_call 8; (try rw [hwb]); refine hsm.mono ?_; rintro e wz ⟨rfl, hb⟩; refine Hid.out ?_)
        refine Lib.hid ?_
        have HBZ := Lib.hid (HBA.out.trans (hb.mono HBA.out.size))
        clear hsm hb p0 p1 p2 p3 p4 q0 q1 q2 q3 q4 hwb hgz
        go_wp2_with fail
        go_ret
        exact ⟨rfl, HBZ.out⟩
      · have HBA := Lib.hid (HB4.out.trans ((hb.trans ((below_alloc (Below.refl wa.heap.size wa) (.cells #[.int .i64 0, .bool false, .slice none 0 0, .slice none 0 0, .slice none 0 0] 26)).mono hb.size)).mono HB4.out.size))
        have b0 : (kk == 0) = false := by simpa using hk
        have b1 : (kk != 0) = true := by simpa using hk
        clear hb hd
        go_wp2_with fail
        go_ret
        exact ⟨rfl, HBA.out⟩
  · exact absurd (right_file ex xs (by have := HCC.out.1; omega)) hr
set_option maxRecDepth 8000 in
set_option maxHeartbeats 8000000 in
theorem holds_big (w : World) (A : Option Addr) (m c : Nat) (xs : List Int) (ex : Bool) (at_ : Int) (hC : Kd.C (Kd.int .u8) w A 3000 xs) (hc : 3000 ≤ c) (hg : w.cell? ⟨0, 0, none⟩ = some (.iface 93 (.agg #[.pointer (some ⟨4, 50, none⟩)]))) (hm : 3000 < m) (hmc : m ≤ c) :
    Calls Tryd.prog 4 #[.slice A m c, .bool ex, .int .i64 at_] w fun e w' => e = .returned (.bool true) ∧ Below w.heap.size w w' := by
  have HCC := Lib.hid hC
  have HC := Lib.hid hc
  have HGE := Lib.hid hg
  have hcut := (cut_to A m c 3000 (by omega) hmc).1
  have hbig : (3000 : Int) < (m : Int) := by omega
  have hc3 : (3000 : Int) ≤ (c : Int) := by omega
  clear hC hc hg hm hmc
  go_enter Tryd.func4, Tryd.ntmps4
  have hen := encode_of (w.alloc (.cells #[.int .i64 1, .bool ex, .slice A 3000 c, .slice none 0 0, .slice none 0 0] 26)) ⟨1, ex, xs, [], []⟩ [.int .i64 1, .bool ex, .slice A 3000 c, .slice none 0 0, .slice none 0 0] (k26.K_below (below_alloc (Below.refl _ _) _) (K_file w ex xs HCC.out HC.out)) (fits_file ex xs (by have := HCC.out.1; omega))
  have hbx : (w.alloc (.cells #[.int .i64 1, .bool ex, .slice A 3000 c, .slice none 0 0, .slice none 0 0] 26)).heap[w.heap.size]? = some (.cells #[.int .i64 1, .bool ex, .slice A 3000 c, .slice none 0 0, .slice none 0 0] 26 (0, 0)) := heap_alloc_new _ _
  have hb1 := below_alloc (Below.refl w.heap.size w) (.cells #[.int .i64 1, .bool ex, .slice A 3000 c, .slice none 0 0, .slice none 0 0] 26)
  go_wp2_with (go_at_call 6; refine Hid.out ?_)
  refine Lib.hid ?_
  generalize w.alloc (.cells #[.int .i64 1, .bool ex, .slice A 3000 c, .slice none 0 0, .slice none 0 0] 26) = w1 at hen hbx hb1 ⊢
  generalize hgb : w.heap.size = gb at hbx ⊢
  have HGB := Lib.hid hgb
  clear hgb
  refine hen.mono ?_
  rintro e w2 ⟨hb, ⟨hr, g, cap, rfl, hcap, hby, hgl⟩ | ⟨hr, A9, c9, rfl⟩⟩
  · have hlen := arch_file ex xs
    rw [HCC.out.1] at hlen
    have HBX := Lib.hid ((hb.block gb (blk_lt hbx)).trans hbx)
    have HB2 := Lib.hid (hb1.trans (hb.mono hb1.size))
    have HBY := Lib.hid hby
    have HCAP := Lib.hid hcap
    have hinx := inB_arch ⟨1, ex, xs, [], []⟩
    have hdb : ∀ (z : S26), norm z = norm ⟨1, ex, xs, [], []⟩ → arch z = arch ⟨1, ex, xs, [], []⟩ := fun z h => arch_norm h
    have HIX := Lib.hid hinx
    have HDB := Lib.hid hdb
    generalize hal : arch ⟨1, ex, xs, [], []⟩ = ar at hlen HBY HCAP HIX HDB ⊢
    generalize hll : ar.length = L at hlen HBY HCAP ⊢
    have HLL := Lib.hid hll
    have hn3 : True := trivial
    have hL1 : L ≤ 4000 := by split at hlen <;> omega
    have hL0 : 0 < L := by split at hlen <;> omega
    have HLEN := Lib.hid hlen
    clear hen hb hbx hb1 hcap hby hgl hlen hinx hdb hal hll hr
    cases ex
    · have hl : (L : Int) = 3112 := by have := HLEN.out; simp at this; omega
      go_upto_region 10 with fail
      clear hl
      go_upto_region 11 with fail
      obtain ⟨hk0, hk1⟩ := turn_bound at_ L hL0 hL1
      generalize (wrap64 (at_.tmod (8 * (L : Int)) + 8 * (L : Int))).tmod (8 * (L : Int)) = k at hk0 hk1 ⊢
      have hro : ReadsInt (w2.alloc (.cells #[] 5)) .u8 (some ⟨g, 0, none⟩) L ar := by
        have h1 := (HBY.out.below (below_alloc (Below.refl _ _) (.cells #[] 5)))
        refine ⟨HLL.out, by omega, fun _ => ⟨⟨g, 0, none⟩, rfl, fun j hj => ?_⟩⟩
        have := h1.at_ j hj
        rw [Nat.zero_add] at this
        rw [add_plain]
        exact this
      have hol : (w2.alloc (.cells #[] 5)).ownsRow w2.heap.size 5 1 (.slice (some ⟨w2.heap.size, 0, none⟩) 0 0) 0 (nums .u8 []) := own_lit w2 w2.heap.size 5 .u8 [] (Nat.le_refl _) (by simp)
      go_wp2_with (refine print_append_row (w0 := w2) w2.heap.size rfl (.tmp 59) (.tmp 60) 22 5 .u8 1 rfl Tryd.underlying22 (by kernel_rfl) (by decide) _ [] ar _ L cap rfl rfl hol hro (below_alloc (Below.refl _ _) _) (by simp) (by simp; omega) ?_; intro v1 w3 ho hb hg hat; refine Hid.out ?_)
      refine Lib.hid ?_
      rw [List.nil_append, HLL.out] at ho
      obtain ⟨g3, c3, rfl, hgb3, hgl3⟩ := ho.form hL0
      have HO := Lib.hid ho
      have HB3 := Lib.hid hb
      have hcap3 : L ≤ c3 := by
        rcases ho.2 with ⟨e, _⟩ | ⟨g', cap', cur, e, _, _, h1, _⟩
        · cases e
        · injection e with _ _ e3; rw [e3]; exact h1
      clear ho hb hg hat hro hol
      go_upto_region 12 with fail
      obtain ⟨hx3, hf3⟩ := own_at HO.out (k / 8) (by omega) (by omega)
      have hk8 : k / 8 < (L : Int) := by omega
      have hk80 : 0 ≤ k / 8 := by omega
      go_wp2_with (go_at_call 7; refine Hid.out ?_)
      refine Lib.hid ?_
      have hrd : rd ar (k / 8) = ar.getD (k / 8).toNat 0 := rfl
      obtain ⟨b0, b1⟩ := HIX.out.getD (k / 8).toNat
      obtain ⟨v0, v1, v2⟩ := xor_turn (rd ar (k / 8)) (k % 8).toNat (by rw [hrd]; exact b0) (by rw [hrd]; exact b1) (by omega)
      rw [hrd] at v0 v1 v2 hx3 ⊢
      generalize hv : bits .xor .u8 (ar.getD (k / 8).toNat 0) (2 ^ (k % 8).toNat % 256) = v at v0 v1 v2 ⊢
      obtain ⟨hs1, hs2⟩ := own_store HO.out (k / 8) v
      have HNE := Lib.hid (set_ne (l := ar) (i := (k / 8).toNat) (v := v) (by rw [HLL.out]; omega) v2)
      have HIS := Lib.hid (inB_set (i := (k / 8).toNat) HIX.out v0 v1)
      have hg3 : w2.heap.size ≤ g3 := own_base HO.out g3 rfl
      have hbw : Below w.heap.size w (w3.setCell ⟨g3, (k / 8).toNat, none⟩ (.int .u8 v)) := below_set (HB2.out.trans (HB3.out.mono HB2.out.size)) (by have := HB2.out.size; show w.heap.size ≤ g3; omega) _
      have hbx4 : (w3.setCell ⟨g3, (k / 8).toNat, none⟩ (.int .u8 v)).heap[gb]? = some (.cells #[.int .i64 1, .bool false, .slice A 3000 c, .slice none 0 0, .slice none 0 0] 26 (0, 0)) := by
        have h2 := blk_lt HBX.out
        rw [Below.heap_setCell _ ⟨g3, (k / 8).toNat, none⟩ _ gb (by show gb ≠ g3; omega), HB3.out.block gb h2]
        exact HBX.out
      have HBX4 := Lib.hid hbx4
      have HB4 := Lib.hid hbw
      obtain ⟨A', c', e', hri⟩ := own_reads hs1
      injection e' with e1 _ e3
      subst e1
      subst e3
      have HC4 := Lib.hid (Kd.C_of_reads (enc := Value.int .u8) (d := (0 : Int)) (h1 := fun _ => rfl) hri)
      clear hs1 hs2 hbw hbx4 hri hx3 hf3 b0 b1 v0 v1 v2 hrd hv
      generalize w3.setCell ⟨g3, (k / 8).toNat, none⟩ (.int .u8 v) = w4 at HBX4 HB4 HC4 ⊢
      generalize ar.set (k / 8).toNat v = oo at HNE HIS HC4
      clear HO HB3 HB2 HBX HBY
      obtain ⟨q0, q1, q2, q3, q4⟩ := row_cells HBX4.out
      refine (decode_of w4 _ L c3 oo HC4.out hcap3 HIS.out (by rw [HB4.out.cell (p := ⟨0, 0, none⟩) (by have := World.block_lt_of_cell? _ _ HGE.out; exact this)]; exact HGE.out)).mono ?_
      rintro e wa ⟨hb, ⟨z, zs, hd, rfl, hK⟩ | ⟨hd, kk, hk, rfl⟩⟩
      · obtain ⟨Z2, z2, Z3, z3, Z4, z4, rfl⟩ := K_lit hK
        obtain ⟨hi1, hi2, hi3, hi4⟩ := decode_inv HIS.out hd
        have hba := below_alloc (Below.refl wa.heap.size wa) (.cells #[.int .i64 z.f0, .bool z.f1, .slice Z2 z.f2.length z2, .slice Z3 z.f3.length z3, .slice Z4 z.f4.length z4] 26)
        have HBA := Lib.hid (HB4.out.trans ((hb.trans (hba.mono hb.size)).mono HB4.out.size))
        have HKA := Lib.hid (k26.K_below hba hK)
        have HBXA := Lib.hid ((hba.block gb (Nat.lt_of_lt_of_le (blk_lt HBX4.out) hb.size)).trans ((hb.block gb (blk_lt HBX4.out)).trans HBX4.out))
        have HZX : Hid ((wa.alloc (.cells #[.int .i64 z.f0, .bool z.f1, .slice Z2 z.f2.length z2, .slice Z3 z.f3.length z3, .slice Z4 z.f4.length z4] 26)).heap[wa.heap.size]? = some (.cells #[.int .i64 z.f0, .bool z.f1, .slice Z2 z.f2.length z2, .slice Z3 z.f3.length z3, .slice Z4 z.f4.length z4] 26 (0, 0))) := Lib.hid (heap_alloc_new _ _)
        have HI4 := Lib.hid hi4
        have HSM : Hid (sm z ⟨1, false, xs, [], []⟩ = false) := Lib.hid (sm_false fun h => HNE.out (hi1.trans (HDB.out z h)))
        clear hb hba hd hK hi1 hi2 hi3 hi4 q0 q1 q2 q3 q4
        generalize hwb : wa.alloc (.cells #[.int .i64 z.f0, .bool z.f1, .slice Z2 z.f2.length z2, .slice Z3 z.f3.length z3, .slice Z4 z.f4.length z4] 26) = wb at HBA HKA HBXA HZX
        generalize hgz : wa.heap.size = gz at HZX
        obtain ⟨p0, p1, p2, p3, p4⟩ := row_cells HZX.out
        obtain ⟨q0, q1, q2, q3, q4⟩ := row_cells HBXA.out
        have hsm := same_of wb z ⟨1, false, xs, [], []⟩ #[.int .i64 z.f0, .bool z.f1, .slice Z2 z.f2.length z2, .slice Z3 z.f3.length z3, .slice Z4 z.f4.length z4].toList [.int .i64 1, .bool false, .slice A 3000 c, .slice none 0 0, .slice none 0 0] HKA.out (K_file wb false xs (Kd.C_below HCC.out HBA.out) HC.out) HI4.out
        rw [HSM.out] at hsm
        go_wp2_with (go_at_call 8; (try rw [hwb]); refine hsm.mono ?_; rintro e wz ⟨rfl, hb⟩; refine Hid.out ?_)
        refine Lib.hid ?_
        have HBZ := Lib.hid (HBA.out.trans (hb.mono HBA.out.size))
        clear hsm hb p0 p1 p2 p3 p4 q0 q1 q2 q3 q4 hwb hgz
        go_wp2_with fail
        go_ret
        exact ⟨rfl, HBZ.out⟩
      · have HBA := Lib.hid (HB4.out.trans ((hb.trans ((below_alloc (Below.refl wa.heap.size wa) (.cells #[.int .i64 0, .bool false, .slice none 0 0, .slice none 0 0, .slice none 0 0] 26)).mono hb.size)).mono HB4.out.size))
        have b0 : (kk == 0) = false := by simpa using hk
        have b1 : (kk != 0) = true := by simpa using hk
        clear hb hd
        go_wp2_with fail
        go_ret
        exact ⟨rfl, HBA.out⟩
    · have hl : (L : Int) = 3144 := by have := HLEN.out; simp at this; omega
      go_upto_region 10 with fail
      clear hl
      go_upto_region 11 with fail
      obtain ⟨hk0, hk1⟩ := turn_bound at_ L hL0 hL1
      generalize (wrap64 (at_.tmod (8 * (L : Int)) + 8 * (L : Int))).tmod (8 * (L : Int)) = k at hk0 hk1 ⊢
      have hro : ReadsInt (w2.alloc (.cells #[] 5)) .u8 (some ⟨g, 0, none⟩) L ar := by
        have h1 := (HBY.out.below (below_alloc (Below.refl _ _) (.cells #[] 5)))
        refine ⟨HLL.out, by omega, fun _ => ⟨⟨g, 0, none⟩, rfl, fun j hj => ?_⟩⟩
        have := h1.at_ j hj
        rw [Nat.zero_add] at this
        rw [add_plain]
        exact this
      have hol : (w2.alloc (.cells #[] 5)).ownsRow w2.heap.size 5 1 (.slice (some ⟨w2.heap.size, 0, none⟩) 0 0) 0 (nums .u8 []) := own_lit w2 w2.heap.size 5 .u8 [] (Nat.le_refl _) (by simp)
      go_wp2_with (refine print_append_row (w0 := w2) w2.heap.size rfl (.tmp 59) (.tmp 60) 22 5 .u8 1 rfl Tryd.underlying22 (by kernel_rfl) (by decide) _ [] ar _ L cap rfl rfl hol hro (below_alloc (Below.refl _ _) _) (by simp) (by simp; omega) ?_; intro v1 w3 ho hb hg hat; refine Hid.out ?_)
      refine Lib.hid ?_
      rw [List.nil_append, HLL.out] at ho
      obtain ⟨g3, c3, rfl, hgb3, hgl3⟩ := ho.form hL0
      have HO := Lib.hid ho
      have HB3 := Lib.hid hb
      have hcap3 : L ≤ c3 := by
        rcases ho.2 with ⟨e, _⟩ | ⟨g', cap', cur, e, _, _, h1, _⟩
        · cases e
        · injection e with _ _ e3; rw [e3]; exact h1
      clear ho hb hg hat hro hol
      go_upto_region 12 with fail
      obtain ⟨hx3, hf3⟩ := own_at HO.out (k / 8) (by omega) (by omega)
      have hk8 : k / 8 < (L : Int) := by omega
      have hk80 : 0 ≤ k / 8 := by omega
      go_wp2_with (go_at_call 7; refine Hid.out ?_)
      refine Lib.hid ?_
      have hrd : rd ar (k / 8) = ar.getD (k / 8).toNat 0 := rfl
      obtain ⟨b0, b1⟩ := HIX.out.getD (k / 8).toNat
      obtain ⟨v0, v1, v2⟩ := xor_turn (rd ar (k / 8)) (k % 8).toNat (by rw [hrd]; exact b0) (by rw [hrd]; exact b1) (by omega)
      rw [hrd] at v0 v1 v2 hx3 ⊢
      generalize hv : bits .xor .u8 (ar.getD (k / 8).toNat 0) (2 ^ (k % 8).toNat % 256) = v at v0 v1 v2 ⊢
      obtain ⟨hs1, hs2⟩ := own_store HO.out (k / 8) v
      have HNE := Lib.hid (set_ne (l := ar) (i := (k / 8).toNat) (v := v) (by rw [HLL.out]; omega) v2)
      have HIS := Lib.hid (inB_set (i := (k / 8).toNat) HIX.out v0 v1)
      have hg3 : w2.heap.size ≤ g3 := own_base HO.out g3 rfl
      have hbw : Below w.heap.size w (w3.setCell ⟨g3, (k / 8).toNat, none⟩ (.int .u8 v)) := below_set (HB2.out.trans (HB3.out.mono HB2.out.size)) (by have := HB2.out.size; show w.heap.size ≤ g3; omega) _
      have hbx4 : (w3.setCell ⟨g3, (k / 8).toNat, none⟩ (.int .u8 v)).heap[gb]? = some (.cells #[.int .i64 1, .bool true, .slice A 3000 c, .slice none 0 0, .slice none 0 0] 26 (0, 0)) := by
        have h2 := blk_lt HBX.out
        rw [Below.heap_setCell _ ⟨g3, (k / 8).toNat, none⟩ _ gb (by show gb ≠ g3; omega), HB3.out.block gb h2]
        exact HBX.out
      have HBX4 := Lib.hid hbx4
      have HB4 := Lib.hid hbw
      obtain ⟨A', c', e', hri⟩ := own_reads hs1
      injection e' with e1 _ e3
      subst e1
      subst e3
      have HC4 := Lib.hid (Kd.C_of_reads (enc := Value.int .u8) (d := (0 : Int)) (h1 := fun _ => rfl) hri)
      clear hs1 hs2 hbw hbx4 hri hx3 hf3 b0 b1 v0 v1 v2 hrd hv
      generalize w3.setCell ⟨g3, (k / 8).toNat, none⟩ (.int .u8 v) = w4 at HBX4 HB4 HC4 ⊢
      generalize ar.set (k / 8).toNat v = oo at HNE HIS HC4
      clear HO HB3 HB2 HBX HBY
      obtain ⟨q0, q1, q2, q3, q4⟩ := row_cells HBX4.out
      refine (decode_of w4 _ L c3 oo HC4.out hcap3 HIS.out (by rw [HB4.out.cell (p := ⟨0, 0, none⟩) (by have := World.block_lt_of_cell? _ _ HGE.out; exact this)]; exact HGE.out)).mono ?_
      rintro e wa ⟨hb, ⟨z, zs, hd, rfl, hK⟩ | ⟨hd, kk, hk, rfl⟩⟩
      · obtain ⟨Z2, z2, Z3, z3, Z4, z4, rfl⟩ := K_lit hK
        obtain ⟨hi1, hi2, hi3, hi4⟩ := decode_inv HIS.out hd
        have hba := below_alloc (Below.refl wa.heap.size wa) (.cells #[.int .i64 z.f0, .bool z.f1, .slice Z2 z.f2.length z2, .slice Z3 z.f3.length z3, .slice Z4 z.f4.length z4] 26)
        have HBA := Lib.hid (HB4.out.trans ((hb.trans (hba.mono hb.size)).mono HB4.out.size))
        have HKA := Lib.hid (k26.K_below hba hK)
        have HBXA := Lib.hid ((hba.block gb (Nat.lt_of_lt_of_le (blk_lt HBX4.out) hb.size)).trans ((hb.block gb (blk_lt HBX4.out)).trans HBX4.out))
        have HZX : Hid ((wa.alloc (.cells #[.int .i64 z.f0, .bool z.f1, .slice Z2 z.f2.length z2, .slice Z3 z.f3.length z3, .slice Z4 z.f4.length z4] 26)).heap[wa.heap.size]? = some (.cells #[.int .i64 z.f0, .bool z.f1, .slice Z2 z.f2.length z2, .slice Z3 z.f3.length z3, .slice Z4 z.f4.length z4] 26 (0, 0))) := Lib.hid (heap_alloc_new _ _)
        have HI4 := Lib.hid hi4
        have HSM : Hid (sm z ⟨1, true, xs, [], []⟩ = false) := Lib.hid (sm_false fun h => HNE.out (hi1.trans (HDB.out z h)))
        clear hb hba hd hK hi1 hi2 hi3 hi4 q0 q1 q2 q3 q4
        generalize hwb : wa.alloc (.cells #[.int .i64 z.f0, .bool z.f1, .slice Z2 z.f2.length z2, .slice Z3 z.f3.length z3, .slice Z4 z.f4.length z4] 26) = wb at HBA HKA HBXA HZX
        generalize hgz : wa.heap.size = gz at HZX
        obtain ⟨p0, p1, p2, p3, p4⟩ := row_cells HZX.out
        obtain ⟨q0, q1, q2, q3, q4⟩ := row_cells HBXA.out
        have hsm := same_of wb z ⟨1, true, xs, [], []⟩ #[.int .i64 z.f0, .bool z.f1, .slice Z2 z.f2.length z2, .slice Z3 z.f3.length z3, .slice Z4 z.f4.length z4].toList [.int .i64 1, .bool true, .slice A 3000 c, .slice none 0 0, .slice none 0 0] HKA.out (K_file wb true xs (Kd.C_below HCC.out HBA.out) HC.out) HI4.out
        rw [HSM.out] at hsm
        go_wp2_with (go_at_call 8; (try rw [hwb]); refine hsm.mono ?_; rintro e wz ⟨rfl, hb⟩; refine Hid.out ?_)
        refine Lib.hid ?_
        have HBZ := Lib.hid (HBA.out.trans (hb.mono HBA.out.size))
        clear hsm hb p0 p1 p2 p3 p4 q0 q1 q2 q3 q4 hwb hgz
        go_wp2_with fail
        go_ret
        exact ⟨rfl, HBZ.out⟩
      · have HBA := Lib.hid (HB4.out.trans ((hb.trans ((below_alloc (Below.refl wa.heap.size wa) (.cells #[.int .i64 0, .bool false, .slice none 0 0, .slice none 0 0, .slice none 0 0] 26)).mono hb.size)).mono HB4.out.size))
        have b0 : (kk == 0) = false := by simpa using hk
        have b1 : (kk != 0) = true := by simpa using hk
        clear hb hd
        go_wp2_with fail
        go_ret
        exact ⟨rfl, HBA.out⟩
  · exact absurd (right_file ex xs (by have := HCC.out.1; omega)) hr
theorem holds_walk (w : World) (A : Option Addr) (n c : Nat) (xs : List Int) (ex : Bool) (at_ : Int) (hC : Kd.C (Kd.int .u8) w A n xs) (hc : n ≤ c) (hin : inB xs) (hat : (Lit.int .i64 at_).wf = true) (hg : w.cell? ⟨0, 0, none⟩ = some (.iface 93 (.agg #[.pointer (some ⟨4, 50, none⟩)]))) :
    Calls Tryd.prog 4 #[.slice A n c, .bool ex, .int .i64 at_] w fun e w' => e = .returned (.bool true) ∧ Below w.heap.size w w' := by
  by_cases h : n ≤ 3000
  · exact holds_small w A n c xs ex at_ hC hc hg h
  · exact holds_big w A n c (xs.take 3000) ex at_ (C_sub hC (by omega)) (by omega) hg (by omega) hc
end Go.Proofs.YtdehcojmgmjcmaaDoor
