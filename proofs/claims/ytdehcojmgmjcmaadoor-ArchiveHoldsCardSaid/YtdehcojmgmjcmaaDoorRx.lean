/- reader.next, walked. -/
import Derived.Test.YtdehcojmgmjcmaaDoorRt
import Derived.Laws.Slices
import Derived.Lib.BufferOwn
namespace Go.Proofs.YtdehcojmgmjcmaaDoor
set_option linter.unusedVariables false
set_option linter.unusedSimpArgs false
open Go.RowKit QArchiveBack Go.Proofs.YtdehcojmgmjcmaaDoorW.PrintWords Go.Proofs.YtdehcojmgmjcmaaDoorW.PrintLast Go.Proofs.YtdehcojmgmjcmaaDoorW.PrintMore
theorem bv_pad (x : BitVec 64) : x &&& ~~~(7#64) = (x >>> 3) <<< 3 := by
  have key : ∀ i : Fin 64, (7#64).getLsbD i = decide (i.val < 3) := by decide
  apply BitVec.eq_of_getLsbD_eq
  intro i hi
  rw [BitVec.getLsbD_and, BitVec.getLsbD_not, BitVec.getLsbD_shiftLeft, BitVec.getLsbD_ushiftRight, key ⟨i, hi⟩]
  by_cases h : i < 3
  · simp [h, hi]
  · simp [h, hi]
    congr 1
    omega
theorem bv_pad_nat (n : Nat) (h : n < 2 ^ 62) : (BitVec.ofInt 64 (n : Int) &&& ~~~(BitVec.ofInt 64 7)).toNat = n / 8 * 8 := by
  have e : (BitVec.ofInt 64 7) = 7#64 := by decide
  rw [e, bv_pad, BitVec.toNat_shiftLeft, BitVec.toNat_ushiftRight, BitVec.toNat_ofInt, Nat.shiftRight_eq_div_pow, Nat.shiftLeft_eq]
  omega
theorem pad_up (n : Nat) (h : n < 2305843009213693952) : bits .andNot .i64 ((n : Int) + 7) 7 = ((n + padN n : Nat) : Int) := by
  have e : ((n : Int) + 7) = ((n + 7 : Nat) : Int) := by omega
  show IntKind.i64.wrap ((BitVec.ofInt 64 ((n : Int) + 7) &&& ~~~BitVec.ofInt 64 7).toNat : Int) = _
  rw [e, bv_pad_nat _ (by omega), IntKind.wrap_i64]
  unfold padN
  omega
theorem C_move {A : Option Addr} {n : Nat} {xs : List Int} {w w' : World} (h : Kd.C (Kd.int .u8) w A n xs) (hm : ∀ ad j, A = some ad → w'.cell? (ad.add j) = w.cell? (ad.add j)) : Kd.C (Kd.int .u8) w' A n xs := by
  obtain ⟨h1, h2, h3⟩ := h
  refine ⟨h1, h2, fun hn => ?_⟩
  obtain ⟨ad, rfl, hc⟩ := h3 hn
  refine ⟨ad, rfl, fun j p hp => ?_⟩
  obtain ⟨c, a1, a2, a3⟩ := hc j p hp
  exact ⟨c, a1, a2, fun i u hu => (hm ad _ rfl).trans (a3 i u hu)⟩
theorem add_block (ad : Addr) (i : Nat) : (ad.add i).block = ad.block := by unfold Addr.add; split <;> rfl
theorem C_setCell {A : Option Addr} {n : Nat} {xs : List Int} {w : World} (h : Kd.C (Kd.int .u8) w A n xs) {p : Addr} (hp : ∀ ad, A = some ad → ad.block ≠ p.block) (u : Value) : Kd.C (Kd.int .u8) (w.setCell p u) A n xs :=
  C_move h fun ad j e => World.cell?_of_block (Below.heap_setCell w p u _ (by rw [add_block]; exact hp ad e))
/-- cut8, and where what is cut lies -/
theorem cut8' (A : Option Addr) (n c m : Nat) (hm : m ≤ n) (hc : n ≤ c) : ∃ A' : Option Addr, (∀ W, (Instr.slice 22 (.slice A n c) (some (.int .i64 (m : Int))) none none).run Tryd.prog W = .ok (.slice A' (n - m) (c - m)) W) ∧
    (∀ (w : World) (xs : List Int), Kd.C (Kd.int .u8) w A n xs → Kd.C (Kd.int .u8) w A' (n - m) (xs.drop m)) ∧ ∀ b, (∀ ad, A = some ad → ad.block < b) → ∀ ad, A' = some ad → ad.block < b := by
  have he : Tryd.prog.elem 22 = 5 := by kernel_rfl
  refine ⟨if c = m then A else A.map (·.add m), fun W => ?_, fun w xs h => ?_, fun b hb ad e => ?_⟩
  · rw [run_slice_l W 22 A n c (by rw [he]; exact Tryd.underlying22) .i64 (m : Int) (by omega) (by omega), he, Tryd.sizeOf5]
    simp [sliced]
  · obtain rfl := h.1
    have := Kd.C_drop (k := Kd.int .u8) (m := m) (c := c) h hm hc
    rw [List.length_drop] at this
    simpa [Kd.int, Kd.scalar] using this
  · split at e
    · exact hb ad e
    · obtain ⟨a, rfl, rfl⟩ := Option.map_eq_some_iff.1 e
      rw [add_block]; exact hb a rfl
/-- what lies between m and q -/
theorem cutm (A : Option Addr) (n c m q : Nat) (hm : m ≤ q) (hq : q ≤ n) (hc : n ≤ c) : ∃ A' : Option Addr, (∀ W, (Instr.slice 22 (.slice A n c) (some (.int .i64 (m : Int))) (some (.int .i64 (q : Int))) none).run Tryd.prog W = .ok (.slice A' (q - m) (c - m)) W) ∧
    ∀ (w : World) (xs : List Int), Kd.C (Kd.int .u8) w A n xs → Kd.C (Kd.int .u8) w A' (q - m) ((xs.drop m).take (q - m)) := by
  have he : Tryd.prog.elem 22 = 5 := by kernel_rfl
  refine ⟨if c = m then A else A.map (·.add m), fun W => ?_, fun w xs h => ?_⟩
  · rw [run_slice_lh W 22 A n c (by rw [he]; exact Tryd.underlying22) .i64 .i64 (m : Int) (q : Int) (by omega) (by omega) (by omega), he, Tryd.sizeOf5]
    simp [sliced]
  · obtain rfl := h.1
    have := Kd.C_drop (k := Kd.int .u8) (m := m) (c := c) h (by omega) hc
    rw [List.length_drop] at this
    refine C_sub ?_ (by omega : q - m ≤ xs.length - m)
    simpa [Kd.int, Kd.scalar] using this
/-- the reader at block rb: the bytes that are left are l -/
structure RD (w : World) (rb : Nat) (long : Nat) (l : List Int) : Prop where
  mk ::
  st : ∃ A c, w.heap[rb]? = some (.cells #[.slice A l.length c, .int .i64 long] 54 (0, 0)) ∧ l.length ≤ c ∧ Kd.C (Kd.int .u8) w A l.length l ∧ (∀ ad, A = some ad → 0 < l.length → ad.block < rb)
  le : l.length ≤ long
  max : long ≤ 1048576
  inb : inB l
theorem RD.below {w w' : World} {rb long : Nat} {l : List Int} (h : RD w rb long l) (hb : Below w.heap.size w w') : RD w' rb long l := by
  obtain ⟨⟨A, c, h1, h2, h3, h4⟩, a, b, d⟩ := h
  exact ⟨⟨A, c, (hb.block rb (blk_lt h1)).trans h1, h2, Kd.C_below h3 hb, h4⟩, a, b, d⟩
theorem C_nil' {w w' : World} {A : Option Addr} {xs : List Int} (h : Kd.C (Kd.int .u8) w A xs.length xs) (h0 : ¬ 0 < xs.length) : Kd.C (Kd.int .u8) w' A xs.length xs := ⟨rfl, h.2.1, fun hp => absurd hp h0⟩
/-- what is turned lies above the reader -/
theorem RD.move {w w' : World} {rb long : Nat} {l : List Int} (h : RD w rb long l) (hb : ∀ k, k ≤ rb → w'.heap[k]? = w.heap[k]?) : RD w' rb long l := by
  obtain ⟨⟨A, c, h1, h2, h3, h4⟩, a, b, d⟩ := h
  refine ⟨⟨A, c, (hb rb (Nat.le_refl _)).trans h1, h2, ?_, h4⟩, a, b, d⟩
  by_cases h0 : 0 < l.length
  · exact C_move h3 fun ad j e => World.cell?_of_block (by rw [add_block]; exact hb _ (Nat.le_of_lt (h4 ad e h0)))
  · exact C_nil' h3 h0
def flt (k : Int) : Value := .iface 57 (.agg #[.int .i64 k])
/-- what next hands back -/
def NextPost (w : World) (rb long : Nat) (l : List Int) (e : Ending) (w' : World) : Prop :=
  w.grownBy w' (some rb) ∧ ((∃ s r, rnext l = some (s, r) ∧ e = .returned (.tuple #[.string s, .nilIface]) ∧ RD w' rb long r) ∨ (rnext l = none ∧ ∃ k, k ≠ 0 ∧ e = .returned (.tuple #[.string ⟨#[]⟩, flt k])))
set_option maxRecDepth 20000 in
set_option maxHeartbeats 4000000 in
theorem next_of (w : World) (rb long : Nat) (l : List Int) (h : RD w rb long l) : Calls Tryd.prog 32 #[.pointer (some ⟨rb, 0, none⟩)] w fun e w' => NextPost w rb long l e w' := by
  obtain ⟨⟨A, c, h1, h2, h3, h4⟩, hle, hmax, hin⟩ := h
  have q0 := cell_of_row w rb 0 _ _ _ h1
  have q1 := cell_of_row w rb 1 _ _ _ h1
  simp only [List.getElem?_toArray, List.getElem?_cons_succ, List.getElem?_cons_zero] at q0 q1
  have H1 := Lib.hid h1
  have H3 := Lib.hid h3
  clear h1 h3
  go_enter Tryd.func32, Tryd.ntmps32
  obtain ⟨m, hm⟩ : ∃ m, m = min 8 l.length := ⟨_, rfl⟩
  obtain ⟨v, b, hnum, hvb⟩ : ∃ v b, bits_Number.f 11 (l.take m) = some (v, b) ∧ (8 ≤ l.length → b = 0 ∧ v = num 0 (l.take 8) ∧ m = 8) := by
    by_cases h0 : l.length = 0
    · refine ⟨0, 2, ?_, fun h => absurd h (by omega)⟩
      rw [List.eq_nil_of_length_eq_zero h0, List.take_nil]; exact number_nil
    · refine ⟨num 0 (l.take m), 0, number_f _ (by rw [List.length_take]; omega) (by rw [List.length_take]; omega) (fun x hx => hin x (List.mem_of_mem_take hx)), fun h => ⟨rfl, by rw [show m = 8 by omega], by omega⟩⟩
  have hmi : min 8 (l.length : Int) = (m : Int) := by omega
  obtain ⟨hc1, hc2⟩ := cut_to A l.length c m (by omega) h2
  have h0m : 0 ≤ min 8 (l.length : Int) := by omega
  have hmc : min 8 (l.length : Int) ≤ (c : Int) := by omega
  have htn : (min 8 (l.length : Int)).toNat = m := by omega
  clear hc1 hmi
  have hCm : ∀ k, Kd.C (Kd.int .u8) (w.drewN k) A (l.take m).length (l.take m) := fun k => by
    have := Kd.C_below (hc2 w l H3.out) (pw_below_drewN (Below.refl _ _) k)
    rw [List.length_take, Nat.min_eq_left (by omega)]
    exact this
  have hlm : (l.take m).length = m := by rw [List.length_take, Nat.min_eq_left (by omega)]
  have hN : ∀ k, Calls Tryd.prog 44 #[.slice A m c] (w.drewN k) fun e w' => e = .returned (.tuple #[.int .u64 v, .int .i64 b]) ∧ ∃ j, w' = w.drewN j := fun k => by
    have := bits_Number.calls 11 A c (l.take m) v b _ (hCm k) (by rw [hlm]; omega) hnum
    rw [hlm] at this
    exact Calls.quiet_of (this.mono fun e w' h => ⟨h.1, h.2.out⟩)
  have HM := Lib.hid hm
  have HN := Lib.hid hN
  clear hm hlm
  clear hN hCm hc2
  go_wp2_with fail
  go_quiet ((go_at_call 44; exact HN.out _))
  have HG : Hid (w.grownBy (w.drewN nq) (some rb)) := Lib.hid (grown_of_below (pw_below_drewN (Below.refl _ _) nq) _)
  have H12 : Hid ((w.drewN nq).heap[rb]? = some (.cells #[.slice A l.length c, .int .i64 long] 54 (0, 0))) := by rw [World.heap_drewN]; exact H1
  have H32 : Hid (Kd.C (Kd.int .u8) (w.drewN nq) A l.length l) := Lib.hid (Kd.C_below H3.out (pw_below_drewN (Below.refl _ _) nq))
  have HNUM := Lib.hid hnum
  have HVB := Lib.hid hvb
  have HIN := Lib.hid hin
  have H4 := Lib.hid h4
  clear hnum hvb h0m hmc htn q0 q1 H1 H3 HN hin h4
  generalize w.drewN nq = w2 at HG H12 H32 ⊢
  have q0 := cell_of_row w2 rb 0 _ _ _ H12.out
  have q1 := cell_of_row w2 rb 1 _ _ _ H12.out
  simp only [List.getElem?_toArray, List.getElem?_cons_succ, List.getElem?_cons_zero] at q0 q1
  by_cases h8 : l.length < 8
  · have hrn : Hid (rnext l = none) := Lib.hid (by unfold rnext; rw [if_pos h8])
    have h8' : (l.length : Int) < 8 := by omega
    by_cases hb : b = 0
    · subst hb
      go_wp2_with fail
      go_ret2
      exact ⟨HG.out, Or.inr ⟨hrn.out, 11, by decide, rfl⟩⟩
    · go_wp2_with fail
      go_ret2
      exact ⟨HG.out, Or.inr ⟨hrn.out, 11, by decide, rfl⟩⟩
  · obtain ⟨rfl, hv, rfl⟩ := HVB.out (by omega)
    have hv0 : 0 ≤ v := by rw [hv]; exact (be8_num _ (by rw [List.length_take]; omega) (fun x hx => HIN.out x (List.mem_of_mem_take hx))).2
    have hrl : Hid (rlong l = v.toNat) := Lib.hid (by unfold rlong; rw [hv])
    have h8' : ¬ (l.length : Int) < 8 := by omega
    clear hv HVB HM HNUM
    by_cases hlong : (long : Int) < v
    · have hrn : Hid (rnext l = none) := Lib.hid (by unfold rnext; rw [if_neg h8, hrl.out, if_pos (by omega)])
      go_wp2_with fail
      go_ret2
      exact ⟨HG.out, Or.inr ⟨hrn.out, 10, by decide, rfl⟩⟩
    · obtain ⟨n, rfl⟩ := Int.eq_ofNat_of_zero_le hv0
      rw [Int.toNat_natCast] at hrl
      have hnm : n ≤ 1048576 := by omega
      have hpn : padN n < 8 := Nat.mod_lt _ (by decide)
      obtain ⟨A1, hcut1, hA1, hB1⟩ := cut8' A l.length c 8 (by omega) h2
      have e1 : ((8 : Nat) : Int) = 8 := rfl
      rw [e1] at hcut1
      have HA1 := Lib.hid (hA1 w2 l H32.out)
      have HB1 := Lib.hid (hB1 rb fun ad e => H4.out ad e (by omega))
      have w1 : wrap64 (n : Int) = n := w64 (by omega) (by omega)
      have w2' : wrap64 ((n : Int) + 8) = n + 8 := w64 (by omega) (by omega)
      have w3' : wrap64 ((n : Int) + 8 - 1) = n + 7 := by rw [w64 (by omega) (by omega)]; omega
      have w4' : bits .andNot .i64 ((n : Int) + 8 - 1) 7 = ((n + padN n : Nat) : Int) := by rw [show (n : Int) + 8 - 1 = n + 7 by omega]; exact pad_up n (by omega)
      generalize hE : n + padN n = E at w4'
      have HE := Lib.hid hE
      have hEn : n ≤ E := by omega
      have hfr : w2.frozen? ⟨rb, 0, none⟩ = false := blk_frozen H12.out 0
      generalize hL : l.length - 8 = L at hcut1 HA1
      generalize hcc : c - 8 = cc at hcut1
      have hLc : L ≤ cc := by omega
      have HLL := Lib.hid hL
      have HCC := Lib.hid hcc
      have hL2 : L ≤ 1048576 := by omega
      clear hA1 hB1 e1 hE hL hcc
      by_cases hE2 : L < E
      · have hrn : Hid (rnext l = none) := Lib.hid (by unfold rnext; rw [if_neg h8, hrl.out, if_pos (by have := HE.out; have := HLL.out; omega)])
        have hE3 : (L : Int) < (E : Int) := by omega
        go_wp2_with fail
        go_ret2
        exact ⟨HG.out, Or.inr ⟨hrn.out, 11, by decide, rfl⟩⟩
      · have hE3 : ¬ (L : Int) < (E : Int) := by omega
        obtain ⟨A2, hcut2, hA2, hB2⟩ := cut8' A1 L cc E (by omega) hLc
        obtain ⟨A3, hcut3, hA3⟩ := cutm A1 L cc n E hEn (by omega) hLc
        have hcut4 := (cut_to A1 L cc n (by omega) hLc).1
        have H23 := Lib.hid hA2
        have HB2 := Lib.hid (hB2 rb HB1.out)
        have H33 := Lib.hid hA3
        clear hA2 hB2 hA3
        have HG3 := Lib.hid (Lib.grownBy_setB HG.out 0 (.slice A2 (L - E) (cc - E)))
        have HC1 := Lib.hid (C_setCell (p := ⟨rb, 0, none⟩) HA1.out (fun ad e => Nat.ne_of_lt (HB1.out ad e)) (.slice A2 (L - E) (cc - E)))
        have HB3 : Hid ((w2.setCell ⟨rb, 0, none⟩ (.slice A2 (L - E) (cc - E))).heap[rb]? = some (.cells #[.slice A2 (L - E) (cc - E), .int .i64 long] 54 (0, 0))) := Lib.hid (blk_set H12.out 0 _)
        generalize hw3 : w2.setCell ⟨rb, 0, none⟩ (.slice A2 (L - E) (cc - E)) = w3 at HG3 HC1 HB3
        obtain ⟨A4, m4, c4, hm4, htr⟩ := trim_ex A3 (E - n) (cc - n) ((l.drop 8).drop n |>.take (E - n)) (by rw [List.length_take, List.length_drop, List.length_drop]; have := HLL.out; omega) (by omega)
        have HTR := Lib.hid (fun s hs hb => htr s w3 hs hb (H33.out w3 _ HC1.out))
        clear htr
        go_wp2_with (go_at_call 45; refine (HTR.out ⟨#[0]⟩ rfl (by decide)).mono ?_; rintro e w4 ⟨rfl, hd⟩; refine Hid.out ?_)
        refine Lib.hid ?_
        have HG4 := Lib.hid (Lib.grownBy_below HG3.out hd.below)
        have HC4 := Lib.hid (Kd.C_below HC1.out hd.below)
        have HB4 := Lib.hid ((hd.below.block rb (blk_lt HB3.out)).trans HB3.out)
        clear hd HG3 HC1 HB3 hw3 HTR hcut1 hcut2 hcut3 H33 w1 w2' w3' w4'
        have htk : ((l.drop 8).drop n).take (E - n) = (l.drop (8 + n)).take (padN n) := by rw [List.drop_drop, show E - n = padN n by have := HE.out; omega]
        rw [htk] at hm4
        by_cases hm : 0 < m4
        · have hz := hm4.1 hm
          have hrn : Hid (rnext l = none) := Lib.hid (by unfold rnext; rw [if_neg h8, hrl.out, if_neg (by have := HE.out; have := HLL.out; omega), if_neg (by rw [hz]; decide)])
          go_wp2_with fail
          go_ret2
          exact ⟨HG4.out, Or.inr ⟨hrn.out, 10, by decide, rfl⟩⟩
        · have hz : zeros ((l.drop (8 + n)).take (padN n)) = true := by
            cases hz : zeros ((l.drop (8 + n)).take (padN n))
            · exact absurd (hm4.2 hz) hm
            · rfl
          obtain rfl : m4 = 0 := by omega
          have hrn : Hid (rnext l = some (strOfNums ((l.drop 8).take n), l.drop (8 + n + padN n))) := Lib.hid (by unfold rnext; rw [if_neg h8, hrl.out, if_neg (by have := HE.out; have := HLL.out; omega), if_pos hz])
          have hcv := Kd.C_string Tryd.underlying22 Tryd.underlying5 Tryd.underlying9 (c := cc) (C_sub HC4.out (by omega : n ≤ L))
          have HR : RD w4 rb long (l.drop (8 + n + padN n)) := by
            have hle2 : (l.drop (8 + n + padN n)).length = L - E := by rw [List.length_drop]; have := HE.out; have := HLL.out; omega
            refine ⟨⟨A2, cc - E, by rw [hle2]; exact HB4.out, by rw [hle2]; omega, ?_, fun ad e _ => HB2.out ad e⟩, by rw [hle2]; have := HLL.out; omega, hmax, fun x hx => HIN.out x (List.mem_of_mem_drop hx)⟩
            have := H23.out w4 _ HC4.out
            rw [List.drop_drop, show 8 + E = 8 + n + padN n by have := HE.out; omega] at this
            rw [hle2]; exact this
          have HRD := Lib.hid HR
          clear HR hz hm4 htk
          generalize strOfNums ((l.drop 8).take n) = s at hrn hcv
          go_wp2_with fail
          go_ret2
          exact ⟨HG4.out, Or.inl ⟨s, _, hrn.out, rfl, HRD.out⟩⟩
end Go.Proofs.YtdehcojmgmjcmaaDoor
