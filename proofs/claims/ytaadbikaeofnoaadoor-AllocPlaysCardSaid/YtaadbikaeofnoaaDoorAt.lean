/- The walks of math/bits.TrailingZeros64 and (*alloc.Set).Take: the least number that is not in the set is told, and is in it then; where all are, an error. -/
import Derived.Test.YtaadbikaeofnoaaDoorAm
import Derived.Lib.TrailingZeros
import Derived.Lib.LaidTab
import Derived.LaidHandle
import Derived.Test.YtaadbikaeofnoaaDoorRows
namespace Go.Proofs.YtaadbikaeofnoaaDoor
open Go.RowKit

/-- the table of math/bits as its initialiser lays it -/
def TabW (w : World) : Prop := ∀ j, j < 64 → w.cell? ⟨0, j, none⟩ = some (.int .u8 (Lib.deBruijn64tab.getD j 0))
theorem TabW.grown {w w' : World} (h : TabW w) {r : Option Nat} (hg : w.grownBy w' r) (hr : some 0 ≠ r) : TabW w' := fun j hj => hg.cell (h j hj) hr
theorem TabW.lt {w : World} (h : TabW w) : 0 < w.heap.size := World.block_lt_of_cell? w _ (h 0 (by omega))
theorem tab_of_laid {W : World} (h : laidMetH Tryd.prog [("math/bits.deBruijn64tab", Rows.laid_math_bits_deBruijn64tab)] W) : TabW W := by
  have h' : laidMet Tryd.prog [("math/bits.deBruijn64tab", Lib.tabData .u8 (Lib.deBruijn64tab.map Int.ofNat))] W := h
  have ht := Lib.tabIs_of_head (show Tryd.prog.globalNamed "math/bits.deBruijn64tab" = some 0 by kernel_rfl) (show (Tryd.prog.globals[0]?).map (·.type) = some 58 by kernel_rfl) Tryd.underlying58 Tryd.underlying5 (by kernel_rfl) (by kernel_rfl) h'
  intro j hj
  have hc := ht.cell (show Tryd.prog.globalNamed "math/bits.deBruijn64tab" = some 0 by kernel_rfl) j (by simpa [Lib.deBruijn64tab] using hj)
  rw [hc]
  congr 2
  have hl : j < Lib.deBruijn64tab.length := by simpa [Lib.deBruijn64tab] using hj
  simp [List.getD_eq_getElem?_getD, hl]

theorem tz_key (x a : Nat) (hx : x < 18446744073709551616) (hx0 : x ≠ 0) (hlow : x &&& (18446744073709551616 - x) = a) :
    IntKind.u64.wrap (bits BinOp.and IntKind.u64 (x : Int) (IntKind.u64.wrap (-(x : Int))) * 285870213051353865) / 288230376151711744 = ((a * 285870213051353865 % 18446744073709551616 / 288230376151711744 : Nat) : Int) := by
  have e1 : IntKind.u64.wrap (-(x : Int)) = ((18446744073709551616 - x : Nat) : Int) := by rw [IntKind.wrap_u64]; omega
  rw [e1, u64_and_nat x _ hx (by omega), hlow, IntKind.wrap_u64]
  omega
set_option maxHeartbeats 1000000 in
theorem tz_core (x k idx : Nat) (w : World) (hx0 : ((x : Int) == 0) = false)
    (key : IntKind.u64.wrap (bits BinOp.and IntKind.u64 (x : Int) (IntKind.u64.wrap (-(x : Int))) * 285870213051353865) / 288230376151711744 = (idx : Int))
    (hi : idx < 64) (hk : k < 64) (hcell : w.cell? ⟨0, idx, none⟩ = some (.int .u8 k)) :
    Calls Tryd.prog 23 #[.int .u64 x] w fun e w' => e = .returned (.int .i64 k) ∧ w = w' := by
  go_enter Tryd.func23, Tryd.ntmps23
  go_wp2_with (simp only [key])
  go_ret
  exact ⟨rfl, rfl⟩
set_option maxHeartbeats 400000 in
theorem tz_zero (w : World) : Calls Tryd.prog 23 #[.int .u64 0] w fun e w' => e = .returned (.int .i64 64) ∧ w = w' := by
  go_enter Tryd.func23, Tryd.ntmps23
  go_wp2
  go_ret
  exact ⟨rfl, rfl⟩
theorem tz_calls (x : Int) (h0 : 0 ≤ x) (hx : x < 18446744073709551616) (w : World) (hT : TabW w) :
    Calls Tryd.prog 23 #[.int .u64 x] w fun e w' => e = .returned (.int .i64 (Lib.ctz 64 x.toNat)) ∧ w = w' := by
  obtain ⟨x, rfl⟩ := Int.eq_ofNat_of_zero_le h0
  rw [Int.toNat_natCast]
  by_cases hx0 : x = 0
  · subst hx0
    exact tz_zero w
  · obtain ⟨hlow, hk⟩ := Lib.lowest_bit 64 x hx0 (by omega)
    obtain ⟨hi, htab⟩ := Lib.deBruijn64_at _ hk
    have hcell := hT _ hi
    rw [htab] at hcell
    exact tz_core x _ _ w (by simp; omega) (tz_key x _ (by omega) hx0 hlow) hi hk hcell

/-! the lowest bit that is not set -/
theorem ctz_not {x : Nat} (hx : x < 2 ^ 64) (hne : x ≠ 18446744073709551615) :
    Lib.ctz 64 (18446744073709551615 - x) < 64 ∧ x.testBit (Lib.ctz 64 (18446744073709551615 - x)) = false ∧ ∀ j, j < Lib.ctz 64 (18446744073709551615 - x) → x.testBit j = true := by
  have hb : ∀ j, (18446744073709551615 - x).testBit j = (decide (j < 64) && !x.testBit j) := fun j => by
    rw [show 18446744073709551615 - x = 2 ^ 64 - (x + 1) by omega, Nat.testBit_two_pow_sub_succ hx]
  have hy : 18446744073709551615 - x ≠ 0 := by omega
  have hlt : 18446744073709551615 - x < 2 ^ 64 := by omega
  obtain ⟨m, hm, hc⟩ := Lib.ctzFrom_spec 64 (18446744073709551615 - x) (by omega) hlt
  have hz : Lib.ctz 64 (18446744073709551615 - x) = Lib.ctzFrom 64 (18446744073709551615 - x) := by unfold Lib.ctz; rw [if_neg hy]
  rw [hz]
  generalize Lib.ctzFrom 64 (18446744073709551615 - x) = c at hm hc
  have h1 : (18446744073709551615 - x).testBit c = true := by
    rw [hm, Nat.testBit_two_pow_mul]
    simp
  have h2 : ∀ j, j < c → (18446744073709551615 - x).testBit j = false := fun j hj => by
    rw [hm, Nat.testBit_two_pow_mul]
    simp; omega
  refine ⟨hc, ?_, fun j hj => ?_⟩
  · rw [hb] at h1
    simp at h1
    exact h1.2
  · have h3 := h2 j hj
    rw [hb] at h3
    have : j < 64 := by omega
    simpa [this] using h3
theorem all_ones {x : Nat} (hx : x < 2 ^ 64) (h : ∀ j, j < 64 → x.testBit j = true) : x = 18446744073709551615 := by
  apply Nat.eq_of_testBit_eq
  intro j
  rw [show (18446744073709551615 : Nat) = 2 ^ 64 - (0 + 1) from rfl, Nat.testBit_two_pow_sub_succ (by omega)]
  by_cases hj : j < 64
  · simp [hj, h j hj]
  · rw [hi_bit hx (by omega)]
    simp [hj]
theorem not_word (v : Int) (h0 : 0 ≤ v) (h1 : v < 18446744073709551616) : bits BinOp.xor IntKind.u64 IntKind.u64.max v = ((18446744073709551615 - v.toNat : Nat) : Int) := by
  obtain ⟨x, rfl⟩ := Int.eq_ofNat_of_zero_le h0
  have hx : x < 2 ^ 64 := by omega
  rw [show IntKind.u64.max = ((18446744073709551615 : Nat) : Int) by rfl, u64_xor_nat _ _ (by omega) (by omega), Int.toNat_natCast]
  congr 1
  apply Nat.eq_of_testBit_eq
  intro j
  rw [Nat.testBit_xor, show 18446744073709551615 - x = 2 ^ 64 - (x + 1) by omega, Nat.testBit_two_pow_sub_succ hx, show (18446744073709551615 : Nat) = 2 ^ 64 - (0 + 1) from rfl, Nat.testBit_two_pow_sub_succ (by omega)]
  by_cases hj : j < 64
  · simp [hj]
  · rw [hi_bit hx (by omega)]
    simp [hj]
/-- what the round finds in word q: -/
theorem word_scan {S k q : Nat} (hb : S.testBit k = false) (hlow : ∀ j, j < k → S.testBit j = true) :
    (q < k / 64 → (wd S q).toNat = 18446744073709551615) ∧ (q = k / 64 → (wd S q).toNat ≠ 18446744073709551615 ∧ 64 * q + Lib.ctz 64 (18446744073709551615 - (wd S q).toNat) = k) := by
  have hw : (wd S q).toNat = dg 64 S q := by unfold wd; omega
  rw [hw]
  have hx := dg_lt 64 S q
  refine ⟨fun h => all_ones hx fun j hj => ?_, fun h => ?_⟩
  · rw [dg_testBit, hlow (64 * q + j) (by omega)]
    simp [hj]
  · have hk : (dg 64 S q).testBit (k % 64) = false := by
      rw [dg_testBit, show 64 * q + k % 64 = k by omega, hb]; simp
    have hne : dg 64 S q ≠ 18446744073709551615 := fun e => by
      rw [e, show (18446744073709551615 : Nat) = 2 ^ 64 - (0 + 1) from rfl, Nat.testBit_two_pow_sub_succ (by omega)] at hk
      simp at hk
      omega
    obtain ⟨h1, h2, h3⟩ := ctz_not hx hne
    refine ⟨hne, ?_⟩
    generalize Lib.ctz 64 (18446744073709551615 - dg 64 S q) = c at h1 h2 h3
    have hle : c ≤ k % 64 := by
      apply Nat.le_of_not_lt
      intro hlt
      rw [h3 _ hlt] at hk
      cases hk
    have hge : k % 64 ≤ c := by
      apply Nat.le_of_not_lt
      intro hlt
      rw [dg_testBit, hlow (64 * q + c) (by omega)] at h2
      simp at h2
      omega
    omega
theorem word_full {S n q : Nat} (hall : ∀ j, j < n → S.testBit j = true) : (wd S q).toNat = 18446744073709551615 ∨ ((wd S q).toNat ≠ 18446744073709551615 ∧ n ≤ 64 * q + Lib.ctz 64 (18446744073709551615 - (wd S q).toNat)) := by
  have hw : (wd S q).toNat = dg 64 S q := by unfold wd; omega
  rw [hw]
  have hx := dg_lt 64 S q
  by_cases hne : dg 64 S q = 18446744073709551615
  · exact .inl hne
  · obtain ⟨h1, h2, h3⟩ := ctz_not hx hne
    refine .inr ⟨hne, ?_⟩
    generalize Lib.ctz 64 (18446744073709551615 - dg 64 S q) = c at h1 h2 h3
    apply Nat.le_of_not_lt
    intro hlt
    rw [dg_testBit, hall _ hlt] at h2
    simp at h2
    omega
set_option maxHeartbeats 800000 in
theorem take_ok (b : Nat) (n : Int) (S : Nat) (w : World) (hs : SetAt w b n S) (hn : 1 ≤ n) (hn2 : n ≤ 2048) (hT : TabW w) (k : Nat) (hk : (k : Int) < n) (hb : S.testBit k = false) (hlow : ∀ j, j < k → S.testBit j = true) :
    Calls Tryd.prog 8 #[.pointer (some ⟨b, 0, none⟩)] w fun e w' => e = .returned (.tuple #[.int .i64 k, .int .i64 0]) ∧ w.grownBy w' (some b) ∧ SetAt w' b n (S ||| 2 ^ k) := by
  have hc := hs.head
  have HP : Hid (Calls Tryd.prog 7 #[.pointer (some ⟨b, 0, none⟩), .int .i64 k] w fun e w' => e = .returned (.int .i64 0) ∧ w.grownBy w' (some b) ∧ SetAt w' b n (S ||| 2 ^ k)) := Lib.hid (by
    have := put_ok b n k S w hs hn2 (by omega) hk (by simpa using hb)
    simpa using this)
  have HS := Lib.hid hs; clear hs
  have HT := Lib.hid hT; clear hT
  have HL := Lib.hid hlow; clear hlow
  have HB := Lib.hid hb; clear hb
  go_enter Tryd.func8, Tryd.ntmps8
  go_wp2_with (go_at_call 22; refine (none_no _ _ _ hc hn).mono ?_; rintro e w' ⟨rfl, rfl⟩)
  go_loop [4, 5, 8] (fun _ _ i => ∃ q : Int, 0 ≤ q ∧ q ≤ k / 64 ∧ i = .int .i64 q) (fun _ _ i => (32 - intOf i).toNat)
  case atStart => exact ⟨0, by omega, by omega, rfl⟩
  case round =>
    obtain ⟨q, hq0, hq1, rfl⟩ := hrel
    have hcv := HS.out.word (k := q.toNat) (by omega)
    have v0 := wd_nonneg S q.toNat
    have v1 := wd_lt S q.toNat
    have hsc := word_scan HB.out HL.out (q := q.toNat)
    obtain ⟨v, hv⟩ : ∃ v, v = wd S q.toNat := ⟨_, rfl⟩
    rw [← hv] at hcv v0 v1 hsc
    clear hv
    have HN := Lib.hid (not_word v v0 v1)
    by_cases hq : q < k / 64
    · have hall : (v != 18446744073709551615) = false := by have := hsc.1 (by omega); simp; omega
      clear hsc
      go_wp2_with fail
      rw [HN.out]
      refine (tz_calls _ (by omega) (by omega) _ HT.out).mono ?_
      rintro e w' ⟨rfl, rfl⟩
      have c1 : Lib.ctz 64 (((18446744073709551615 - v.toNat : Nat) : Int).toNat) ≤ 64 := by
        unfold Lib.ctz
        split
        · omega
        · have := Lib.ctzFrom_spec 64 (((18446744073709551615 - v.toNat : Nat) : Int).toNat) (by omega) (by omega)
          omega
      generalize Lib.ctz 64 (((18446744073709551615 - v.toNat : Nat) : Int).toNat) = c at c1 ⊢
      go_wp2_with fail
      exact ⟨⟨q + 1, by omega, by omega, rfl⟩, by simp [intOf]; omega⟩
    · have hsc2 := hsc.2 (by omega)
      have hall : (v != 18446744073709551615) = true := by have := hsc2.1; rw [bne_iff_ne]; omega
      have HE := Lib.hid hsc2.2
      clear hsc hsc2
      go_wp2_with fail
      rw [HN.out]
      refine (tz_calls _ (by omega) (by omega) _ HT.out).mono ?_
      rintro e w' ⟨rfl, rfl⟩
      rw [Int.toNat_natCast]
      generalize Lib.ctz 64 (18446744073709551615 - v.toNat) = c at HE ⊢
      have e1 : q * 64 + (c : Int) = k := by have := HE.out; omega
      have h64 : c < 64 := by have := HE.out; omega
      have hlt : q * 64 + (c : Int) < n := by omega
      have HE1 := Lib.hid e1
      clear e1
      go_wp2_with fail
      rw [HE1.out]
      refine HP.out.mono ?_
      rintro e w' ⟨rfl, hg, hs'⟩
      have HG := Lib.hid hg
      have HS' := Lib.hid hs'
      clear hg hs'
      go_wp2_with fail
      go_ret2
      exact ⟨rfl, HG.out, HS'.out⟩
set_option maxHeartbeats 800000 in
theorem take_full (b : Nat) (n : Int) (S : Nat) (w : World) (hs : SetAt w b n S) (hn : 1 ≤ n) (hn2 : n ≤ 2048) (hT : TabW w) (hall : ∀ j, j < n.toNat → S.testBit j = true) :
    Calls Tryd.prog 8 #[.pointer (some ⟨b, 0, none⟩)] w fun e w' => e = .returned (.tuple #[.int .i64 0, .int .i64 15]) ∧ w = w' := by
  have hc := hs.head
  have HS := Lib.hid hs; clear hs
  have HT := Lib.hid hT; clear hT
  have HL := Lib.hid hall; clear hall
  go_enter Tryd.func8, Tryd.ntmps8
  go_wp2_with (go_at_call 22; refine (none_no _ _ _ hc hn).mono ?_; rintro e w' ⟨rfl, rfl⟩)
  go_loop [4, 5, 8] (fun _ _ i => ∃ q : Int, 0 ≤ q ∧ q ≤ 32 ∧ i = .int .i64 q) (fun _ _ i => (32 - intOf i).toNat)
  case atStart => exact ⟨0, by omega, by omega, rfl⟩
  case round =>
    obtain ⟨q, hq0, hq1, rfl⟩ := hrel
    by_cases hlt : q < 32
    · have hcv := HS.out.word (k := q.toNat) (by omega)
      have v0 := wd_nonneg S q.toNat
      have v1 := wd_lt S q.toNat
      have hsc := word_full HL.out (q := q.toNat)
      obtain ⟨v, hv⟩ : ∃ v, v = wd S q.toNat := ⟨_, rfl⟩
      rw [← hv] at hcv v0 v1 hsc
      clear hv
      have HN := Lib.hid (not_word v v0 v1)
      have hle : ∀ x : Nat, x ≤ 18446744073709551615 → Lib.ctz 64 x ≤ 64 := fun x hx => by
        unfold Lib.ctz
        split
        · omega
        · have := Lib.ctzFrom_spec 64 x (by omega) (by omega)
          omega
      have c1 := hle (((18446744073709551615 - v.toNat : Nat) : Int).toNat) (by omega)
      clear hle
      rcases hsc with hall | ⟨hne, hge⟩
      · have hall : (v != 18446744073709551615) = false := by simp; omega
        go_wp2_with fail
        rw [HN.out]
        refine (tz_calls _ (by omega) (by omega) _ HT.out).mono ?_
        rintro e w' ⟨rfl, rfl⟩
        generalize Lib.ctz 64 (((18446744073709551615 - v.toNat : Nat) : Int).toNat) = c at c1 ⊢
        go_wp2_with fail
        exact ⟨⟨q + 1, by omega, by omega, rfl⟩, by simp [intOf]; omega⟩
      · have hall : (v != 18446744073709551615) = true := by rw [bne_iff_ne]; omega
        have HG := Lib.hid hge
        clear hge hne
        go_wp2_with fail
        rw [HN.out]
        refine (tz_calls _ (by omega) (by omega) _ HT.out).mono ?_
        rintro e w' ⟨rfl, rfl⟩
        rw [Int.toNat_natCast] at c1 ⊢
        generalize Lib.ctz 64 (18446744073709551615 - v.toNat) = c at c1 HG ⊢
        have hno : ¬ q * 64 + (c : Int) < n := by have := HG.out; omega
        go_wp2_with fail
        exact ⟨⟨q + 1, by omega, by omega, rfl⟩, by simp [intOf]; omega⟩
    · go_wp2_with fail
      go_ret2
      exact ⟨rfl, rfl⟩
end Go.Proofs.YtaadbikaeofnoaaDoor
