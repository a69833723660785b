/- The walk of AllocTakes: whatever the numbers are, the law returns true and writes nothing that was there. -/
import Derived.Test.YtaadbikaeofnoaaDoorAt
import Derived.Test.YtaadbikaeofnoaaDoorAu
import Derived.Deep.RegionWith
namespace Go.Proofs.YtaadbikaeofnoaaDoor
open Go.RowKit

theorem or_same {S k : Nat} (h : S.testBit k = true) : S ||| 2 ^ k = S := Nat.eq_of_testBit_eq fun j => by
  rw [or_bit]
  by_cases e : k = j
  · subst e; simp [h]
  · simp [e]
/-- block g holds the bools of S, n of them -/
def InAt (w : World) (g n S : Nat) : Prop := w.heap[g]? = some (.cells (insc n S) 4 (0, 0))
theorem InAt.cell {w : World} {g n S : Nat} (h : InAt w g n S) {k : Nat} (hk : k < n) : w.cell? ⟨g, k, none⟩ = some (.bool (S.testBit k)) := (cell_of_row w g k _ _ _ h).trans (insc_at hk)
theorem InAt.free {w : World} {g n S : Nat} (h : InAt w g n S) (j : Nat) : w.frozen? ⟨g, j, none⟩ = false := frozen_of_row w g j _ _ h
theorem InAt.lt {w : World} {g n S : Nat} (h : InAt w g n S) : g < w.heap.size := (Array.getElem?_eq_some_iff.1 h).1
theorem InAt.grown {w w' : World} {g n S : Nat} (h : InAt w g n S) {r : Option Nat} (hg : w.grownBy w' r) (hr : some g ≠ r) : InAt w' g n S := (hg.block g h.lt hr).trans h
theorem InAt.set {w : World} {g n S S' k : Nat} {v : Bool} (h : InAt w g n S) (hk : k < n) (hv : v = S'.testBit k) (ho : ∀ j, j < n → j ≠ k → S'.testBit j = S.testBit j) : InAt (w.setCell ⟨g, k, none⟩ (.bool v)) g n S' := by
  unfold InAt
  rw [heap_setCell_same w g k _ _ _ h, insc_upd hk hv ho]
/-- what both loops keep: the set in block b, the bools in block g, what was there, the table -/
structure TRel (w : World) (b g : Nat) (n : Int) (S T : Nat) (wr : World) : Prop where
  grown : w.grownBy wr none
  at_ : SetAt wr b n S
  ins : InAt wr g n.toNat T
  tab : TabW wr
  hb : w.heap.size ≤ b
  hg : w.heap.size ≤ g
  ne : b ≠ g
  tb : 0 < w.heap.size
theorem TRel.put {w wr w' : World} {b g : Nat} {n : Int} {S S' T : Nat} (h : TRel w b g n S T wr) (hg : wr.grownBy w' (some b)) (hs : SetAt w' b n S') : TRel w b g n S' T w' :=
  ⟨grown_own h.grown h.hb hg, hs, h.ins.grown hg (by simp; exact h.ne.symm), h.tab.grown hg (by have := h.tb; have := h.hb; simp; omega), h.hb, h.hg, h.ne, h.tb⟩
theorem TRel.mark {w wr : World} {b g : Nat} {n : Int} {S T : Nat} (h : TRel w b g n S T wr) {k : Nat} (hk : k < n.toNat) : TRel w b g n S (T ||| 2 ^ k) (wr.setCell ⟨g, k, none⟩ (.bool true)) := by
  have hgr : wr.grownBy (wr.setCell ⟨g, k, none⟩ (.bool true)) (some g) := grown_set wr ⟨g, k, none⟩ _
  exact ⟨grown_own h.grown h.hg hgr, h.at_.grown hgr (by simp; exact h.ne), h.ins.set hk (or_at T k).symm (fun j _ hj => by rw [or_bit]; simp [Ne.symm hj]), h.tab.grown hgr (by have := h.tb; have := h.hg; simp; omega), h.hb, h.hg, h.ne, h.tb⟩
theorem TRel.drew {w wr : World} {b g : Nat} {n : Int} {S T : Nat} (h : TRel w b g n S T wr) : TRel w b g n S T wr.drew :=
  ⟨grown_drew h.grown, h.at_, h.ins, h.tab, h.hb, h.hg, h.ne, h.tb⟩
def TEx (w : World) (b g : Nat) (n : Int) (wr : World) : Prop := ∃ S, TRel w b g n S S wr
/-- the second loop: all below k are in it, above k none is more than was -/
def TEx2 (w : World) (b g : Nat) (n : Int) (k : Nat) (wr : World) : Prop := ∃ S T, TRel w b g n S T wr ∧ (∀ j, j < k → S.testBit j = true) ∧ ∀ j, k ≤ j → S.testBit j = T.testBit j

set_option maxHeartbeats 2000000 in
set_option maxRecDepth 100000 in
theorem takes_ok (w : World) (hT : TabW w) (a0 : Int) (a1 : Option Addr) (len cap : Nat) (z : List Int) (hz : IsRow .i64 w a1 len cap z) :
    Calls Tryd.prog 3 #[.int .i64 a0, .slice a1 len cap] w fun e w' => e = .returned (.bool true) ∧ w.grownBy w' none := by
  obtain ⟨m0, m1⟩ := mask_bounds a0
  have HZ := Lib.hid hz
  have HT := Lib.hid hT
  have hlen := hz.len_le
  clear hz hT
  obtain ⟨m, hm⟩ : ∃ m, m = bits BinOp.and IntKind.i64 a0 2047 := ⟨_, rfl⟩
  rw [← hm] at m0 m1
  have hm2 := hm.symm
  clear hm
  go_enter Tryd.func3, Tryd.ntmps3
  go_wp2_with fail
  have hn1 : 1 ≤ 1 + m := by omega
  have hn2 : 1 + m ≤ 2048 := by omega
  clear hm2 m0 m1
  generalize 1 + m = n at hn1 hn2 ⊢
  refine (new_ok _ _ hn1 hn2).mono ?_
  rintro e w1 ⟨rfl, hg1, hs1, hlt1⟩
  obtain ⟨b, hbe⟩ : ∃ b, b = w.heap.size := ⟨_, rfl⟩
  have hR : TRel w b w1.heap.size n 0 0 (w1.alloc (.cells (insc n.toNat 0) 4)) := by
    refine ⟨grown_trans hg1 (grown_alloc _ _), ?_, heap_alloc_new _ _, (HT.out.grown hg1 (by simp)).grown (grown_alloc _ _) (by simp), by omega, by omega, by omega, HT.out.lt⟩
    rw [hbe]
    exact hs1.grown (grown_alloc _ _) (by simp)
  rw [← hbe]
  have HR := Lib.hid hR
  obtain ⟨g, hge⟩ : ∃ g, g = w1.heap.size := ⟨_, rfl⟩
  clear hg1 hs1 hbe hR hlt1
  have hmk := make_bools n (by omega) hn2
  go_wp2_with fail
  clear hmk
  rw [← hge] at HR ⊢
  clear hge
  go_loopw [8, 9] (fun i _ wr => ∃ k : Int, 0 ≤ k ∧ k ≤ len ∧ i = .int .i64 k ∧ TEx w b g n wr) (fun i _ _ => (len - intOf i).toNat)
  case atStart => exact ⟨0, by omega, by omega, rfl, 0, HR.out⟩
  case round =>
    obtain ⟨i, hi0, hi1, rfl, hex⟩ := hrel
    clear HR
    by_cases hlt : i < len
    · obtain ⟨ab, off, rfl, hcell, hx0, hx1⟩ := HZ.out.ints i.toNat (by omega)
      obtain ⟨x, hx⟩ : ∃ x, x = z.getD i.toNat 0 := ⟨_, rfl⟩
      rw [← hx] at hcell hx0 hx1
      clear hx
      obtain ⟨S, hr⟩ := hex
      have ha : wr.cell? ⟨ab, off + i.toNat, none⟩ = some (.int .i64 x) := hr.grown.cell hcell (by simp)
      have HR := Lib.hid hr
      clear hr hcell
      obtain ⟨k0, k1⟩ := rem2_bounds x n hn1 (by omega)
      obtain ⟨r0, r1⟩ := rem_bounds x n hn1
      rw [Int.tmod_eq_emod_of_nonneg (by omega)] at k0 k1
      have HK0 := Lib.hid k0
      have HK1 := Lib.hid k1
      clear k0 k1
      go_wp2_with fail
      generalize (x.tmod n + n) % n = k at HK0 HK1 ⊢
      have k0 := HK0.out
      have k1 := HK1.out
      clear HK0 HK1 r0 r1 ha hx0 hx1
      have hcl := HR.out.ins.cell (k := k.toNat) (by omega)
      have hfr := HR.out.ins.free k.toNat
      have hrow := Lib.hid (HR.out.drew)
      by_cases hbit : S.testBit k.toNat = true
      · rw [hbit] at hcl
        have HB := Lib.hid hbit
        clear hbit
        go_region_with (go_at_call 7; refine (put_there b n k S _ hrow.out.at_ hn2 k0 k1 HB.out).mono ?_; rintro e w5 ⟨rfl, rfl⟩)
        all_goals
          have HM := Lib.hid (hrow.out.mark (k := k.toNat) (by omega))
          rw [or_same HB.out] at HM
          go_wp2_with fail
          exact ⟨⟨i + 1, by omega, by omega, rfl, _, HM.out⟩, by simp [intOf]; omega⟩
      · have hbit' : S.testBit k.toNat = false := by simpa using hbit
        rw [hbit'] at hcl
        have HB := Lib.hid hbit'
        clear hbit hbit'
        have hgb : g ≠ b := hrow.out.ne.symm
        go_region_with (go_at_call 7; refine (put_ok b n k S _ hrow.out.at_ hn2 k0 k1 HB.out).mono ?_; rintro e w5 ⟨rfl, hg5, hs5⟩; have hcl5 : w5.cell? ⟨g, k.toNat, none⟩ = some (.bool false) := hg5.cell (a := ⟨g, k.toNat, none⟩) hcl (by simp [hgb]))
        all_goals
          have HM := Lib.hid ((hrow.out.put hg5 hs5).mark (k := k.toNat) (by omega))
          have hfr5 := (hrow.out.put hg5 hs5).ins.free k.toNat
          have hcl6 := (hrow.out.put hg5 hs5).ins.cell (k := k.toNat) (by omega)
          rw [HB.out] at hcl6
          clear hg5 hs5
          go_wp2_with fail
          exact ⟨⟨i + 1, by omega, by omega, rfl, _, HM.out⟩, by simp [intOf]; omega⟩
    · obtain ⟨S, hr⟩ := hex
      have HS := Lib.hid (show TEx2 w b g n 0 wr from ⟨S, S, hr, fun j hj => by omega, fun j _ => rfl⟩)
      clear hr
      go_wp2_with fail
      go_loopw [10, 11, 12] (fun i _ _ wr => ∃ k : Int, 0 ≤ k ∧ k ≤ n ∧ i = .int .i64 k ∧ TEx2 w b g n k.toNat wr) (fun i _ _ _ => (n - intOf i).toNat)
      case atStart => exact ⟨0, by omega, by omega, rfl, HS.out⟩
      case round =>
        obtain ⟨k, hk0, hk1, rfl, hex⟩ := hrel
        clear HS
        obtain ⟨S', T, hr, hlow, hhigh⟩ := hex
        have HR := Lib.hid hr
        have HL := Lib.hid hlow
        have HH := Lib.hid hhigh
        clear hr hlow hhigh
        by_cases hkn : k < n
        · have hcl := HR.out.ins.cell (k := k.toNat) (by omega)
          by_cases hbit : T.testBit k.toNat = true
          · rw [hbit] at hcl
            have HX := Lib.hid (show TEx2 w b g n (k + 1).toNat wr from ⟨S', T, HR.out, fun j hj => by
              by_cases e : j = k.toNat
              · subst e; rw [HH.out _ (Nat.le_refl _)]; exact hbit
              · exact HL.out j (by omega), fun j hj => HH.out j (by omega)⟩)
            clear hbit
            go_wp2_with fail
            exact ⟨⟨k + 1, by omega, by omega, rfl, HX.out⟩, by simp [intOf]; omega⟩
          · have hbit' : T.testBit k.toNat = false := by simpa using hbit
            rw [hbit'] at hcl
            have HB : Hid (S'.testBit k.toNat = false) := Lib.hid (by rw [HH.out _ (Nat.le_refl _)]; exact hbit')
            clear hbit hbit'
            go_wp2_with fail
            refine (take_ok b n S' _ HR.out.at_ hn1 hn2 HR.out.tab k.toNat (by omega) HB.out HL.out).mono ?_
            rintro e w5 ⟨rfl, hg5, hs5⟩
            have HX := Lib.hid (show TEx2 w b g n (k + 1).toNat w5 from ⟨_, T, HR.out.put hg5 hs5, fun j hj => by
              rw [or_bit]
              by_cases e : k.toNat = j
              · simp [e]
              · rw [HL.out j (by omega)]; simp, fun j hj => by
              rw [or_bit, HH.out j (by omega)]
              have : ¬ k.toNat = j := by omega
              simp [this]⟩)
            clear hg5 hs5
            rw [Int.toNat_of_nonneg hk0]
            go_wp2_with fail
            exact ⟨⟨k + 1, by omega, by omega, rfl, HX.out⟩, by simp [intOf]; omega⟩
        · obtain rfl : k = n := by omega
          have HG := Lib.hid HR.out.grown
          go_wp2_with fail
          refine (take_full b k S' _ HR.out.at_ hn1 hn2 HR.out.tab HL.out).mono ?_
          rintro e w5 ⟨rfl, rfl⟩
          go_wp2_with fail
          go_ret
          exact ⟨rfl, HG.out⟩
theorem alloc_takes (w : World) (hL : laidMetH Tryd.prog Rows.allocTakesRow.laid w) (a0 : Int) (_w0 : (Lit.int .i64 a0).wf = true) (a1 : Option Addr) (len1 cap1 : Nat) (z1 : List Int) (w1 : IsRow .i64 w a1 len1 cap1 z1) :
    Calls Tryd.prog 3 #[.int .i64 a0, .slice a1 len1 cap1] w fun e w' => e = .returned (.bool true) ∧ Below w.heap.size w w' :=
  (takes_ok w (tab_of_laid hL) a0 a1 len1 cap1 z1 w1).mono fun _ _ ⟨h1, h2⟩ => ⟨h1, below_of_grown h2⟩
end Go.Proofs.YtaadbikaeofnoaaDoor
