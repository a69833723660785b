/- object.may: which infos may be. -/
import Derived.Test.YtcmlifbfegblgaaDoorBk
namespace Go.Proofs.YtcmlifbfegblgaaDoor
set_option linter.unusedVariables false
set_option linter.unusedSimpArgs false
open Go.RowKit Go.Proofs.YtcmlifbfegblgaaDoorW.PrintWords Go.Proofs.YtcmlifbfegblgaaDoorW.PrintLast Go.Proofs.YtcmlifbfegblgaaDoorW.PrintMore
open Go.Proofs.YtcmlifbfegblgaaDoor.QObjectTexts

set_option maxHeartbeats 4000000 in
theorem odd_of (s : ByteArray) (w : World) (hs : s.size ≤ 16777216) (T : Tabs w) :
    Calls Tryd.prog 35 #[.string s] w fun e w' => ∃ b, e = .returned (.bool b) ∧ Below w.heap.size w w' ∧ (b = false ↔ PathOk s) := by
  have HT := Lib.hid T
  clear T
  go_enter Tryd.func35, Tryd.ntmps35
  go_wp2_with (go_at_call 36; refine (ispath_of s _ hs HT.out).mono ?_; rintro e w' ⟨b, rfl, hb, hd⟩)
  go_ret
  refine ⟨_, rfl, hb, ?_⟩
  rw [← hd]
  simp
def AllPaths (l : List ByteArray) : Prop := ∀ i : Nat, i < l.length → PathOk (l.getD i ByteArray.empty)
/-- Short texts, all. -/
def Short (l : List ByteArray) : Prop := ∀ i : Nat, (l.getD i ByteArray.empty).size ≤ 16777216
set_option maxHeartbeats 4000000 in
set_option maxRecDepth 100000 in
theorem index_of (l : List ByteArray) (A : Option Addr) (c : Nat) (w : World) (hr : Kd.C Kd.string w A l.length l) (hc : l.length ≤ c) (hl : l.length ≤ 1000000000) (hs : Short l) (T : Tabs w) :
    Calls Tryd.prog 60 #[.slice A l.length c, .func (.func 35) #[] #[]] w fun e w' => ∃ i, e = .returned (.int .i64 i) ∧ Below w.heap.size w w' ∧ (0 ≤ i ↔ ¬ AllPaths l) := by
  have HT := Lib.hid T
  have HR := Lib.hid hr
  have HC := Lib.hid hc
  have HL := Lib.hid hl
  have HS := Lib.hid hs
  clear T hr hc hl hs
  go_enter Tryd.func60, Tryd.ntmps60
  go_wp2
  go_loopw [8] (fun i wr => ∃ k : Int, 0 ≤ k ∧ k ≤ l.length ∧ i = .int .i64 k ∧ Below w.heap.size w wr ∧ ∀ i : Nat, (i : Int) < k → PathOk (l.getD i ByteArray.empty)) (fun i _ => ((l.length : Int) - intOf i).toNat)
  case atStart => exact ⟨0, by omega, by omega, rfl, Below.refl _ _, fun i h => by omega⟩
  case round =>
    obtain ⟨k, hk0, hk1, rfl, hb, hall⟩ := hrel
    have HB := Lib.hid hb
    have HA := Lib.hid hall
    clear hb hall
    by_cases hk : k < l.length
    · obtain ⟨ad, rfl, hx⟩ := Kd.at_string (Kd.C_below HR.out HB.out) k hk0 (by omega)
      obtain ⟨x, hxe⟩ : ∃ x, rdOf ByteArray.empty l k = x := ⟨_, rfl⟩
      rw [hxe] at hx
      have HX := Lib.hid (show l.getD k.toNat ByteArray.empty = x from hxe)
      clear hxe
      go_wp2_with (go_at_call 35; refine (odd_of x _ (HX.out ▸ HS.out _) (HT.out.of HB.out)).mono ?_; rintro e w' ⟨b, rfl, hb, hd⟩; refine Hid.out ?_)
      refine Lib.hid ?_
      have HB2 := Lib.hid (show Below w.heap.size w w' from HB.out.trans (hb.mono HB.out.size))
      have HD := Lib.hid hd
      clear hb hd
      have hwk : wrap64 (k + 1) = k + 1 := by have := HL.out; unfold wrap64; omega
      cases b with
      | true =>
        go_wp2_with fail
        go_ret
        refine ⟨_, rfl, HB2.out, ⟨fun _ h => ?_, fun _ => hk0⟩⟩
        have := HD.out.2 (HX.out ▸ h k.toNat (by omega))
        cases this
      | false =>
        go_wp2_with fail
        go_roundw
        case rel =>
          refine ⟨k + 1, by omega, by omega, by go_num, HB2.out, fun i hi => ?_⟩
          rcases Int.lt_or_le i k with h | h
          · exact HA.out i h
          · rw [show i = k.toNat by omega, HX.out]
            exact HD.out.1 rfl
        case measure => simp only [intOf]; omega
    · go_wp2
      go_ret
      refine ⟨_, rfl, HB.out, ⟨fun h => by omega, fun h => ?_⟩⟩
      exact absurd (fun i hi => HA.out i (by omega)) h
set_option maxHeartbeats 4000000 in
theorem contains_of (l : List ByteArray) (A : Option Addr) (c : Nat) (w : World) (hr : Kd.C Kd.string w A l.length l) (hc : l.length ≤ c) (hl : l.length ≤ 1000000000) (hs : Short l) (T : Tabs w) :
    Calls Tryd.prog 38 #[.slice A l.length c, .func (.func 35) #[] #[]] w fun e w' => ∃ b, e = .returned (.bool b) ∧ Below w.heap.size w w' ∧ (b = false ↔ AllPaths l) := by
  have HT := Lib.hid T
  have HR := Lib.hid hr
  have HC := Lib.hid hc
  have HL := Lib.hid hl
  have HS := Lib.hid hs
  clear T hr hc hl hs
  go_enter Tryd.func38, Tryd.ntmps38
  go_wp2_with (go_at_call 60; refine (index_of l A c _ HR.out HC.out HL.out HS.out HT.out).mono ?_; rintro e w' ⟨i, rfl, hb, hd⟩)
  go_ret
  refine ⟨_, rfl, hb, ?_⟩
  rw [decide_eq_false_iff_not, ge_iff_le, hd, Classical.not_not]
theorem info_cells {w : World} {b : Nat} {p h d : ByteArray} {v : Value} (hb : InfoAt w b p h d v) : w.cell? ⟨b, 0, none⟩ = some (.string p) ∧ w.cell? ⟨b, 1, none⟩ = some (.string h) ∧ w.cell? ⟨b, 2, none⟩ = some (.string d) ∧ w.cell? ⟨b, 3, none⟩ = some v :=
  ⟨row_cell w b _ _ _ 0 hb, row_cell w b _ _ _ 1 hb, row_cell w b _ _ _ 2 hb, row_cell w b _ _ _ 3 hb⟩
theorem InfoAt.kept {w w' : World} {b : Nat} {p h d : ByteArray} {v : Value} (hb : InfoAt w b p h d v) (hk : Below w.heap.size w w') : InfoAt w' b p h d v := (hk.block b (Array.getElem?_eq_some_iff.1 hb).1).trans hb
/-- May an info be? -/
def InfoOk (p h d : ByteArray) (l : List ByteArray) : Prop := HashOk h ∧ PathOk p ∧ (d.toList = [] ∨ PathOk d) ∧ RisesOk l ∧ AllPaths l
set_option maxHeartbeats 4000000 in
set_option maxRecDepth 100000 in
theorem may_of (p h d : ByteArray) (l : List ByteArray) (A : Option Addr) (c : Nat) (w : World) (hp : p.size ≤ 16777216) (hh : h.size ≤ 16777216) (hd : d.size ≤ 16777216) (hr : Kd.C Kd.string w A l.length l) (hc : l.length ≤ c) (hl : l.length ≤ 1000000000) (hs : Short l) (T : Tabs w) :
    Calls Tryd.prog 17 #[.agg #[.string p, .string h, .string d, .slice A l.length c]] w fun e w' => ∃ b, e = .returned (.bool b) ∧ Below w.heap.size w w' ∧ (b = true ↔ InfoOk p h d l) := by
  have HT := Lib.hid T
  have HR := Lib.hid hr
  have HC := Lib.hid hc
  have HL := Lib.hid hl
  have HS := Lib.hid hs
  clear T hr hc hl hs
  go_enter Tryd.func17, Tryd.ntmps17
  go_wp2_with (go_at_call 34; refine (dparse_of h _ hh (HT.out.of ((Below.refl _ _).alloc (Nat.le_refl _) _))).mono ?_; rintro e w' ⟨z, x, rfl, hz1, hz2, hb, hx⟩; refine Hid.out ?_)
  refine Lib.hid ?_
  have hI : InfoAt w' w.heap.size p h d (.slice A l.length c) := (hb.block _ (by simp)).trans (heap_alloc_new w _)
  have hB : Below w.heap.size w w' := ((Below.refl _ _).alloc (Nat.le_refl _) _).trans (hb.mono (by simp))
  have hN : w.heap.size < w'.heap.size := (Array.getElem?_eq_some_iff.1 hI).1
  have info69 : (Tryd.prog.info? 69).map (·.size) = some z.size := by rw [hz1]; kernel_rfl
  have h32 : z32.size = z.size := by rw [hz1]; rfl
  have HX := Lib.hid hx
  clear hb hx
  go_wp2_with (refine wpList_store_row rfl 69 _ _ rfl w'.heap.size z rfl rfl 69 z32 (heap_alloc_new _ _) info69 h32 hz2 ?_; refine Hid.out ?_)
  refine Lib.hid ?_
  have hI2 : InfoAt ((w'.alloc (.cells #[Value.int IntKind.u8 0, Value.int IntKind.u8 0, Value.int IntKind.u8 0, Value.int IntKind.u8 0, Value.int IntKind.u8 0, Value.int IntKind.u8 0, Value.int IntKind.u8 0, Value.int IntKind.u8 0, Value.int IntKind.u8 0, Value.int IntKind.u8 0, Value.int IntKind.u8 0, Value.int IntKind.u8 0, Value.int IntKind.u8 0, Value.int IntKind.u8 0, Value.int IntKind.u8 0, Value.int IntKind.u8 0, Value.int IntKind.u8 0, Value.int IntKind.u8 0, Value.int IntKind.u8 0, Value.int IntKind.u8 0, Value.int IntKind.u8 0, Value.int IntKind.u8 0, Value.int IntKind.u8 0, Value.int IntKind.u8 0, Value.int IntKind.u8 0, Value.int IntKind.u8 0, Value.int IntKind.u8 0, Value.int IntKind.u8 0, Value.int IntKind.u8 0, Value.int IntKind.u8 0, Value.int IntKind.u8 0, Value.int IntKind.u8 0] 69)).setRow w'.heap.size z) w.heap.size p h d (.slice A l.length c) := (setRow_other _ _ _ _ (by omega)).trans ((heap_alloc_old _ _ _ hN).trans hI)
  have hB2 : Below w.heap.size w ((w'.alloc (.cells #[Value.int IntKind.u8 0, Value.int IntKind.u8 0, Value.int IntKind.u8 0, Value.int IntKind.u8 0, Value.int IntKind.u8 0, Value.int IntKind.u8 0, Value.int IntKind.u8 0, Value.int IntKind.u8 0, Value.int IntKind.u8 0, Value.int IntKind.u8 0, Value.int IntKind.u8 0, Value.int IntKind.u8 0, Value.int IntKind.u8 0, Value.int IntKind.u8 0, Value.int IntKind.u8 0, Value.int IntKind.u8 0, Value.int IntKind.u8 0, Value.int IntKind.u8 0, Value.int IntKind.u8 0, Value.int IntKind.u8 0, Value.int IntKind.u8 0, Value.int IntKind.u8 0, Value.int IntKind.u8 0, Value.int IntKind.u8 0, Value.int IntKind.u8 0, Value.int IntKind.u8 0, Value.int IntKind.u8 0, Value.int IntKind.u8 0, Value.int IntKind.u8 0, Value.int IntKind.u8 0, Value.int IntKind.u8 0, Value.int IntKind.u8 0] 69)).setRow w'.heap.size z) := below_setRow (hB.alloc hB.size _) hB.size _
  revert hI2 hB2
  generalize ((w'.alloc (.cells #[Value.int IntKind.u8 0, Value.int IntKind.u8 0, Value.int IntKind.u8 0, Value.int IntKind.u8 0, Value.int IntKind.u8 0, Value.int IntKind.u8 0, Value.int IntKind.u8 0, Value.int IntKind.u8 0, Value.int IntKind.u8 0, Value.int IntKind.u8 0, Value.int IntKind.u8 0, Value.int IntKind.u8 0, Value.int IntKind.u8 0, Value.int IntKind.u8 0, Value.int IntKind.u8 0, Value.int IntKind.u8 0, Value.int IntKind.u8 0, Value.int IntKind.u8 0, Value.int IntKind.u8 0, Value.int IntKind.u8 0, Value.int IntKind.u8 0, Value.int IntKind.u8 0, Value.int IntKind.u8 0, Value.int IntKind.u8 0, Value.int IntKind.u8 0, Value.int IntKind.u8 0, Value.int IntKind.u8 0, Value.int IntKind.u8 0, Value.int IntKind.u8 0, Value.int IntKind.u8 0, Value.int IntKind.u8 0, Value.int IntKind.u8 0] 69)).setRow w'.heap.size z) = w2
  intro hI2 hB2
  clear hI hB hN info69 h32 hz1 hz2
  obtain ⟨c0, c1, c2, c3⟩ := info_cells hI2
  have HI2 := Lib.hid hI2
  have HB2 := Lib.hid hB2
  clear hI2 hB2
  by_cases h0 : x = 0
  · subst h0
    have HH := Lib.hid (HX.out.1 rfl)
    go_wp2_with (go_at_call 36; refine (ispath_of p _ hp (HT.out.of HB2.out)).mono ?_; rintro e w3 ⟨b1, rfl, hb, hd1⟩; refine Hid.out ?_)
    refine Lib.hid ?_
    obtain ⟨c0, c1, c2, c3⟩ := info_cells (HI2.out.kept hb)
    have HI3 := Lib.hid (HI2.out.kept hb)
    have HB3 := Lib.hid (show Below w.heap.size w w3 from HB2.out.trans (hb.mono HB2.out.size))
    have HD1 := Lib.hid hd1
    clear hb hd1
    cases b1 with
    | false =>
      have HE := Lib.hid (show ¬ InfoOk p h d l from fun H => by have := HD1.out.2 H.2.1; cases this)
      go_wp2_with fail
      go_ret
      exact ⟨_, rfl, HB3.out, by simp [HE.out]⟩
    | true =>
      have HP := Lib.hid (HD1.out.1 rfl)
      -- what follows the deriver
      by_cases hde : d.toList = []
      · have hdb : (d.toList == ([] : List UInt8)) = true := by simp [hde]
        have HDe := Lib.hid (show d.toList = [] ∨ PathOk d from .inl hde)
        go_wp2_with (go_at_call 37; refine (rises_of l A c _ (Kd.C_below HR.out HB3.out) HC.out HL.out).mono ?_; rintro e w5 ⟨b2, rfl, hb, hd1⟩; refine Hid.out ?_)
        refine Lib.hid ?_
        obtain ⟨c0, c1, c2, c3⟩ := info_cells (HI3.out.kept hb)
        have HB5 := Lib.hid (show Below w.heap.size w w5 from HB3.out.trans (hb.mono HB3.out.size))
        have HD2 := Lib.hid hd1
        clear hb hd1
        cases b2 with
        | false =>
          have HE := Lib.hid (show ¬ InfoOk p h d l from fun H => by have := HD2.out.2 H.2.2.2.1; cases this)
          go_wp2_with fail
          go_ret
          exact ⟨_, rfl, HB5.out, by simp [HE.out]⟩
        | true =>
          have HRi := Lib.hid (HD2.out.1 rfl)
          go_wp2_with (go_at_call 38; refine (contains_of l A c _ (Kd.C_below HR.out HB5.out) HC.out HL.out HS.out (HT.out.of HB5.out)).mono ?_; rintro e w6 ⟨b3, rfl, hb, hd1⟩; refine Hid.out ?_)
          refine Lib.hid ?_
          have HB6 := Lib.hid (show Below w.heap.size w w6 from HB5.out.trans (hb.mono HB5.out.size))
          have HD3 := Lib.hid hd1
          clear hb hd1
          have HE := Lib.hid (show (b3 = false ↔ InfoOk p h d l) from ⟨fun e => ⟨HH.out, HP.out, HDe.out, HRi.out, HD3.out.1 e⟩, fun H => HD3.out.2 H.2.2.2.2⟩)
          go_wp2_with fail
          go_ret
          exact ⟨_, rfl, HB6.out, by rw [← HE.out]; simp⟩
      · have hdb : (d.toList == ([] : List UInt8)) = false := by simp [hde]
        go_wp2_with (go_at_call 36; refine (ispath_of d _ hd (HT.out.of HB3.out)).mono ?_; rintro e w4 ⟨b1, rfl, hb, hd1⟩; refine Hid.out ?_)
        refine Lib.hid ?_
        obtain ⟨c0, c1, c2, c3⟩ := info_cells (HI3.out.kept hb)
        have HI4 := Lib.hid (HI3.out.kept hb)
        have HB4 := Lib.hid (show Below w.heap.size w w4 from HB3.out.trans (hb.mono HB3.out.size))
        have HDd := Lib.hid hd1
        clear hb hd1
        cases b1 with
        | false =>
          have HE := Lib.hid (show ¬ InfoOk p h d l from fun H => by
            rcases H.2.2.1 with e | e
            · exact hde e
            · have := HDd.out.2 e
              cases this)
          go_wp2_with fail
          go_ret
          exact ⟨_, rfl, HB4.out, by simp [HE.out]⟩
        | true =>
          have HDe := Lib.hid (show d.toList = [] ∨ PathOk d from .inr (HDd.out.1 rfl))
          go_wp2_with (go_at_call 37; refine (rises_of l A c _ (Kd.C_below HR.out HB4.out) HC.out HL.out).mono ?_; rintro e w5 ⟨b2, rfl, hb, hd1⟩; refine Hid.out ?_)
          refine Lib.hid ?_
          obtain ⟨c0, c1, c2, c3⟩ := info_cells (HI4.out.kept hb)
          have HB5 := Lib.hid (show Below w.heap.size w w5 from HB4.out.trans (hb.mono HB4.out.size))
          have HD2 := Lib.hid hd1
          clear hb hd1
          cases b2 with
          | false =>
            have HE := Lib.hid (show ¬ InfoOk p h d l from fun H => by have := HD2.out.2 H.2.2.2.1; cases this)
            go_wp2_with fail
            go_ret
            exact ⟨_, rfl, HB5.out, by simp [HE.out]⟩
          | true =>
            have HRi := Lib.hid (HD2.out.1 rfl)
            go_wp2_with (go_at_call 38; refine (contains_of l A c _ (Kd.C_below HR.out HB5.out) HC.out HL.out HS.out (HT.out.of HB5.out)).mono ?_; rintro e w6 ⟨b3, rfl, hb, hd1⟩; refine Hid.out ?_)
            refine Lib.hid ?_
            have HB6 := Lib.hid (show Below w.heap.size w w6 from HB5.out.trans (hb.mono HB5.out.size))
            have HD3 := Lib.hid hd1
            clear hb hd1
            have HE := Lib.hid (show (b3 = false ↔ InfoOk p h d l) from ⟨fun e => ⟨HH.out, HP.out, HDe.out, HRi.out, HD3.out.1 e⟩, fun H => HD3.out.2 H.2.2.2.2⟩)
            go_wp2_with fail
            go_ret
            exact ⟨_, rfl, HB6.out, by rw [← HE.out]; simp⟩
  · have HE := Lib.hid (show ¬ InfoOk p h d l from fun H => h0 (HX.out.2 H.1))
    have hxb : (x == 0) = false := by simp [h0]
    go_wp2_with fail
    go_ret
    exact ⟨_, rfl, HB2.out, by simp [HE.out]⟩
end Go.Proofs.YtcmlifbfegblgaaDoor
