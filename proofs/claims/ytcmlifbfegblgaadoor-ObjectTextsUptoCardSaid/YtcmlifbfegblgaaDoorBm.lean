/- ref11.May: by the reference's own functions. -/
import Derived.Test.YtcmlifbfegblgaaDoorBh
import Derived.Test.YtcmlifbfegblgaaDoorQObjectTextsx3
import Derived.Test.YtcmlifbfegblgaaDoorBl
namespace Go.Proofs.YtcmlifbfegblgaaDoor.QObjectTexts
set_option linter.unusedVariables false
set_option linter.unusedSimpArgs false
open Go.RowKit Go.Proofs.YtcmlifbfegblgaaDoorW.PrintWords Go.Proofs.YtcmlifbfegblgaaDoorW.PrintLast Go.Proofs.YtcmlifbfegblgaaDoorW.PrintMore
open Go.Proofs.YtcmlifbfegblgaaDoor

def stillroomref11_May.l0 (k : Nat) : List ByteArray → Option Bool
  | [] => some true
  | x :: r => (stillroomref11_path.f k x).bind fun b => if b = true then stillroomref11_May.l0 k r else some false
def stillroomref11_May.f (k : Nat) (a0_0 : ByteArray) (a0_1 : ByteArray) (a0_2 : ByteArray) (l0_3 : List ByteArray) : Option (Bool) :=
  (stillroomref01_Decode.f k a0_1).bind fun x => if x.2 = 0 ∧ x.1.length = 32 then
    ((stillroomref11_path.f k a0_0).bind fun b => if b = true then
      ((if a0_2.toList = ([] : List UInt8) then some true else stillroomref11_path.f k a0_2).bind fun b2 => if b2 = true then
        ((stillroomref11_rises.f k l0_3).bind fun b3 => if b3 = true then stillroomref11_May.l0 k l0_3 else some false) else some false) else some false) else some false
theorem stillroomref11_May.mono_l (k : Nat) : ∀ l, LeO (stillroomref11_May.l0 k l) (stillroomref11_May.l0 (k + 1) l)
  | [] => LeO.refl _
  | x :: r => LeO.bind (stillroomref11_path.mono x k) fun b => LeO.ite (stillroomref11_May.mono_l k r) (LeO.refl _)
theorem stillroomref11_May.mono : ∀ a0 a1 a2 a3 k, LeO (stillroomref11_May.f k a0 a1 a2 a3) (stillroomref11_May.f (k + 1) a0 a1 a2 a3) := by
  intro a0 a1 a2 a3 k
  exact LeO.bind (stillroomref01_Decode.mono a1 k) fun x => LeO.ite (LeO.bind (stillroomref11_path.mono a0 k) fun b => LeO.ite (LeO.bind (LeO.ite (LeO.refl _) (stillroomref11_path.mono a2 k)) fun b2 => LeO.ite (LeO.bind (stillroomref11_rises.mono a3 k) fun b3 => LeO.ite (stillroomref11_May.mono_l k a3) (LeO.refl _)) (LeO.refl _)) (LeO.refl _)) (LeO.refl _)
theorem may_step (k : Nat) (l : List ByteArray) (i : Nat) (h : i < l.length) : stillroomref11_May.l0 k (l.drop i) = (stillroomref11_path.f k (l.getD i ByteArray.empty)).bind fun b => if b = true then stillroomref11_May.l0 k (l.drop (i + 1)) else some false := by
  rw [List.drop_eq_getElem_cons h]
  have e : l.getD i ByteArray.empty = l[i] := by simp [h, List.getD]
  rw [e]
  rfl
set_option maxHeartbeats 4000000 in
set_option maxRecDepth 100000 in
theorem stillroomref11_May.calls (k : Nat) (a0_0 : ByteArray) (a0_1 : ByteArray) (a0_2 : ByteArray) (A0_3 : Option Addr) (c0_3 : Nat) (l0_3 : List ByteArray) (r : Bool) (w : World) (hr0_3 : Kd.C Kd.string w A0_3 l0_3.length l0_3) (hc0_3 : l0_3.length ≤ c0_3) (h : stillroomref11_May.f k a0_0 a0_1 a0_2 l0_3 = some r) :
    Calls Tryd.prog 19 #[.agg #[.string a0_0, .string a0_1, .string a0_2, .slice A0_3 l0_3.length c0_3]] w fun e w' => e = .returned (.bool r) ∧ Below w.heap.size w w' := by
  have HR := Lib.hid hr0_3
  have HC := Lib.hid hc0_3
  unfold stillroomref11_May.f at h
  obtain ⟨⟨r1, r2⟩, hf, h⟩ := Option.bind_eq_some_iff.1 h
  have HF := Lib.hid hf
  have H := Lib.hid h
  clear hr0_3 hc0_3 hf h
  go_enter Tryd.func19, Tryd.ntmps19
  go_wp2_with (go_at_call 42; refine (rparse_of k a0_1 r1 r2 _ HF.out).mono ?_; rintro e w' ⟨z, x, rfl, hz1, hz2, hb, hx⟩; refine Hid.out ?_)
  refine Lib.hid ?_
  have hI : InfoAt w' w.heap.size a0_0 a0_1 a0_2 (.slice A0_3 l0_3.length c0_3) := (hb.block _ (by simp)).trans (heap_alloc_new w _)
  have hB : Below w.heap.size w w' := ((Below.refl _ _).alloc (Nat.le_refl _) _).trans (hb.mono (by simp))
  have hN : w.heap.size < w'.heap.size := (Array.getElem?_eq_some_iff.1 hI).1
  have info68 : (Tryd.prog.info? 68).map (·.size) = some z.size := by rw [hz1]; kernel_rfl
  have h32 : z32.size = z.size := by rw [hz1]; rfl
  have HX := Lib.hid hx
  have HM := Lib.hid (show l0_3.length ≤ 9223372036854775807 from HR.out.2.1)
  clear hb hx
  go_wp2_with (refine wpList_store_row rfl 68 _ _ rfl w'.heap.size z rfl rfl 68 z32 (heap_alloc_new _ _) info68 h32 hz2 ?_; refine Hid.out ?_)
  refine Lib.hid ?_
  have hI2 : InfoAt ((w'.alloc (.cells #[Value.int IntKind.u8 0, Value.int IntKind.u8 0, Value.int IntKind.u8 0, Value.int IntKind.u8 0, Value.int IntKind.u8 0, Value.int IntKind.u8 0, Value.int IntKind.u8 0, Value.int IntKind.u8 0, Value.int IntKind.u8 0, Value.int IntKind.u8 0, Value.int IntKind.u8 0, Value.int IntKind.u8 0, Value.int IntKind.u8 0, Value.int IntKind.u8 0, Value.int IntKind.u8 0, Value.int IntKind.u8 0, Value.int IntKind.u8 0, Value.int IntKind.u8 0, Value.int IntKind.u8 0, Value.int IntKind.u8 0, Value.int IntKind.u8 0, Value.int IntKind.u8 0, Value.int IntKind.u8 0, Value.int IntKind.u8 0, Value.int IntKind.u8 0, Value.int IntKind.u8 0, Value.int IntKind.u8 0, Value.int IntKind.u8 0, Value.int IntKind.u8 0, Value.int IntKind.u8 0, Value.int IntKind.u8 0, Value.int IntKind.u8 0] 68)).setRow w'.heap.size z) w.heap.size a0_0 a0_1 a0_2 (.slice A0_3 l0_3.length c0_3) := (setRow_other _ _ _ _ (by omega)).trans ((heap_alloc_old _ _ _ hN).trans hI)
  have hB2 : Below w.heap.size w ((w'.alloc (.cells #[Value.int IntKind.u8 0, Value.int IntKind.u8 0, Value.int IntKind.u8 0, Value.int IntKind.u8 0, Value.int IntKind.u8 0, Value.int IntKind.u8 0, Value.int IntKind.u8 0, Value.int IntKind.u8 0, Value.int IntKind.u8 0, Value.int IntKind.u8 0, Value.int IntKind.u8 0, Value.int IntKind.u8 0, Value.int IntKind.u8 0, Value.int IntKind.u8 0, Value.int IntKind.u8 0, Value.int IntKind.u8 0, Value.int IntKind.u8 0, Value.int IntKind.u8 0, Value.int IntKind.u8 0, Value.int IntKind.u8 0, Value.int IntKind.u8 0, Value.int IntKind.u8 0, Value.int IntKind.u8 0, Value.int IntKind.u8 0, Value.int IntKind.u8 0, Value.int IntKind.u8 0, Value.int IntKind.u8 0, Value.int IntKind.u8 0, Value.int IntKind.u8 0, Value.int IntKind.u8 0, Value.int IntKind.u8 0, Value.int IntKind.u8 0] 68)).setRow w'.heap.size z) := below_setRow (hB.alloc hB.size _) hB.size _
  revert hI2 hB2
  generalize ((w'.alloc (.cells #[Value.int IntKind.u8 0, Value.int IntKind.u8 0, Value.int IntKind.u8 0, Value.int IntKind.u8 0, Value.int IntKind.u8 0, Value.int IntKind.u8 0, Value.int IntKind.u8 0, Value.int IntKind.u8 0, Value.int IntKind.u8 0, Value.int IntKind.u8 0, Value.int IntKind.u8 0, Value.int IntKind.u8 0, Value.int IntKind.u8 0, Value.int IntKind.u8 0, Value.int IntKind.u8 0, Value.int IntKind.u8 0, Value.int IntKind.u8 0, Value.int IntKind.u8 0, Value.int IntKind.u8 0, Value.int IntKind.u8 0, Value.int IntKind.u8 0, Value.int IntKind.u8 0, Value.int IntKind.u8 0, Value.int IntKind.u8 0, Value.int IntKind.u8 0, Value.int IntKind.u8 0, Value.int IntKind.u8 0, Value.int IntKind.u8 0, Value.int IntKind.u8 0, Value.int IntKind.u8 0, Value.int IntKind.u8 0, Value.int IntKind.u8 0] 68)).setRow w'.heap.size z) = w2
  intro hI2 hB2
  clear hI hB hN info68 h32 hz1 hz2
  obtain ⟨c0, c1, c2, c3⟩ := info_cells hI2
  have HI2 := Lib.hid hI2
  have HB2 := Lib.hid hB2
  clear hI2 hB2
  have H := H.out
  by_cases h0 : x = 0
  · subst h0
    rw [if_pos (HX.out.1 rfl)] at H
    obtain ⟨b1, hf1, H⟩ := Option.bind_eq_some_iff.1 H
    have HF1 := Lib.hid hf1
    clear hf1
    go_wp2_with (go_at_call 43; refine (stillroomref11_path.calls k a0_0 b1 _ HF1.out).mono ?_; rintro e w3 ⟨rfl, hb⟩; refine Hid.out ?_)
    refine Lib.hid ?_
    obtain ⟨c0, c1, c2, c3⟩ := info_cells (HI2.out.kept hb)
    have HI3 := Lib.hid (HI2.out.kept hb)
    have HB3 := Lib.hid (show Below w.heap.size w w3 from HB2.out.trans (hb.mono HB2.out.size))
    clear hb
    cases b1 with
    | false =>
      obtain rfl : r = false := (Option.some.inj H).symm
      go_wp2_with fail
      go_ret
      exact ⟨rfl, HB3.out⟩
    | true =>
      rw [if_pos rfl] at H
      by_cases hde : a0_2.toList = []
      · have hdb : (a0_2.toList != ([] : List UInt8)) = false := by simp [hde]
        have hdb2 : a0_2.toList.isEmpty = true := by simp [hde]
        rw [if_pos hde, Option.bind_some, if_pos rfl] at H
        obtain ⟨b3, hf3, H⟩ := Option.bind_eq_some_iff.1 H
        have HF3 := Lib.hid hf3
        clear hf3
        go_wp2_with (go_at_call 44; refine (stillroomref11_rises.calls k A0_3 c0_3 l0_3 b3 _ (Kd.C_below HR.out HB3.out) HC.out HF3.out).mono ?_; rintro e w5 ⟨rfl, q5, rfl⟩; refine Hid.out ?_)
        refine Lib.hid ?_
        have hb5 : Below w.heap.size w (World.drewN w3 q5) := pw_below_drewN HB3.out _
        have hi5 : InfoAt (World.drewN w3 q5) w.heap.size a0_0 a0_1 a0_2 (.slice A0_3 l0_3.length c0_3) := HI3.out
        revert hb5 hi5
        generalize World.drewN w3 q5 = w5
        intro hb5 hi5
        obtain ⟨c0, c1, c2, c3⟩ := info_cells hi5
        have HB5 := Lib.hid hb5
        have HI5 := Lib.hid hi5
        clear hb5 hi5
        cases b3 with
        | false =>
          obtain rfl : r = false := (Option.some.inj H).symm
          go_wp2_with fail
          go_ret
          exact ⟨rfl, HB5.out⟩
        | true =>
          have HL := Lib.hid (show stillroomref11_May.l0 k (l0_3.drop 0) = some r from H)
          clear H
          go_wp2_with fail
          go_loopw [5] (fun i wr => ∃ j : Nat, j ≤ l0_3.length ∧ i = .int .i64 j ∧ Below w.heap.size w wr ∧ InfoAt wr w.heap.size a0_0 a0_1 a0_2 (.slice A0_3 l0_3.length c0_3) ∧ stillroomref11_May.l0 k (l0_3.drop j) = some r) (fun i _ => l0_3.length - (intOf i).toNat)
          case atStart => exact ⟨0, by omega, rfl, HB5.out, HI5.out, HL.out⟩
          case round =>
            obtain ⟨j, hj, rfl, hb, hi, hl⟩ := hrel
            obtain ⟨c0, c1, c2, c3⟩ := info_cells hi
            have HB6 := Lib.hid hb
            have HI6 := Lib.hid hi
            by_cases hlt : j < l0_3.length
            · rw [may_step k l0_3 j hlt] at hl
              obtain ⟨b4, hf4, hl⟩ := Option.bind_eq_some_iff.1 hl
              obtain ⟨ad, rfl, hx⟩ := Kd.at_string (Kd.C_below HR.out HB6.out) (j : Int) (by omega) (by omega)
              obtain ⟨y, hy⟩ : ∃ y, l0_3.getD j ByteArray.empty = y := ⟨_, rfl⟩
              rw [hy] at hf4
              have hx2 : wr.cell? (ad.add j) = some (.string y) := by rw [← hy]; exact hx
              have HF4 := Lib.hid hf4
              have HL4 := Lib.hid hl
              have hj1 : wrap64 ((j : Int) + 1) = ((j + 1 : Nat) : Int) := by have := HM.out; unfold wrap64; omega
              clear hb hi hl hf4 hx hy
              go_wp2_with (go_at_call 43; refine (stillroomref11_path.calls k y b4 _ HF4.out).mono ?_; rintro e w7 ⟨rfl, hb7⟩; refine Hid.out ?_)
              refine Lib.hid ?_
              have HI7 := Lib.hid (HI6.out.kept hb7)
              have HB7 := Lib.hid (show Below w.heap.size w w7 from HB6.out.trans (hb7.mono HB6.out.size))
              clear hb7
              cases b4 with
              | false =>
                obtain rfl : r = false := (Option.some.inj HL4.out).symm
                go_wp2_with fail
                go_ret
                exact ⟨rfl, HB7.out⟩
              | true =>
                have HL5 := Lib.hid (show stillroomref11_May.l0 k (l0_3.drop (j + 1)) = some r from HL4.out)
                go_wp2_with fail
                go_roundw
                case rel => exact ⟨j + 1, hlt, by rw [hj1], HB7.out, HI7.out, HL5.out⟩
                case measure =>
                  rw [hj1]
                  show l0_3.length - ((j + 1 : Nat) : Int).toNat < l0_3.length - ((j : Nat) : Int).toNat
                  rw [Int.toNat_natCast, Int.toNat_natCast]
                  exact Nat.sub_lt_sub_left hlt (Nat.lt_succ_self j)
            · obtain rfl : j = l0_3.length := by omega
              rw [List.drop_length] at hl
              obtain rfl : r = true := (Option.some.inj hl).symm
              clear hb hi hl
              go_wp2_with fail
              go_ret
              exact ⟨rfl, HB6.out⟩
      · have hdb : (a0_2.toList != ([] : List UInt8)) = true := by simp [hde]
        have hdb2 : a0_2.toList.isEmpty = false := by simp [hde]
        rw [if_neg hde] at H
        obtain ⟨b2, hf2, H⟩ := Option.bind_eq_some_iff.1 H
        have HF2 := Lib.hid hf2
        clear hf2
        go_wp2_with (go_at_call 43; refine (stillroomref11_path.calls k a0_2 b2 _ HF2.out).mono ?_; rintro e w4 ⟨rfl, hb⟩; refine Hid.out ?_)
        refine Lib.hid ?_
        obtain ⟨c0, c1, c2, c3⟩ := info_cells (HI3.out.kept hb)
        have HI4 := Lib.hid (HI3.out.kept hb)
        have HB4 := Lib.hid (show Below w.heap.size w w4 from HB3.out.trans (hb.mono HB3.out.size))
        clear hb
        cases b2 with
        | false =>
          obtain rfl : r = false := (Option.some.inj H).symm
          go_wp2_with fail
          go_ret
          exact ⟨rfl, HB4.out⟩
        | true =>
          rw [if_pos rfl] at H
          obtain ⟨b3, hf3, H⟩ := Option.bind_eq_some_iff.1 H
          have HF3 := Lib.hid hf3
          clear hf3
          go_wp2_with (go_at_call 44; refine (stillroomref11_rises.calls k A0_3 c0_3 l0_3 b3 _ (Kd.C_below HR.out HB4.out) HC.out HF3.out).mono ?_; rintro e w5 ⟨rfl, q5, rfl⟩; refine Hid.out ?_)
          refine Lib.hid ?_
          have hb5 : Below w.heap.size w (World.drewN w4 q5) := pw_below_drewN HB4.out _
          have hi5 : InfoAt (World.drewN w4 q5) w.heap.size a0_0 a0_1 a0_2 (.slice A0_3 l0_3.length c0_3) := HI4.out
          revert hb5 hi5
          generalize World.drewN w4 q5 = w5
          intro hb5 hi5
          obtain ⟨c0, c1, c2, c3⟩ := info_cells hi5
          have HB5 := Lib.hid hb5
          have HI5 := Lib.hid hi5
          clear hb5 hi5
          cases b3 with
          | false =>
            obtain rfl : r = false := (Option.some.inj H).symm
            go_wp2_with fail
            go_ret
            exact ⟨rfl, HB5.out⟩
          | true =>
            have HL := Lib.hid (show stillroomref11_May.l0 k (l0_3.drop 0) = some r from H)
            clear H
            go_wp2_with fail
            go_loopw [5] (fun i wr => ∃ j : Nat, j ≤ l0_3.length ∧ i = .int .i64 j ∧ Below w.heap.size w wr ∧ InfoAt wr w.heap.size a0_0 a0_1 a0_2 (.slice A0_3 l0_3.length c0_3) ∧ stillroomref11_May.l0 k (l0_3.drop j) = some r) (fun i _ => l0_3.length - (intOf i).toNat)
            case atStart => exact ⟨0, by omega, rfl, HB5.out, HI5.out, HL.out⟩
            case round =>
              obtain ⟨j, hj, rfl, hb, hi, hl⟩ := hrel
              obtain ⟨c0, c1, c2, c3⟩ := info_cells hi
              have HB6 := Lib.hid hb
              have HI6 := Lib.hid hi
              by_cases hlt : j < l0_3.length
              · rw [may_step k l0_3 j hlt] at hl
                obtain ⟨b4, hf4, hl⟩ := Option.bind_eq_some_iff.1 hl
                obtain ⟨ad, rfl, hx⟩ := Kd.at_string (Kd.C_below HR.out HB6.out) (j : Int) (by omega) (by omega)
                obtain ⟨y, hy⟩ : ∃ y, l0_3.getD j ByteArray.empty = y := ⟨_, rfl⟩
                rw [hy] at hf4
                have hx2 : wr.cell? (ad.add j) = some (.string y) := by rw [← hy]; exact hx
                have HF4 := Lib.hid hf4
                have HL4 := Lib.hid hl
                have hj1 : wrap64 ((j : Int) + 1) = ((j + 1 : Nat) : Int) := by have := HM.out; unfold wrap64; omega
                clear hb hi hl hf4 hx hy
                go_wp2_with (go_at_call 43; refine (stillroomref11_path.calls k y b4 _ HF4.out).mono ?_; rintro e w7 ⟨rfl, hb7⟩; refine Hid.out ?_)
                refine Lib.hid ?_
                have HI7 := Lib.hid (HI6.out.kept hb7)
                have HB7 := Lib.hid (show Below w.heap.size w w7 from HB6.out.trans (hb7.mono HB6.out.size))
                clear hb7
                cases b4 with
                | false =>
                  obtain rfl : r = false := (Option.some.inj HL4.out).symm
                  go_wp2_with fail
                  go_ret
                  exact ⟨rfl, HB7.out⟩
                | true =>
                  have HL5 := Lib.hid (show stillroomref11_May.l0 k (l0_3.drop (j + 1)) = some r from HL4.out)
                  go_wp2_with fail
                  go_roundw
                  case rel => exact ⟨j + 1, hlt, by rw [hj1], HB7.out, HI7.out, HL5.out⟩
                  case measure =>
                    rw [hj1]
                    show l0_3.length - ((j + 1 : Nat) : Int).toNat < l0_3.length - ((j : Nat) : Int).toNat
                    rw [Int.toNat_natCast, Int.toNat_natCast]
                    exact Nat.sub_lt_sub_left hlt (Nat.lt_succ_self j)
              · obtain rfl : j = l0_3.length := by omega
                rw [List.drop_length] at hl
                obtain rfl : r = true := (Option.some.inj hl).symm
                clear hb hi hl
                go_wp2_with fail
                go_ret
                exact ⟨rfl, HB6.out⟩
  · have hxb : (x != 0) = true := by simp [h0]
    rw [if_neg (fun e => h0 (HX.out.2 e))] at H
    obtain rfl : r = false := (Option.some.inj H).symm
    go_wp2_with fail
    go_ret
    exact ⟨rfl, HB2.out⟩
end Go.Proofs.YtcmlifbfegblgaaDoor.QObjectTexts
