/- path.Name: which names may be. -/
import Derived.Test.YtcmlifbfegblgaaDoorBg
import Derived.Test.YtcmlifbfegblgaaDoorQObjectTextsx1
namespace Go.Proofs.YtcmlifbfegblgaaDoor
set_option linter.unusedVariables false
set_option linter.unusedSimpArgs false
open Go.RowKit Go.Proofs.YtcmlifbfegblgaaDoorW.PrintWords Go.Proofs.YtcmlifbfegblgaaDoorW.PrintLast Go.Proofs.YtcmlifbfegblgaaDoorW.PrintMore
open Go.Proofs.YtcmlifbfegblgaaDoor.QObjectTexts

/-- Is a byte a name's? -/
def inName (c : Int) : Prop := (97 ≤ c ∧ c ≤ 122) ∨ (65 ≤ c ∧ c ≤ 90) ∨ (48 ≤ c ∧ c ≤ 57) ∨ c = 43 ∨ c = 45 ∨ c = 46 ∨ c = 95
def NameOk (s : ByteArray) : Prop := 1 ≤ s.size ∧ s.size ≤ 27 ∧ bt s 0 ≠ 46 ∧ ∀ i : Int, 0 ≤ i → i < s.size → inName (bt s i)
def least (j : Int) : Int := if j = 0 then 97 else if j = 1 then 65 else if j = 2 then 48 else if j = 3 then 43 else if j = 4 then 45 else if j = 5 then 46 else 95
def most (j : Int) : Int := if j = 0 then 122 else if j = 1 then 90 else if j = 2 then 57 else if j = 3 then 43 else if j = 4 then 45 else if j = 5 then 46 else 95
theorem inName_iff (c : Int) : inName c ↔ ∃ j : Int, 0 ≤ j ∧ j < 7 ∧ least j ≤ c ∧ c ≤ most j := by
  constructor
  · rintro (h | h | h | h | h | h | h)
    · exact ⟨0, by decide, by decide, h.1, h.2⟩
    · exact ⟨1, by decide, by decide, h.1, h.2⟩
    · exact ⟨2, by decide, by decide, h.1, h.2⟩
    · subst h; exact ⟨3, by decide, by decide, by decide, by decide⟩
    · subst h; exact ⟨4, by decide, by decide, by decide, by decide⟩
    · subst h; exact ⟨5, by decide, by decide, by decide, by decide⟩
    · subst h; exact ⟨6, by decide, by decide, by decide, by decide⟩
  · rintro ⟨j, h0, h1, h2, h3⟩
    have : j = 0 ∨ j = 1 ∨ j = 2 ∨ j = 3 ∨ j = 4 ∨ j = 5 ∨ j = 6 := by omega
    unfold inName
    rcases this with rfl | rfl | rfl | rfl | rfl | rfl | rfl <;> simp [least, most] at h2 h3 <;> omega
def ranges14 : Array Value := #[.int .u8 97, .int .u8 122, .int .u8 65, .int .u8 90, .int .u8 48, .int .u8 57, .int .u8 43, .int .u8 43, .int .u8 45, .int .u8 45, .int .u8 46, .int .u8 46, .int .u8 95, .int .u8 95]

theorem range_at (j : Int) (h0 : 0 ≤ j) (h1 : j < 7) (W : World) : (Instr.index 129 (.agg #[.int .u8 97, .int .u8 122, .int .u8 65, .int .u8 90, .int .u8 48, .int .u8 57, .int .u8 43, .int .u8 43, .int .u8 45, .int .u8 45, .int .u8 46, .int .u8 46, .int .u8 95, .int .u8 95]) (.int .i64 j)).run Tryd.prog W = .ok (.agg #[.int .u8 (least j), .int .u8 (most j)]) W := by
  have : j = 0 ∨ j = 1 ∨ j = 2 ∨ j = 3 ∨ j = 4 ∨ j = 5 ∨ j = 6 := by omega
  obtain ⟨i, hi, hsz⟩ := Option.map_eq_some_iff.1 (show (Tryd.prog.info? 128).map (·.size) = some 2 by kernel_rfl)
  rcases this with rfl | rfl | rfl | rfl | rfl | rfl | rfl <;> simp [Instr.index, asIntOf, asInt, run_underlying Tryd.underlying129, part, isAgg, sizeOf, typeInfo, Tryd.underlying128, run_underlying Tryd.underlying128, least, most, hi, hsz]
set_option maxHeartbeats 4000000 in
set_option maxRecDepth 100000 in
theorem pname_of (s : ByteArray) (w : World) (hs : s.size ≤ 16777216) (T : Tabs w) :
    Calls Tryd.prog 77 #[.string s] w fun e w' => ∃ b, e = .returned (.bool b) ∧ Below w.heap.size w w' ∧ (b = true ↔ NameOk s) := by
  have HT := Lib.hid T
  clear T
  have HI := Lib.hid (show (Tryd.prog.info? 129).map (·.size) = some ranges14.size by kernel_rfl)
  by_cases h1 : 1 ≤ s.size ∧ s.size ≤ 27
  · have hw : path_within_int.f s.size 1 27 = some true := by unfold path_within_int.f; rw [if_pos (by omega)]; simp; omega
    have HW := Lib.hid hw
    clear hw
    have h1p : 0 < s.size := by omega
    have hx : ∀ h : 0 < s.size, ((s[0]'h).toNat : Int) = bt s 0 := bt_at s 0
    have H1 := Lib.hid h1
    clear h1
    by_cases h46 : bt s 0 = 46
    · have h46b : (bt s 0 == 46) = true := by simp [h46]
      have hE := Lib.hid (show ¬ NameOk s from fun h => h.2.2.1 h46)
      clear h46
      go_enter Tryd.func77, Tryd.ntmps77
      go_wp2_with fail
      go_step3
      go_wp2_with (go_at_call 96; refine (path_within_int.calls _ _ _ _ _ HW.out).mono ?_; rintro e w' ⟨rfl, q, rfl⟩)
      rw [Exit.noGoto_ret]
      go_ret
      exact ⟨_, rfl, pw_below_drewN (Below.refl _ _) _, by simp [hE.out]⟩
    · have h46b : (bt s 0 == 46) = false := by simp [h46]
      have H46 := Lib.hid h46
      clear h46
      go_enter Tryd.func77, Tryd.ntmps77
      go_wp2_with fail
      go_step3
      go_wp2_with (go_at_call 96; refine (path_within_int.calls _ _ _ _ _ HW.out).mono ?_; rintro e w' ⟨rfl, q, rfl⟩)
      go_step3
      go_wp2_with fail
      clear hx h1p h46b
      generalize hgw : w.drewN q = w1
      have HB := Lib.hid (show Below w.heap.size w w1 from hgw ▸ pw_below_drewN (Below.refl _ _) _)
      clear hgw
      go_loopw [17] (fun i wr => ∃ k : Int, 0 ≤ k ∧ k ≤ s.size ∧ i = .int .i64 k ∧ Below w.heap.size w wr ∧ ∀ i : Int, 0 ≤ i → i < k → inName (bt s i)) (fun i _ => ((s.size : Int) - intOf i).toNat)
      case atStart => exact ⟨0, by omega, by omega, rfl, HB.out, fun i h0 h1 => by omega⟩
      case round =>
        obtain ⟨k, hk0, hk1, rfl, hb, hall⟩ := hrel
        have HB1 := Lib.hid hb
        have HAll := Lib.hid hall
        clear hb hall
        by_cases hk : k < s.size
        · have hr := (HT.out.of HB1.out).ranges
          have HR := Lib.hid hr
          clear hr
          go_wp2_with (refine wpList_load_row rfl 129 _ rfl 4 rfl 129 #[.int .u8 97, .int .u8 122, .int .u8 65, .int .u8 90, .int .u8 48, .int .u8 57, .int .u8 43, .int .u8 43, .int .u8 45, .int .u8 45, .int .u8 46, .int .u8 46, .int .u8 95, .int .u8 95] (0, 0) _ HR.out Tryd.underlying129 rfl HI.out ?_)
          obtain ⟨c, hc⟩ : ∃ c, bt s k = c := ⟨_, rfl⟩
          have hx := bt_at s k
          rw [hc] at hx
          have HC := Lib.hid hc
          clear hc
          go_loopw [21] (fun i wq => ∃ j : Int, 0 ≤ j ∧ j ≤ 7 ∧ i = .int .i64 j ∧ Below w.heap.size w wq ∧ ∀ i : Int, 0 ≤ i → i < j → ¬ (least i ≤ c ∧ c ≤ most i)) (fun i _ => (7 - intOf i).toNat)
          case atStart => exact ⟨0, by omega, by omega, rfl, HB1.out, fun i h0 h1 => by omega⟩
          case round =>
            obtain ⟨j, hj0, hj1, rfl, hb, hnone⟩ := hrel
            have HB2 := Lib.hid hb
            have HNo := Lib.hid hnone
            clear hb hnone
            by_cases hj : j = 7
            · subst hj
              have HE := Lib.hid (show ¬ NameOk s from fun h => by
                obtain ⟨i, i0, i1, i2⟩ := (inName_iff _).1 (h.2.2.2 k hk0 hk)
                rw [HC.out] at i2
                exact HNo.out i i0 i1 i2)
              go_wp2
              rw [Exit.noGoto_ret]
              go_ret
              exact ⟨_, rfl, HB2.out, by simp [HE.out]⟩
            · have HJ : j = 0 ∨ j = 1 ∨ j = 2 ∨ j = 3 ∨ j = 4 ∨ j = 5 ∨ j = 6 := by omega
              have HWb := Lib.hid (show path_within_byte.f c (least j) (most j) = some (decide (least j ≤ c ∧ c ≤ most j)) by
                unfold path_within_byte.f
                split <;> simp [*])
              obtain ⟨b, hb⟩ : ∃ b, decide (least j ≤ c ∧ c ≤ most j) = b := ⟨_, rfl⟩
              rw [hb] at HWb
              have HD := Lib.hid hb
              clear hb hj
              have hix := range_at j hj0 (by omega)
              obtain ⟨l, hl⟩ : ∃ l, least j = l := ⟨_, rfl⟩
              obtain ⟨m, hm⟩ : ∃ m, most j = m := ⟨_, rfl⟩
              rw [hl, hm] at hix
              rw [hl, hm] at HWb HD
              have HI2 := Lib.hid (show (Tryd.prog.info? 128).map (·.size) = some (#[Value.int .u8 l, .int .u8 m]).size by kernel_rfl)
              go_wp2_with (refine wpList_store_row rfl 128 _ _ rfl wr.heap.size #[.int .u8 l, .int .u8 m] rfl rfl 128 _ (heap_alloc_new _ _) HI2.out rfl rfl ?_)
              cases b with
              | true =>
                have HN := Lib.hid (show inName c from (inName_iff c).2 ⟨j, hj0, by omega, by rw [hl, hm]; exact of_decide_eq_true HD.out⟩)
                go_quiet (first | (go_at_call 97; refine (path_within_byte.calls c _ _ true _ HWb.out).mono ?_; rintro e w' ⟨rfl, q, rfl⟩; exact ⟨rfl, _, World.drewN_drewN _ _ _⟩))
                go_wp2_with fail
                go_roundw
                case rel =>
                  refine ⟨k + 1, by omega, by omega, by go_num, pw_below_drewN (HB2.out.alloc HB2.out.size _) _, fun i h0 h1 => ?_⟩
                  rcases Int.lt_or_le i k with h | h
                  · exact HAll.out i h0 h
                  · rw [show i = k by omega, HC.out]; exact HN.out
                case measure => simp only [intOf]; omega
              | false =>
                go_quiet (first | (go_at_call 97; refine (path_within_byte.calls c _ _ false _ HWb.out).mono ?_; rintro e w' ⟨rfl, q, rfl⟩; exact ⟨rfl, _, World.drewN_drewN _ _ _⟩))
                go_wp2_with fail
                go_roundw
                case rel =>
                  refine ⟨j + 1, by omega, by omega, by go_num, pw_below_drewN (HB2.out.alloc HB2.out.size _) _, fun i h0 h1 => ?_⟩
                  rcases Int.lt_or_le i j with h | h
                  · exact HNo.out i h0 h
                  · rw [show i = j by omega, hl, hm]; exact of_decide_eq_false HD.out
                case measure => simp only [intOf]; omega
        · go_wp2
          go_ret
          refine ⟨_, rfl, HB1.out, ⟨fun _ => ⟨H1.out.1, H1.out.2, H46.out, fun i h0 h1 => HAll.out i h0 (by omega)⟩, fun _ => rfl⟩⟩
  · have hw : path_within_int.f s.size 1 27 = some false := by
      unfold path_within_int.f
      split
      · simp; omega
      · rfl
    have HW := Lib.hid hw
    have HE := Lib.hid (show ¬ NameOk s from fun h => h1 ⟨h.1, h.2.1⟩)
    clear hw h1
    go_enter Tryd.func77, Tryd.ntmps77
    go_wp2_with fail
    go_step3
    go_wp2_with (go_at_call 96; refine (path_within_int.calls _ _ _ _ _ HW.out).mono ?_; rintro e w' ⟨rfl, q, rfl⟩)
    rw [Exit.noGoto_ret]
    go_ret
    exact ⟨_, rfl, pw_below_drewN (Below.refl _ _) _, by simp [HE.out]⟩
end Go.Proofs.YtcmlifbfegblgaaDoor
