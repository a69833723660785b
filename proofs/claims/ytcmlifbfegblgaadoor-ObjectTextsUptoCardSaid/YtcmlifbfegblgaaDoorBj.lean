/- path.Split, object.isPath: which texts are paths. -/
import Derived.Test.YtcmlifbfegblgaaDoorBi
namespace Go.Proofs.YtcmlifbfegblgaaDoor
set_option linter.unusedVariables false
set_option linter.unusedSimpArgs false
open Go.RowKit Go.Proofs.YtcmlifbfegblgaaDoorW.PrintWords Go.Proofs.YtcmlifbfegblgaaDoorW.PrintLast Go.Proofs.YtcmlifbfegblgaaDoorW.PrintMore
open Go.Proofs.YtcmlifbfegblgaaDoor.QObjectTexts

def store : ByteArray := ⟨#[47, 115, 116, 111, 114, 101, 47]⟩
/-- What lies behind the store's own part. -/
def RestOk (r : ByteArray) : Prop := 33 ≤ r.size ∧ bt r 32 = 45 ∧ NameOk (r.extract 33 r.size) ∧ DecOk (r.extract 0 32)
def HasStore (s : ByteArray) : Prop := 7 ≤ s.size ∧ (s.extract 0 7).toList = store.toList
def PathOk (s : ByteArray) : Prop := HasStore s ∧ RestOk (s.extract 7 s.size)
theorem cut_yes (s : ByteArray) (h : HasStore s) : strings_CutPrefix.f s store = some (s.extract 7 s.size, true) := by
  have hz : store.size = 7 := rfl
  have h1 := h.1
  unfold strings_CutPrefix.f stringslite_CutPrefix.f stringslite_HasPrefix.f
  rw [hz, if_pos (by omega), if_pos (by omega), if_pos (by omega)]
  have e : ((s.extract 0 (((7 : Nat) : Int)).toNat).toList == store.toList) = true := beq_iff_eq.2 h.2
  rw [e, Option.bind_some, if_pos rfl, if_pos (by omega), if_pos (by omega)]
  rfl
theorem cut_no (s : ByteArray) (h : ¬ HasStore s) : strings_CutPrefix.f s store = some (s, false) := by
  have hz : store.size = 7 := rfl
  unfold strings_CutPrefix.f stringslite_CutPrefix.f stringslite_HasPrefix.f
  rw [hz]
  by_cases h7 : 7 ≤ s.size
  · rw [if_pos (by omega), if_pos (by omega), if_pos (by omega)]
    have e : ((s.extract 0 (((7 : Nat) : Int)).toNat).toList == store.toList) = false := beq_eq_false_iff_ne.2 (fun e => h ⟨h7, e⟩)
    rw [e]
    rfl
  · rw [if_neg (by omega)]
    rfl

set_option maxHeartbeats 4000000 in
set_option maxRecDepth 100000 in
theorem psplit_of (s : ByteArray) (w : World) (hs : s.size ≤ 16777216) (T : Tabs w) :
    Calls Tryd.prog 59 #[.string s] w fun e w' => ∃ a b x, e = .returned (.tuple #[.string a, .string b, .int .i64 x]) ∧ Below w.heap.size w w' ∧ (x = 0 ↔ PathOk s) := by
  have HT := Lib.hid T
  clear T
  have hmix : Tryd.prog.follows .mixedOrders = true := by kernel_rfl
  by_cases hst : HasStore s
  · obtain ⟨r, hr⟩ : ∃ r, s.extract 7 s.size = r := ⟨_, rfl⟩
    have hrs : r.size ≤ 16777216 := by rw [← hr, ByteArray.size_extract]; omega
    have HC := Lib.hid (hr ▸ cut_yes s hst)
    have HP := Lib.hid (show PathOk s ↔ RestOk r from ⟨fun h => hr ▸ h.2, fun h => ⟨hst, hr ▸ h⟩⟩)
    clear hst hr
    by_cases h33 : 33 ≤ r.size
    · have hx : ∀ h : 32 < r.size, ((r[32]'h).toNat : Int) = bt r 32 := bt_at r 32
      have hlt : 32 < r.size := by omega
      have hle : decide ((r.size : Int) ≤ 32) = false := decide_eq_false (by omega)
      have H33 := Lib.hid h33
      clear h33
      by_cases h45 : bt r 32 = 45
      · have h45b : (bt r 32 != 45) = false := by simp [h45]
        have H45 := Lib.hid h45
        clear h45
        go_enter Tryd.func59, Tryd.ntmps59
        go_wp2_with (first | (go_at_call 76; refine (strings_CutPrefix.calls _ _ _ _ _ HC.out).mono ?_; rintro e w' ⟨rfl, q, rfl⟩) | (go_at_call 77; refine (pname_of (r.extract 33 r.size) _ (by rw [ByteArray.size_extract]; omega) (HT.out.of (pw_below_drewN (Below.refl _ _) _))).mono ?_; rintro e w' ⟨b, rfl, hb, hd⟩; refine Hid.out ?_))
        refine Lib.hid ?_
        have HB := Lib.hid (show Below w.heap.size w w' from (pw_below_drewN (Below.refl _ _) _).trans hb)
        have HD := Lib.hid hd
        clear hb hd
        cases b with
        | false =>
          have HE := Lib.hid (show ¬ PathOk s from fun h => by have := HD.out.2 (HP.out.1 h).2.2.1; cases this)
          go_wp2_with fail
          go_ret3
          exact ⟨_, _, _, rfl, HB.out, by simp [HE.out]⟩
        | true =>
          have HN := Lib.hid (HD.out.1 rfl)
          go_wp2_with (go_at_call 58; refine (decode_of (r.extract 0 32) _ (by rw [ByteArray.size_extract]; omega) (HT.out.of HB.out)).mono ?_; rintro e w2 ⟨v, x, rfl, hb, hd⟩; refine Hid.out ?_)
          refine Lib.hid ?_
          have HB2 := Lib.hid (show Below w.heap.size w w2 from HB.out.trans (hb.mono HB.out.size))
          clear hb
          rcases hd with ⟨hno, rfl⟩ | ⟨hok, rfl, l, hl, how, hint⟩
          · have HE := Lib.hid (show ¬ PathOk s from fun h => hno (HP.out.1 h).2.2.2)
            clear hno
            go_wp2_with fail
            go_ret3
            exact ⟨_, _, _, rfl, HB2.out, by simp [HE.out]⟩
          · have HE := Lib.hid (show PathOk s from HP.out.2 ⟨H33.out, H45.out, HN.out, hok⟩)
            clear hl how hint hok
            go_wp2_with fail
            go_region
            all_goals go_wp2
            all_goals go_ret3
            all_goals exact ⟨_, _, _, rfl, pw_below_drewN HB2.out _, by simp [HE.out]⟩
      · have h45b : (bt r 32 != 45) = true := by simp [h45]
        have HE := Lib.hid (show ¬ PathOk s from fun h => h45 (HP.out.1 h).2.1)
        clear h45
        go_enter Tryd.func59, Tryd.ntmps59
        go_wp2_with (first | (go_at_call 76; refine (strings_CutPrefix.calls _ _ _ _ _ HC.out).mono ?_; rintro e w' ⟨rfl, q, rfl⟩))
        go_ret3
        exact ⟨_, _, _, rfl, pw_below_drewN (Below.refl _ _) _, by simp [HE.out]⟩
    · have hle : decide ((r.size : Int) ≤ 32) = true := decide_eq_true (by omega)
      have HE := Lib.hid (show ¬ PathOk s from fun h => h33 (HP.out.1 h).1)
      clear h33
      go_enter Tryd.func59, Tryd.ntmps59
      go_wp2_with (first | (go_at_call 76; refine (strings_CutPrefix.calls _ _ _ _ _ HC.out).mono ?_; rintro e w' ⟨rfl, q, rfl⟩))
      go_ret3
      exact ⟨_, _, _, rfl, pw_below_drewN (Below.refl _ _) _, by simp [HE.out]⟩
  · have HC := Lib.hid (cut_no s hst)
    have HE := Lib.hid (show ¬ PathOk s from fun h => hst h.1)
    clear hst
    go_enter Tryd.func59, Tryd.ntmps59
    go_wp2_with (first | (go_at_call 76; refine (strings_CutPrefix.calls _ _ _ _ _ HC.out).mono ?_; rintro e w' ⟨rfl, q, rfl⟩))
    go_ret3
    exact ⟨_, _, _, rfl, pw_below_drewN (Below.refl _ _) _, by simp [HE.out]⟩
set_option maxHeartbeats 4000000 in
theorem ispath_of (s : ByteArray) (w : World) (hs : s.size ≤ 16777216) (T : Tabs w) :
    Calls Tryd.prog 36 #[.string s] w fun e w' => ∃ b, e = .returned (.bool b) ∧ Below w.heap.size w w' ∧ (b = true ↔ PathOk s) := by
  have HT := Lib.hid T
  clear T
  go_enter Tryd.func36, Tryd.ntmps36
  go_wp2_with (go_at_call 59; refine (psplit_of s _ hs HT.out).mono ?_; rintro e w' ⟨a, b, x, rfl, hb, hd⟩)
  go_ret
  refine ⟨_, rfl, hb, ?_⟩
  rw [← hd]
  simp
end Go.Proofs.YtcmlifbfegblgaaDoor
