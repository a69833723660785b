/- object.rises: rising, and not too many. -/
import Derived.Test.YtcmlifbfegblgaaDoorBj
import Derived.Lib.RowBridge
namespace Go.Proofs.YtcmlifbfegblgaaDoor
set_option linter.unusedVariables false
set_option linter.unusedSimpArgs false
open Go.RowKit Go.Proofs.YtcmlifbfegblgaaDoorW.PrintWords Go.Proofs.YtcmlifbfegblgaaDoorW.PrintLast Go.Proofs.YtcmlifbfegblgaaDoorW.PrintMore
open Go.Proofs.YtcmlifbfegblgaaDoor.QObjectTexts

theorem less_irrefl : ∀ x : List UInt8, Op.bytesLess x x = false
  | [] => rfl
  | a :: x => by
    unfold Op.bytesLess
    rw [less_irrefl x]
    simp
theorem less_asymm : ∀ x y : List UInt8, Op.bytesLess x y = true → Op.bytesLess y x = false
  | _, [], h => by unfold Op.bytesLess at h; cases h
  | [], b :: y, h => rfl
  | a :: x, b :: y, h => by
    unfold Op.bytesLess at h ⊢
    simp only [Bool.or_eq_true, decide_eq_true_eq, Bool.and_eq_true, beq_iff_eq, Bool.or_eq_false_iff, decide_eq_false_iff_not, Bool.and_eq_false_iff] at h ⊢
    rcases h with h | ⟨rfl, h⟩
    · exact ⟨fun h2 => absurd (UInt8.lt_trans h h2) (UInt8.lt_irrefl a), .inl (by simp; intro e; rw [e] at h; exact absurd h (UInt8.lt_irrefl a))⟩
    · exact ⟨UInt8.lt_irrefl _, .inr (less_asymm x y h)⟩
theorem less_total : ∀ x y : List UInt8, Op.bytesLess x y = false → Op.bytesLess y x = false → x = y
  | [], [], _, _ => rfl
  | a :: x, [], _, h => by unfold Op.bytesLess at h; cases h
  | [], b :: y, h, _ => by unfold Op.bytesLess at h; cases h
  | a :: x, b :: y, h, k => by
    unfold Op.bytesLess at h k
    simp only [Bool.or_eq_false_iff, decide_eq_false_iff_not, Bool.and_eq_false_iff] at h k
    have hab : a = b := by
      have h1 := h.1; have h2 := k.1
      rw [UInt8.lt_iff_toNat_lt] at h1 h2
      exact UInt8.toNat_inj.1 (by omega)
    subst hab
    have h1 : Op.bytesLess x y = false := by
      rcases h.2 with e | e
      · simp at e
      · exact e
    have h2 : Op.bytesLess y x = false := by
      rcases k.2 with e | e
      · simp at e
      · exact e
    rw [less_total x y h1 h2]

def at_ (l : List ByteArray) (i : Nat) : List UInt8 := (l.getD i ByteArray.empty).toList
/-- Rising, and not too many. -/
def RisesOk (l : List ByteArray) : Prop := l.length ≤ 1024 ∧ ∀ i : Nat, i + 1 < l.length → Op.bytesLess (at_ l i) (at_ l (i + 1)) = true
def Sorted (l : List ByteArray) : Prop := ∀ i : Nat, i + 1 < l.length → Op.bytesLess (at_ l (i + 1)) (at_ l i) = false
theorem rises_iff (l : List ByteArray) : RisesOk l ↔ l.length ≤ 1024 ∧ Sorted l ∧ ∀ i : Nat, i + 1 < l.length → at_ l (i + 1) ≠ at_ l i := by
  constructor
  · rintro ⟨h0, h⟩
    refine ⟨h0, fun i hi => less_asymm _ _ (h i hi), fun i hi e => ?_⟩
    have := h i hi
    rw [e, less_irrefl] at this
    cases this
  · rintro ⟨h0, h1, h2⟩
    refine ⟨h0, fun i hi => ?_⟩
    cases hc : Op.bytesLess (at_ l i) (at_ l (i + 1)) with
    | true => rfl
    | false => exact absurd (less_total _ _ (h1 i hi) hc) (h2 i hi)
theorem Less_f (a b : ByteArray) : cmp_Less_string.f a b = some (Op.bytesLess a.toList b.toList) := by
  unfold cmp_Less_string.f cmp_isNaN_string.f
  simp
theorem sorted_l0 (l : List ByteArray) (hl : l.length ≤ 1000000000) : ∀ n : Nat, n < l.length → ∃ k r, slices_IsSorted_string_string.l0 k l n = some r ∧ (r = true ↔ ∀ i : Nat, i < n → Op.bytesLess (at_ l (i + 1)) (at_ l i) = false)
  | 0, h => ⟨1, true, by unfold slices_IsSorted_string_string.l0; rw [if_neg (by omega)], by simp⟩
  | n + 1, h => by
    obtain ⟨k, r, h1, h2⟩ := sorted_l0 l hl n (by omega)
    have hw : wrap64 (((n + 1 : Nat) : Int) - 1) = (n : Int) := by unfold wrap64; omega
    have e1 : (rdOf ByteArray.empty l ((n + 1 : Nat) : Int)).toList = at_ l (n + 1) := rfl
    have e2 : (rdOf ByteArray.empty l (n : Int)).toList = at_ l n := rfl
    have hf : slices_IsSorted_string_string.l0 (k + 1) l ((n + 1 : Nat) : Int) = if Op.bytesLess (at_ l (n + 1)) (at_ l n) = true then some false else slices_IsSorted_string_string.l0 k l n := by
      conv => lhs; unfold slices_IsSorted_string_string.l0
      rw [hw, if_pos (by omega), if_pos (by omega), if_pos (by omega), if_pos (by omega), if_pos (by omega), Less_f, Option.bind_some, e1, e2]
    by_cases hc : Op.bytesLess (at_ l (n + 1)) (at_ l n) = true
    · exact ⟨k + 1, false, by rw [hf, if_pos hc], ⟨fun h => (by cases h), fun h => by have := h n (by omega); rw [hc] at this; cases this⟩⟩
    · refine ⟨k + 1, r, by rw [hf, if_neg hc]; exact h1, h2.trans ⟨fun h i hi => ?_, fun h i hi => h i (by omega)⟩⟩
      rcases Nat.lt_or_ge i n with h3 | h3
      · exact h i h3
      · rw [show i = n by omega]; simpa using hc
theorem sorted_f (l : List ByteArray) (hl : l.length ≤ 1000000000) : ∃ k r, slices_IsSorted_string_string.f k l = some r ∧ (r = true ↔ Sorted l) := by
  rcases Nat.eq_zero_or_pos l.length with h0 | h0
  · refine ⟨1, true, ?_, ⟨fun _ i hi => by omega, fun _ => rfl⟩⟩
    unfold slices_IsSorted_string_string.f slices_IsSorted_string_string.l0
    have hw : wrap64 ((l.length : Int) - 1) = -1 := by unfold wrap64; omega
    rw [hw, if_neg (by omega)]
  · obtain ⟨k, r, h1, h2⟩ := sorted_l0 l hl (l.length - 1) (by omega)
    have hw : wrap64 ((l.length : Int) - 1) = ((l.length - 1 : Nat) : Int) := by unfold wrap64; omega
    refine ⟨k, r, by unfold slices_IsSorted_string_string.f; rw [hw]; exact h1, h2.trans ⟨fun h i hi => h i (by omega), fun h i hi => h i (by omega)⟩⟩
theorem compact_len (l : List ByteArray) : (Lib.compact (l.map (·.data.toList))).length = l.length ↔ ∀ i : Nat, i + 1 < l.length → at_ l (i + 1) ≠ at_ l i := by
  have hat : ∀ i, i < l.length → (l.map (·.data.toList)).toArray[i]! = at_ l i := by
    intro i hi
    unfold at_
    simp [hi, List.getD, Lib.toList_data]
  unfold Lib.compact Lib.compactUpTo
  rw [List.length_map, List.length_map]
  have h1 : ((List.range l.length).filter (Lib.keeps (l.map (·.data.toList)).toArray)).length = l.length ↔ ∀ j ∈ List.range l.length, Lib.keeps (l.map (·.data.toList)).toArray j = true := by
    conv => lhs; rhs; rw [← List.length_range (n := l.length)]
    exact List.length_filter_eq_length_iff
  rw [h1]
  constructor
  · intro h i hi
    have := h (i + 1) (List.mem_range.2 hi)
    unfold Lib.keeps at this
    rw [decide_eq_true_eq] at this
    rcases this with e | e
    · omega
    · rw [hat _ hi, show i + 1 - 1 = i by omega, hat _ (by omega)] at e
      exact e
  · intro h j hj
    have hj := List.mem_range.1 hj
    unfold Lib.keeps
    rw [decide_eq_true_eq]
    rcases Nat.eq_zero_or_pos j with e | e
    · exact .inl e
    · refine .inr ?_
      rw [hat _ hj, hat _ (by omega)]
      have := h (j - 1) (by omega)
      rwa [show j - 1 + 1 = j by omega] at this
/-- Where a row of strings lies. -/
theorem addr_of {w : World} {A : Option Addr} {l : List ByteArray} (h : Kd.C Kd.string w A l.length l) (h0 : 0 < l.length) : ∃ b off, A = some ⟨b, off, none⟩ ∧ b < w.heap.size ∧ ∀ j, j < l.length → w.cell? ⟨b, off + j, none⟩ = some (.string (l.getD j ByteArray.empty)) := by
  have hat : ∀ i : Nat, i < l.length → ∃ ad, A = some ad ∧ w.cell? (ad.add i) = some (.string (l.getD i ByteArray.empty)) := by
    intro i hi
    obtain ⟨ad, e, hc⟩ := Kd.at_string h (i : Int) (by omega) (by omega)
    exact ⟨ad, e, hc⟩
  obtain ⟨ad, rfl, hc⟩ := hat 0 h0
  obtain ⟨b, off, spot⟩ := ad
  have hs : spot = none := by simpa [Addr.add] using World.cell?_spot hc
  subst hs
  refine ⟨b, off, rfl, block_lt_of_cell (a := (⟨b, off, none⟩ : Addr).add 0) hc, fun j hj => ?_⟩
  obtain ⟨ad, e, hc2⟩ := hat j hj
  obtain rfl := Option.some.inj e
  rw [← hc2]
  congr 1
  unfold Addr.add
  split
  · rename_i h0; rw [h0]; rfl
  · rfl
theorem below_setCells {B b : Nat} {w0 : World} (hb : B ≤ b) : ∀ (vs : List Value) (o : Nat) (w : World), Below B w0 w → Below B w0 (w.setCells b o vs)
  | [], _, _, h => h
  | v :: r, o, w, h => below_setCells hb r (o + 1) _ (h.setCell (p := ⟨b, o, none⟩) hb v)
set_option maxHeartbeats 4000000 in
set_option maxRecDepth 100000 in
theorem rises_of (l : List ByteArray) (A : Option Addr) (c : Nat) (w : World) (hr : Kd.C Kd.string w A l.length l) (hc : l.length ≤ c) (hl : l.length ≤ 1000000000) :
    Calls Tryd.prog 37 #[.slice A l.length c] w fun e w' => ∃ b, e = .returned (.bool b) ∧ Below w.heap.size w w' ∧ (b = true ↔ RisesOk l) := by
  have HR := Lib.hid hr
  have HC := Lib.hid hc
  have HL := Lib.hid hl
  have HI := Lib.hid (rises_iff l)
  by_cases h1024 : l.length ≤ 1024
  · have hle : decide ((l.length : Int) ≤ 1024) = true := decide_eq_true (by omega)
    obtain ⟨k, r, hf, hrr⟩ := sorted_f l hl
    have HF := Lib.hid hf
    have H1 := Lib.hid h1024
    have HRR := Lib.hid hrr
    clear hr hc hl hf h1024 hrr
    cases r with
    | false =>
      have HE := Lib.hid (show ¬ RisesOk l from fun h => by have := HRR.out.2 (HI.out.1 h).2.1; cases this)
      go_enter Tryd.func37, Tryd.ntmps37
      go_wp2_with (go_at_call 51; refine (slices_IsSorted_string_string.calls k A c l _ _ HR.out HC.out HF.out).mono ?_; rintro e w' ⟨rfl, q, rfl⟩)
      go_ret
      exact ⟨_, rfl, pw_below_drewN (Below.refl _ _) _, by simp [HE.out]⟩
    | true =>
      have HS := Lib.hid (HRR.out.1 rfl)
      obtain ⟨m, hm⟩ : ∃ m, (Lib.compact (l.map (·.data.toList))).length = m := ⟨_, rfl⟩
      have HM := Lib.hid (show (m = l.length ↔ RisesOk l) from by
        rw [← hm, compact_len, HI.out]
        exact ⟨fun h => ⟨H1.out, HS.out, h⟩, fun h => h.2.2⟩)
      rcases Nat.eq_zero_or_pos l.length with h0 | h0
      · have HEm := Lib.hid (show RisesOk l from HM.out.1 (by
          rw [← hm, List.eq_nil_of_length_eq_zero h0]
          rfl))
        clear hm
        rw [h0] at HR ⊢
        have HF0 := HF
        have hl0 : (l.length : Int) = 0 := by omega
        cases A with
        | none =>
          go_enter Tryd.func37, Tryd.ntmps37
          go_wp2_with (first | (go_at_call 51; refine (show Calls Tryd.prog 51 #[.slice none 0 c] _ _ from h0 ▸ slices_IsSorted_string_string.calls k _ c l _ _ (h0.symm ▸ HR.out) HC.out HF.out).mono ?_; rintro e w' ⟨rfl, q, rfl⟩) | (go_at_call 53; refine (Tryd.slices_Clone_string_nil 0 c _).mono ?_; rintro e w' ⟨rfl, rfl⟩) | (go_at_call 52; refine (Tryd.slices_Compact_string_empty _ _ _).mono ?_; rintro e w' ⟨rfl, rfl⟩))
          go_ret
          exact ⟨_, rfl, pw_below_drewN (Below.refl _ _) _, by simp [HEm.out]⟩
        | some ad =>
          go_enter Tryd.func37, Tryd.ntmps37
          go_wp2_with (first | (go_at_call 51; refine (show Calls Tryd.prog 51 #[.slice (some ad) 0 c] _ _ from h0 ▸ slices_IsSorted_string_string.calls k _ c l _ _ (h0.symm ▸ HR.out) HC.out HF.out).mono ?_; rintro e w' ⟨rfl, q, rfl⟩) | (go_at_call 53; refine (Tryd.slices_Clone_string_zero ad c _).mono ?_; rintro e w' ⟨v, rfl, ho, hv, hb1⟩; refine Hid.out ?_))
          refine Lib.hid ?_
          obtain ⟨a2, c2, rfl⟩ : ∃ a2 c2, v = .slice a2 0 c2 := by
            rcases ho.2 with ⟨rfl, h⟩ | ⟨g, cap, cur, rfl, h1, h2⟩
            · exact ⟨_, _, rfl⟩
            · exact ⟨_, _, rfl⟩
          have HB1 := Lib.hid (show Below w.heap.size w w' from (pw_below_drewN (Below.refl _ _) _).trans hb1)
          clear ho hv hb1
          go_wp2_with (go_at_call 52; refine (Tryd.slices_Compact_string_empty _ _ _).mono ?_; rintro e w' ⟨rfl, rfl⟩)
          go_ret
          exact ⟨_, rfl, HB1.out, by simp [HEm.out]⟩
      · obtain ⟨b, off, rfl, hb, hcell⟩ := addr_of HR.out h0
        go_enter Tryd.func37, Tryd.ntmps37
        go_wp2_with (first | (go_at_call 51; refine (slices_IsSorted_string_string.calls k _ c l _ _ HR.out HC.out HF.out).mono ?_; rintro e w' ⟨rfl, q, rfl⟩) | (go_at_call 53; refine (Tryd.slices_Clone_string b off l.length c l _ (Nat.le_refl _) (by have := HL.out; omega) (fun j hj => by have := hcell j hj; first | exact this | simp)).mono ?_; rintro e w' ⟨v, rfl, ho, hv, hb1⟩; refine Hid.out ?_))
        refine Lib.hid ?_
        obtain ⟨g, cap, cur, rfl, h1, h2, h3, h4, h5, h6⟩ : ∃ g cap cur, v = .slice (some ⟨g, 0, none⟩) l.length cap ∧ w.heap.size ≤ g ∧ w'.heap[g]? = some (.cells cur 9 (0, 0)) ∧ l.length ≤ cap ∧ cap ≤ maxLen ∧ cur.size = cap * 1 ∧ cur.toList.take (l.length * 1) = (l.take l.length).map Value.string := by
          rcases ho.2 with ⟨rfl, h⟩ | ⟨g, cap, cur, rfl, h1, h2⟩
          · omega
          · exact ⟨g, cap, cur, rfl, by simpa using h1, h2⟩
        have hcc : ∀ i, i < l.length → w'.cell? ⟨g, 0 + i, none⟩ = some (.string (l.getD i ByteArray.empty)) := by
          intro i hi
          rw [row_cell w' g cur 9 (0, 0) (0 + i) h2, Nat.zero_add]
          have e : (cur.toList.take (l.length * 1))[i]? = cur[i]? := by rw [List.getElem?_take_of_lt (by omega)]; simp
          rw [← e, h6]
          simp [hi, List.getD]
        have hff : ∀ j, j < l.length → w'.frozen? ⟨g, 0 + j, none⟩ = false := fun j _ => row_frozen w' g cur 9 _ h2
        have hst : Lib.strsOf (fun i => l.getD i ByteArray.empty) l.length = l.map (·.data.toList) := by
          unfold Lib.strsOf
          apply List.ext_getElem
          · simp
          · intro i h1 h2
            have : i < l.length := by simpa using h2
            simp [this, List.getD]
        have hcp := Tryd.slices_Compact_string_cells g 0 l.length cap (fun i => l.getD i ByteArray.empty) w' (by simp only [maxLen] at h4; omega) h3 hcc hff
        rw [hst, hm] at hcp
        have HCP := Lib.hid hcp
        have HB1 := Lib.hid (show Below w.heap.size w w' from (pw_below_drewN (Below.refl _ _) _).trans hb1)
        have HG := Lib.hid h1
        clear ho hv hb1 h1 h2 h3 h4 h5 h6 hcc hff hst hcp hcell hm
        go_wp2_with (go_at_call 52; refine HCP.out.mono ?_; rintro e w2 ⟨rfl, q2, rfl⟩)
        go_ret
        refine ⟨_, rfl, below_setCells HG.out _ _ _ (pw_below_drewN HB1.out _), ?_⟩
        rw [← HM.out]
        simp
        omega
  · have hle : decide ((l.length : Int) ≤ 1024) = false := decide_eq_false (by omega)
    have HE := Lib.hid (show ¬ RisesOk l from fun h => h1024 h.1)
    clear hr hc hl h1024
    go_enter Tryd.func37, Tryd.ntmps37
    go_wp2
    go_ret
    exact ⟨_, rfl, Below.refl _ _, by simp [HE.out]⟩
end Go.Proofs.YtcmlifbfegblgaaDoor
