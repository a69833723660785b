/- ref11.Text: an info's text, as the reference builds it. -/
import Derived.Test.YtcmlifbfegblgaaDoorBm
import Derived.Test.YtcmlifbfegblgaaDoorBt
namespace Go.Proofs.YtcmlifbfegblgaaDoor
set_option linter.unusedVariables false
set_option linter.unusedSimpArgs false
open Go.RowKit Go.Proofs.YtcmlifbfegblgaaDoorW.PrintWords Go.Proofs.YtcmlifbfegblgaaDoorW.PrintLast Go.Proofs.YtcmlifbfegblgaaDoorW.PrintMore
open Go.Proofs.YtcmlifbfegblgaaDoor.QObjectTexts

def rstart (h d : ByteArray) : ByteArray := if d.toList = [] then (hashW ++ h) ++ nlW else ((((hashW ++ h) ++ nlW) ++ derW) ++ d) ++ nlW
def raddRef (t x : ByteArray) : ByteArray := ((t ++ refW) ++ x) ++ nlW
def rtextOf (h d : ByteArray) (l : List ByteArray) : ByteArray := l.foldl raddRef (rstart h d)
theorem rstart_size (h d : ByteArray) (hh : h.size ≤ 16777216) (hd : d.size ≤ 16777216) : (rstart h d).size ≤ 100000000 := by
  have e1 : hashW.size = 5 := rfl
  have e2 : derW.size = 8 := rfl
  have e3 : nlW.size = 1 := rfl
  unfold rstart
  split <;> simp only [ByteArray.size_append, e1, e2, e3] <;> omega
theorem take_getD (l : List ByteArray) (k : Nat) (h : k < l.length) (b : ByteArray) : (l.take (k + 1)).foldl raddRef b = raddRef ((l.take k).foldl raddRef b) (l.getD k ByteArray.empty) := by
  have e : l.getD k ByteArray.empty = l[k] := by simp [h, List.getD]
  rw [List.take_succ_eq_append_getElem h, List.foldl_append, e]
  rfl
set_option maxHeartbeats 4000000 in
set_option maxRecDepth 100000 in
theorem rtext_of (k : Nat) (r : Bool) (p h d : ByteArray) (l : List ByteArray) (A : Option Addr) (c : Nat) (w : World) (hm : stillroomref11_May.f k p h d l = some r) (hh : h.size ≤ 16777216) (hd : d.size ≤ 16777216) (hr : Kd.C Kd.string w A l.length l) (hc : l.length ≤ c) (hl : l.length ≤ 1000000000) (hs : Short l) :
    Calls Tryd.prog 6 #[.agg #[.string p, .string h, .string d, .slice A l.length c]] w fun e w' => ∃ t x, e = .returned (.tuple #[.string t, .int .i64 x]) ∧ Below w.heap.size w w' ∧ ((r = true ∧ x = 0 ∧ t = rtextOf h d l) ∨ (r = false ∧ x = 10 ∧ t = ⟨#[]⟩)) := by
  have HR := Lib.hid hr
  have HC := Lib.hid hc
  have HL := Lib.hid hl
  have HS := Lib.hid hs
  have HM := Lib.hid hm
  clear hr hc hl hs hm
  go_enter Tryd.func6, Tryd.ntmps6
  go_wp2_with (go_at_call 19; refine (stillroomref11_May.calls k p h d A c l r _ (Kd.C_below HR.out ((Below.refl _ _).alloc (Nat.le_refl _) _)) HC.out HM.out).mono ?_; rintro e w' ⟨rfl, hb⟩; refine Hid.out ?_)
  refine Lib.hid ?_
  have hI : InfoAt w' w.heap.size p h d (.slice A l.length c) := (hb.block _ (by simp)).trans (heap_alloc_new w _)
  have hB : Below w.heap.size w w' := ((Below.refl _ _).alloc (Nat.le_refl _) _).trans (hb.mono (by simp))
  obtain ⟨c0, c1, c2, c3⟩ := info_cells hI
  have HI := Lib.hid hI
  have HB := Lib.hid hB
  clear hb hI hB
  cases r with
  | false =>
    go_wp2_with fail
    go_ret2
    first | exact ⟨_, _, rfl, HB.out, .inr ⟨rfl, rfl, rfl⟩⟩ | exact ⟨_, _, rfl, HB.out, rfl, rfl⟩
  | true =>
    have hst := rstart_size h d hh hd
    by_cases hde : d.toList = []
    · have hdb : (d.toList != ([] : List UInt8)) = false := by simp [hde]
      have hdb2 : d.toList.isEmpty = true := by simp [hde]
      have HE := Lib.hid (show rstart h d = (hashW ++ h) ++ nlW by unfold rstart; rw [if_pos hde])
      go_wp2_with fail
      go_loopw [4, 5] (fun v i wr => ∃ k : Nat, k ≤ l.length ∧ i = .int .i64 k ∧ v = .string ((l.take k).foldl raddRef (rstart h d)) ∧ ((l.take k).foldl raddRef (rstart h d)).size ≤ 100000000 + k * 16777222 ∧ wr = w') (fun _ i _ => l.length - (intOf i).toNat)
      case atStart => exact ⟨0, by omega, rfl, by rw [List.take_zero, List.foldl_nil, HE.out]; rfl, by rw [List.take_zero, List.foldl_nil]; omega, rfl⟩
      case round =>
        obtain ⟨k, hk, rfl, rfl, hsz, rfl⟩ := hrel
        obtain ⟨t, ht⟩ : ∃ t, (l.take k).foldl raddRef (rstart h d) = t := ⟨_, rfl⟩
        rw [ht] at hsz ⊢
        have HTk := Lib.hid ht
        clear ht
        by_cases hlt : k < l.length
        · obtain ⟨ad, rfl, hx⟩ := Kd.at_string (Kd.C_below HR.out HB.out) (k : Int) (by omega) (by omega)
          obtain ⟨x, hxe⟩ : ∃ x, rdOf ByteArray.empty l k = x := ⟨_, rfl⟩
          rw [hxe, Int.toNat_natCast] at hx
          have HXe := Lib.hid (show l.getD k ByteArray.empty = x from hxe)
          have hxs : x.size ≤ 16777216 := HXe.out ▸ HS.out _
          have hk1 : wrap64 ((k : Int) + 1) = ((k + 1 : Nat) : Int) := by have := HL.out; unfold wrap64; omega
          have hll := HL.out
          clear hxe
          go_wp2_with fail
          go_roundw
          case rel =>
            have e : (l.take (k + 1)).foldl raddRef (rstart h d) = raddRef t x := by rw [take_getD l k hlt, HTk.out, HXe.out]
            refine ⟨k + 1, hlt, by simp, by rw [e]; rfl, ?_, by first | rfl | trivial⟩
            rw [e]
            have e1 : refW.size = 4 := rfl
            have e3 : nlW.size = 1 := rfl
            unfold raddRef
            simp only [ByteArray.size_append, e1, e3]
            omega
          case measure =>
            show l.length - ((k : Int) + 1).toNat < l.length - ((k : Nat) : Int).toNat
            rw [show ((k : Int) + 1).toNat = k + 1 by omega, Int.toNat_natCast]
            exact Nat.sub_lt_sub_left hlt (Nat.lt_succ_self k)
        · obtain rfl : k = l.length := by omega
          go_wp2_with fail
          go_ret2
          first | exact ⟨_, _, rfl, HB.out, .inl ⟨rfl, rfl, by rw [← HTk.out, List.take_length]; rfl⟩⟩ | exact ⟨_, _, rfl, HB.out, rfl, by rw [← HTk.out, List.take_length]; rfl⟩
    · have hdb : (d.toList != ([] : List UInt8)) = true := by simp [hde]
      have hdb2 : d.toList.isEmpty = false := by simp [hde]
      have HE := Lib.hid (show rstart h d = ((((hashW ++ h) ++ nlW) ++ derW) ++ d) ++ nlW by unfold rstart; rw [if_neg hde])
      go_wp2_with fail
      go_loopw [4, 5] (fun v i wr => ∃ k : Nat, k ≤ l.length ∧ i = .int .i64 k ∧ v = .string ((l.take k).foldl raddRef (rstart h d)) ∧ ((l.take k).foldl raddRef (rstart h d)).size ≤ 100000000 + k * 16777222 ∧ wr = w') (fun _ i _ => l.length - (intOf i).toNat)
      case atStart => exact ⟨0, by omega, rfl, by rw [List.take_zero, List.foldl_nil, HE.out]; rfl, by rw [List.take_zero, List.foldl_nil]; omega, rfl⟩
      case round =>
        obtain ⟨k, hk, rfl, rfl, hsz, rfl⟩ := hrel
        obtain ⟨t, ht⟩ : ∃ t, (l.take k).foldl raddRef (rstart h d) = t := ⟨_, rfl⟩
        rw [ht] at hsz ⊢
        have HTk := Lib.hid ht
        clear ht
        by_cases hlt : k < l.length
        · obtain ⟨ad, rfl, hx⟩ := Kd.at_string (Kd.C_below HR.out HB.out) (k : Int) (by omega) (by omega)
          obtain ⟨x, hxe⟩ : ∃ x, rdOf ByteArray.empty l k = x := ⟨_, rfl⟩
          rw [hxe, Int.toNat_natCast] at hx
          have HXe := Lib.hid (show l.getD k ByteArray.empty = x from hxe)
          have hxs : x.size ≤ 16777216 := HXe.out ▸ HS.out _
          have hk1 : wrap64 ((k : Int) + 1) = ((k + 1 : Nat) : Int) := by have := HL.out; unfold wrap64; omega
          have hll := HL.out
          clear hxe
          go_wp2_with fail
          go_roundw
          case rel =>
            have e : (l.take (k + 1)).foldl raddRef (rstart h d) = raddRef t x := by rw [take_getD l k hlt, HTk.out, HXe.out]
            refine ⟨k + 1, hlt, by simp, by rw [e]; rfl, ?_, by first | rfl | trivial⟩
            rw [e]
            have e1 : refW.size = 4 := rfl
            have e3 : nlW.size = 1 := rfl
            unfold raddRef
            simp only [ByteArray.size_append, e1, e3]
            omega
          case measure =>
            show l.length - ((k : Int) + 1).toNat < l.length - ((k : Nat) : Int).toNat
            rw [show ((k : Int) + 1).toNat = k + 1 by omega, Int.toNat_natCast]
            exact Nat.sub_lt_sub_left hlt (Nat.lt_succ_self k)
        · obtain rfl : k = l.length := by omega
          go_wp2_with fail
          go_ret2
          first | exact ⟨_, _, rfl, HB.out, .inl ⟨rfl, rfl, by rw [← HTk.out, List.take_length]; rfl⟩⟩ | exact ⟨_, _, rfl, HB.out, rfl, by rw [← HTk.out, List.take_length]; rfl⟩
end Go.Proofs.YtcmlifbfegblgaaDoor
