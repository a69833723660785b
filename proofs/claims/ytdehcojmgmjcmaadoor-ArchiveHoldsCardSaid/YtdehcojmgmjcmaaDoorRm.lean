/- reader.must and reader.data, walked. -/
import Derived.Test.YtdehcojmgmjcmaaDoorRx
namespace Go.Proofs.YtdehcojmgmjcmaaDoor
set_option linter.unusedVariables false
set_option linter.unusedSimpArgs false
open Go.RowKit QArchiveBack Go.Proofs.YtdehcojmgmjcmaaDoorW.PrintWords Go.Proofs.YtdehcojmgmjcmaaDoorW.PrintLast Go.Proofs.YtdehcojmgmjcmaaDoorW.PrintMore
def MustPost (w : World) (rb long : Nat) (ws : List ByteArray) (l : List Int) (e : Ending) (w' : World) : Prop :=
  w.grownBy w' (some rb) ∧ ((∃ r, rmust ws l = some r ∧ e = .returned .nilIface ∧ RD w' rb long r) ∨ (rmust ws l = none ∧ ∃ k, k ≠ 0 ∧ e = .returned (flt k)))
theorem RD.lt {w : World} {rb long : Nat} {l : List Int} (h : RD w rb long l) : rb < w.heap.size := by
  obtain ⟨A, c, h1, _⟩ := h.st
  exact blk_lt h1
theorem beq_toList (a b : ByteArray) : (a.toList == b.toList) = decide (a = b) := by
  by_cases h : a = b
  · subst h; simp
  · have : a.toList ≠ b.toList := fun e => h (by
      rw [Lib.toList_data, Lib.toList_data] at e
      cases a; cases b
      congr 1
      exact Array.toList_inj.1 e)
    simp [h, this]
set_option maxRecDepth 8000 in
set_option maxHeartbeats 4000000 in
theorem must_of (w : World) (rb long k c : Nat) (ws : List ByteArray) (l : List Int) (h : RD w rb long l) (hk : w.heap[k]? = some (.cells (ws.map Value.string).toArray 9 (0, 0))) (hkb : k ≠ rb) (hl : ws.length ≤ 1000) :
    Calls Tryd.prog 21 #[.pointer (some ⟨rb, 0, none⟩), .slice (some ⟨k, 0, none⟩) ws.length c] w fun e w' => MustPost w rb long ws l e w' := by
  have H := Lib.hid h
  have HK := Lib.hid hk
  have HKB := Lib.hid hkb
  clear h hk hkb
  go_enter Tryd.func21, Tryd.ntmps21
  go_wp2_with fail
  go_slots
  go_loopw [11] (fun i wr => ∃ (j : Nat) (li : List Int), j ≤ ws.length ∧ i = .int .i64 j ∧ Hid (RD wr rb long li) ∧ Hid (rmust ws l = rmust (ws.drop j) li) ∧ Hid (w.grownBy wr (some rb))) (fun i _ => ws.length - (intOf i).toNat)
  case atStart => exact ⟨0, l, Nat.zero_le _, rfl, H, Lib.hid rfl, Lib.hid (World.grownBy.refl _ _)⟩
  case round =>
    obtain ⟨j, li, hj, rfl, HR, HM, HG⟩ := hrel
    by_cases hlt : j < ws.length
    · have hrow := blk_grown HK.out HG.out (by intro e; injection e with e; exact HKB.out e)
      have hx : wr.cell? ⟨k, j, none⟩ = some (.string ws[j]) := by
        rw [cell_of_row wr k j _ _ _ hrow]
        simp [hlt]
      have hm2 : rmust (ws.drop j) li = (rnext li).bind fun y => if y.1 = ws[j] then rmust (ws.drop (j + 1)) y.2 else none := by rw [drop_at hlt, rmust]
      have HM2 := Lib.hid (HM.out.trans hm2)
      generalize ws[j] = a at hx HM2
      have gl : (j : Int) < (ws.length : Int) := by omega
      have w1 : wrap64 ((j : Int) + 1) = ((j + 1 : Nat) : Int) := by rw [w64 (by omega) (by omega)]; omega
      clear hm2 hrow
      go_wp2_with (go_at_call 32; refine (next_of wr rb long li HR.out).mono ?_; rintro e w2 ⟨hg, ⟨s, r, hrn, rfl, hrd⟩ | ⟨hrn, q, hq, rfl⟩⟩ <;> refine Hid.out ?_)
      · refine Lib.hid ?_
        have HG2 := Lib.hid (HG.out.trans hg)
        have HRD := Lib.hid hrd
        have HM3 := HM2.out
        rw [hrn] at HM3
        simp only [Option.bind_some] at HM3
        have HM4 := Lib.hid HM3
        clear hg hrd hrn HM3 HM2 HM HG HR
        have hbe := beq_toList s a
        by_cases hsa : s = a
        · subst hsa
          have HM5 := HM4.out
          rw [if_pos rfl] at HM5
          have HM6 := Lib.hid HM5
          clear HM4 HM5
          have hb1 : (s.toList == s.toList) = true := by simp
          clear hbe
          go_wp2_with fail
          refine ⟨⟨j + 1, r, by omega, by rfl, HRD, HM6, HG2⟩, ?_⟩
          simp [intOf]; omega
        · have HM5 := HM4.out
          rw [if_neg hsa] at HM5
          have HM6 := Lib.hid HM5
          have hb1 : (s.toList == a.toList) = false := by rw [hbe]; simpa using hsa
          have hb2 : ¬ s.toList = a.toList := by simpa using hb1
          clear HM4 HM5 hbe
          go_wp2_with fail
          go_ret
          exact ⟨HG2.out, Or.inr ⟨HM6.out, 10, by decide, rfl⟩⟩
      · refine Lib.hid ?_
        have HG2 := Lib.hid (HG.out.trans hg)
        have HM3 := HM2.out
        rw [hrn] at HM3
        have HM4 := Lib.hid HM3
        have HQ := Lib.hid hq
        clear hg hrn HM3 HM2 HM HG HR hq
        unfold flt
        go_wp2_with fail
        go_ret
        exact ⟨HG2.out, Or.inr ⟨HM4.out, q, HQ.out, rfl⟩⟩
    · obtain rfl : j = ws.length := by omega
      go_wp2_with fail
      go_ret
      refine ⟨HG.out, Or.inl ⟨li, ?_, rfl, HR.out⟩⟩
      rw [HM.out, List.drop_length, rmust]
end Go.Proofs.YtdehcojmgmjcmaaDoor
