/- reader.data, walked; must with what is written out. -/
import Derived.Test.YtdehcojmgmjcmaaDoorRm
namespace Go.Proofs.YtdehcojmgmjcmaaDoor
set_option linter.unusedVariables false
set_option linter.unusedSimpArgs false
open Go.RowKit QArchiveBack Go.Proofs.YtdehcojmgmjcmaaDoorW.PrintWords Go.Proofs.YtdehcojmgmjcmaaDoorW.PrintLast Go.Proofs.YtdehcojmgmjcmaaDoorW.PrintMore
theorem must_lit (w : World) (rb long : Nat) (ws : List ByteArray) (l : List Int) (h : RD w rb long l) (hl : ws.length ≤ 1000) :
    Calls Tryd.prog 21 #[.pointer (some ⟨rb, 0, none⟩), .slice (some ⟨w.heap.size, 0, none⟩) ws.length ws.length] (w.alloc (.cells (ws.map Value.string).toArray 9)) fun e w' => MustPost w rb long ws l e w' := by
  refine (must_of _ rb long w.heap.size ws.length ws l (h.below (below_alloc (Below.refl _ _) _)) (heap_alloc_new _ _) (by have := h.lt; omega) hl).mono ?_
  rintro e w' ⟨hg, hp⟩
  exact ⟨(World.grownBy_alloc w _ _).trans hg, hp⟩
theorem F_of_block {W : World} {ok : Nat → Prop} {A : Option Addr} {n b : Nat} {xs : List Int} (h : Kd.C (Kd.int .u8) W A n xs) (hb : ∀ ad, A = some ad → ad.block = b) (hok : ok b) : Kd.F (Kd.int .u8) W ok A n xs := fun W' hW => by
  by_cases hn : 0 < n
  · obtain ⟨ad, rfl, hc⟩ := Kd.at_int h (0 : Int) (by omega) (by omega)
    have hlt : b < W.heap.size := by have := World.block_lt_of_cell? _ _ hc; rw [add_block, hb ad rfl] at this; exact this
    exact C_move h fun ad' j e => by
      cases e
      exact World.cell?_of_block (by rw [add_block, hb ad rfl]; exact hW b hok hlt)
  · exact ⟨h.1, h.2.1, fun hp => absurd hp hn⟩
def DataPost (w : World) (rb long : Nat) (l : List Int) (e : Ending) (w' : World) : Prop :=
  w.grownBy w' (some rb) ∧ ((∃ d r A c, rdata l = some (d, r) ∧ e = .returned (.tuple #[.slice A d.length c, .nilIface]) ∧ d.length ≤ c ∧ Kd.F (Kd.int .u8) w' (fun k => w.heap.size ≤ k) A d.length d ∧ RD w' rb long r)
    ∨ (rdata l = none ∧ ∃ k A n c, k ≠ 0 ∧ e = .returned (.tuple #[.slice A n c, flt k])))
set_option maxRecDepth 8000 in
set_option maxHeartbeats 4000000 in
theorem data_of (w : World) (rb long : Nat) (l : List Int) (h : RD w rb long l) :
    Calls Tryd.prog 34 #[.pointer (some ⟨rb, 0, none⟩)] w fun e w' => DataPost w rb long l e w' := by
  have H := Lib.hid h
  clear h
  go_enter Tryd.func34, Tryd.ntmps34
  go_wp2_with (go_at_call 32; refine (next_of w rb long l H.out).mono ?_; rintro e w2 ⟨hg, ⟨s, r, hrn, rfl, hrd⟩ | ⟨hrn, q, hq, rfl⟩⟩ <;> refine Hid.out ?_)
  · refine Lib.hid ?_
    have HG := Lib.hid hg
    have HRD := Lib.hid hrd
    have HRN := Lib.hid hrn
    clear hg hrd hrn
    have kb := fun W => print_bytes (P := Tryd.prog) 9 22 5 Tryd.underlying9 Tryd.underlying22 Tryd.underlying5 s W
    have HR2 := Lib.hid (HRD.out.below (bytes_below (Below.refl _ _) (Nat.le_refl _) 5 s))
    have hsz : s.size ≤ 1048576 := by
      have h1 := rnext_inv H.out.inb HRN.out
      have h2 := strL_size s
      have h3 := H.out.le
      have h4 := H.out.max
      have h5 := congrArg List.length h1.1
      rw [List.length_append] at h5
      omega
    have hF := F_of_block (ok := fun k => w.heap.size ≤ k) (Kd.C_of_reads (enc := Value.int .u8) (d := (0 : Int)) (h1 := fun _ => rfl) (bytes_reads w2 5 s (by omega))) (fun ad e => by cases e; rfl) HG.out.size
    have HF := Lib.hid hF
    have hcap : s.size ≤ grownCap w2 s.size 0 5 := grownCap_ge w2 s.size 0 5
    have HCAP := Lib.hid hcap
    have HG2 := Lib.hid (Lib.grownBy_below HG.out (bytes_below (Below.refl w2.heap.size w2) (Nat.le_refl _) 5 s))
    clear hF hcap
    generalize hw3 : Lib.bytesWorld w2 5 s = w3 at HR2 HF HG2
    have hlit := must_lit w3 rb long [wEnd] r HR2.out (by decide)
    go_wp2_with (go_at_call 21; (try rw [hw3]); refine hlit.mono ?_; rintro e w4 ⟨hg, ⟨q, hm, rfl, hrd⟩ | ⟨hm, k, hk, rfl⟩⟩ <;> refine Hid.out ?_)
    · refine Lib.hid ?_
      have HG4 := Lib.hid (HG2.out.trans hg)
      have HF4 := Lib.hid (Kd.F_grown HF.out hg (fun k hk e => by injection e with e; have := H.out.lt; omega))
      have HRD4 := Lib.hid hrd
      have HRN4 := Lib.hid (show rdata l = some (bytesOf s, q) by unfold rdata; rw [HRN.out]; simp only [Option.bind_some]; rw [hm]; rfl)
      clear hrd hm hg kb hlit
      go_wp2_with fail
      go_ret2
      have hb := bytesOf_length s
      rw [← hb] at HF4
      exact ⟨HG4.out, Or.inl ⟨bytesOf s, q, some ⟨w2.heap.size, 0, none⟩, grownCap w2 s.size 0 5, HRN4.out, by rw [hb]; rfl, by rw [hb]; exact HCAP.out, HF4.out, HRD4.out⟩⟩
    · refine Lib.hid ?_
      have HG4 := Lib.hid (HG2.out.trans hg)
      have HRN4 := Lib.hid (show rdata l = none by unfold rdata; rw [HRN.out]; simp only [Option.bind_some]; rw [hm]; rfl)
      have HK := Lib.hid hk
      clear hm hk hg kb hlit
      unfold flt
      go_wp2_with fail
      go_ret2
      exact ⟨HG4.out, Or.inr ⟨HRN4.out, k, _, _, _, HK.out, rfl⟩⟩
  · refine Lib.hid ?_
    have HG := Lib.hid hg
    have HQ := Lib.hid hq
    have HRN := Lib.hid (show rdata l = none by unfold rdata; rw [hrn]; rfl)
    clear hg hq hrn
    unfold flt
    go_wp2_with fail
    go_ret2
    exact ⟨HG.out, Or.inr ⟨HRN.out, q, none, 0, 0, HQ.out, rfl⟩⟩
end Go.Proofs.YtdehcojmgmjcmaaDoor
