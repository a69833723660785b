/- ObjectTexts: the law's walk. -/
import Derived.Test.YtcmlifbfegblgaaDoorBs
import Derived.Test.YtcmlifbfegblgaaDoorQz
namespace Go.Proofs.YtcmlifbfegblgaaDoor
set_option linter.unusedVariables false
set_option linter.unusedSimpArgs false
open Go.RowKit Go.Proofs.YtcmlifbfegblgaaDoorW.PrintWords Go.Proofs.YtcmlifbfegblgaaDoorW.PrintLast Go.Proofs.YtcmlifbfegblgaaDoorW.PrintMore
open Go.Proofs.YtcmlifbfegblgaaDoor.QObjectTexts

theorem texts_self (l : List ByteArray) (hl : l.length ≤ 1000000000) : ∀ (m i : Nat), i + m = l.length → Ev (fun k => stillroomlaw11_texts.l0 k l l (i : Int)) true
  | 0, i, hi => by
    obtain rfl : i = l.length := by omega
    refine Ev.step (f := fun _ => some true) (fun k => ?_) (Ev.now _)
    conv => lhs; unfold stillroomlaw11_texts.l0
    rw [if_neg (by omega)]
  | m + 1, i, hi => by
    have e : wrap64 ((i : Int) + 1) = ((i + 1 : Nat) : Int) := by rw [w64in _ (by omega)]; omega
    refine Ev.step (f := fun k => stillroomlaw11_texts.l0 k l l ((i + 1 : Nat) : Int)) (fun k => ?_) (texts_self l hl m (i + 1) (by omega))
    conv => lhs; unfold stillroomlaw11_texts.l0
    rw [if_pos (by omega), if_pos (by omega), if_pos (by omega), if_pos rfl, e]
theorem infos_self (p h d : ByteArray) (l : List ByteArray) (hl : l.length ≤ 1000000000) : ∃ k, stillroomlaw11_infos.f k p h d l p h d l = some true := by
  have h1 : Ev (fun k => stillroomlaw11_texts.f k l l) true := Ev.congr (f := fun k => if (l.length : Int) = (l.length : Int) then (stillroomlaw11_texts.l0 k l l 0) else (some false)) (fun _ => rfl) (Ev.pos rfl (texts_self l hl l.length 0 (Nat.zero_add _)))
  obtain ⟨k, hk⟩ := h1.rounds
  refine ⟨k, ?_⟩
  unfold stillroomlaw11_infos.f
  rw [if_pos rfl, if_pos rfl, if_pos rfl, hk]
  rfl
theorem InfoAt.move {w w' : World} {B b : Nat} {p h d : ByteArray} {v : Value} (hb : InfoAt w b p h d v) (hk : Below B w w') (hB : b < B) : InfoAt w' b p h d v := (hk.block b hB).trans hb
set_option maxHeartbeats 4000000 in
set_option maxRecDepth 100000 in
theorem law_walk (ip h d p s : ByteArray) (l : List ByteArray) (A : Option Addr) (c : Nat) (w : World) (hip : ip.size ≤ 16777216) (hh : h.size ≤ 16777216) (hd : d.size ≤ 16777216) (hp : p.size ≤ 16777216) (hs : s.size ≤ 16777216) (hr : Kd.C Kd.string w A l.length l) (hc : l.length ≤ c) (hl : l.length ≤ 1000000000) (hsh : Short l) (T : Tabs w) :
    Calls Tryd.prog 3 #[.agg #[.string ip, .string h, .string d, .slice A l.length c], .string p, .string s] w fun e w' => e = .returned (.bool true) ∧ Below w.heap.size w w' := by
  obtain ⟨k1, r1, hm1, hr1⟩ := may_ev ip h d l hip hh hd hl hsh
  have hrs := rtold_sizes s hs
  obtain ⟨k2, r2, hm2, hr2⟩ := may_ev p (rtold s).hash (rtold s).deriver (rtold s).refs hp hrs.1 hrs.2.1 (Nat.le_trans hrs.2.2.2 (by decide)) hrs.2.2.1
  have HM1 := Lib.hid hm1
  have HM2 := Lib.hid hm2
  have HR1 := Lib.hid hr1
  have HR2 := Lib.hid hr2
  have HT := Lib.hid T
  have HR := Lib.hid hr
  have HC := Lib.hid hc
  have HL := Lib.hid hl
  have HS := Lib.hid hsh
  clear hm1 hm2 hr1 hr2 hrs T hr hc hl hsh
  go_enter Tryd.func3, Tryd.ntmps3
  go_wp2_with (go_at_call 5; refine (text_of ip h d l A c _ hip hh hd (Kd.C_below HR.out ((Below.refl _ _).alloc (Nat.le_refl _) _)) HC.out HL.out HS.out (HT.out.of ((Below.refl _ _).alloc (Nat.le_refl _) _))).mono ?_; rintro e w1 ⟨t1, x1, rfl, hb, hx1⟩; refine Hid.out ?_)
  refine Lib.hid ?_
  have hI : InfoAt w1 w.heap.size ip h d (.slice A l.length c) := (hb.block _ (by simp)).trans (heap_alloc_new w _)
  have hB : Below w.heap.size w w1 := ((Below.refl _ _).alloc (Nat.le_refl _) _).trans (hb.mono (by simp))
  obtain ⟨c0, c1, c2, c3⟩ := info_cells hI
  have HI1 := Lib.hid hI
  have HB1 := Lib.hid hB
  have HX1 := Lib.hid hx1
  clear hb hI hB hx1
  go_wp2_with (go_at_call 6; refine (rtext_of k1 r1 ip h d l A c _ HM1.out hh hd (Kd.C_below HR.out HB1.out) HC.out HL.out HS.out).mono ?_; rintro e w2 ⟨t2, x2, rfl, hb, hx2⟩; refine Hid.out ?_)
  refine Lib.hid ?_
  have he12 : t1 = t2 ∧ x1 = x2 := by
    rcases HX1.out with ⟨a1, a2, a3⟩ | ⟨a1, a2, a3⟩
    · rcases hx2 with ⟨b1, b2, b3⟩ | ⟨b1, b2, b3⟩
      · rw [a2, a3, b2, b3, texts_eq]; exact ⟨rfl, rfl⟩
      · exact absurd (HR1.out.2 a1) (by rw [b1]; decide)
    · rcases hx2 with ⟨b1, b2, b3⟩ | ⟨b1, b2, b3⟩
      · exact absurd (HR1.out.1 b1) a1
      · rw [a2, a3, b2, b3]; exact ⟨rfl, rfl⟩
  obtain ⟨rfl, rfl⟩ := he12
  have HB2 := Lib.hid (show Below w.heap.size w w2 from HB1.out.trans (hb.mono HB1.out.size))
  clear hb hx2
  go_wp2_with (go_at_call 7; refine (read_of p s _ hp hs (HT.out.of HB2.out)).mono ?_; rintro e w3 ⟨hx, dx, lx, vx, xx, he, hb, hox, hrx⟩; obtain ⟨px, hpx⟩ : ∃ px, (if xx = 0 then p else ⟨#[]⟩) = px := ⟨_, rfl⟩; rw [hpx] at he; subst he; refine Hid.out ?_)
  refine Lib.hid ?_
  have HB3 := Lib.hid (show Below w.heap.size w w3 from HB2.out.trans (hb.mono HB2.out.size))
  obtain ⟨Ax, cx, rfl, hcx, hCx⟩ := Kd.R_reads (d := Kd.string) (Kd.R_of_own (enc := Value.string) (h1 := fun _ => rfl) (ok := fun _ => True) (xs := lx) hox (fun _ _ => trivial))
  have HCx := Lib.hid hCx
  have Hcx := Lib.hid hcx
  have HPx := Lib.hid hpx
  have HRx := Lib.hid hrx
  clear hb hox hcx hCx hpx hrx
  go_wp2_with (go_at_call 8; refine (rread_of p s _ k2 r2 hp hs HM2.out).mono ?_; rintro e w4 ⟨hy, dy, ly, vy, xy, he, hb, hoy, hry⟩; obtain ⟨py, hpy⟩ : ∃ py, (if xy = 0 then p else ⟨#[]⟩) = py := ⟨_, rfl⟩; rw [hpy] at he; subst he; refine Hid.out ?_)
  refine Lib.hid ?_
  have hI3 : InfoAt w4 w3.heap.size px hx dx (.slice Ax lx.length cx) := (hb.block _ (by simp)).trans (heap_alloc_new w3 _)
  have HCx4 := Lib.hid (Kd.C_below (Kd.C_below HCx.out ((Below.refl w3.heap.size w3).alloc (Nat.le_refl _) (.cells #[.string px, .string hx, .string dx, .slice Ax lx.length cx] 24))) hb)
  have HB4 := Lib.hid (show Below w.heap.size w w4 from (HB3.out.alloc HB3.out.size _).trans (hb.mono (by rw [World.size_alloc]; have := HB3.out.size; omega)))
  have hsame : hy = hx ∧ dy = dx ∧ ly = lx ∧ xy = xx := by
    rcases HRx.out with ⟨a1, a2, a3, a4, a5, a6⟩ | ⟨a1, a3, a4, a5, a6⟩
    · have e := reads_same p s ⟨a1, a2⟩
      have b0 := (reads_iff p s).1 ⟨a1, a2⟩
      rcases hry with ⟨b1, b2, b3, b4, b5, b6⟩ | ⟨b1, b3, b4, b5, b6⟩
      · rw [a3, a4, a5, a6, b3, b4, b5, b6, e]; exact ⟨rfl, rfl, rfl, rfl⟩
      · exact absurd ⟨HR2.out.2 b0.1, b0.2⟩ b1
    · rcases hry with ⟨b1, b2, b3, b4, b5, b6⟩ | ⟨b1, b3, b4, b5, b6⟩
      · exact absurd ((reads_iff p s).2 ⟨HR2.out.1 b1, b2⟩) a1
      · rw [a3, a4, a5, a6, b3, b4, b5, b6]; exact ⟨rfl, rfl, rfl, rfl⟩
  obtain ⟨rfl, rfl, rfl, rfl⟩ := hsame
  obtain rfl : py = px := hpy.symm.trans HPx.out
  obtain ⟨Ay, cy, rfl, hcy, hCy⟩ := Kd.R_reads (d := Kd.string) (Kd.R_of_own (enc := Value.string) (h1 := fun _ => rfl) (ok := fun _ => True) (xs := ly) hoy (fun _ _ => trivial))
  have HCy := Lib.hid hCy
  have Hcy := Lib.hid hcy
  have HI3 := Lib.hid hI3
  have hI5 : InfoAt (w4.alloc (.cells #[.string py, .string hy, .string dy, .slice Ay ly.length cy] 24)) w3.heap.size py hy dy (.slice Ax ly.length cx) := (heap_alloc_old _ _ _ (Array.getElem?_eq_some_iff.1 hI3).1).trans hI3
  obtain ⟨d0, d1, d2, d3⟩ := info_cells hI5
  have hlen : ly.length ≤ 1000000000 := by
    rcases hry with ⟨b1, b2, b3, b4, b5, b6⟩ | ⟨b1, b3, b4, b5, b6⟩
    · rw [b6]; exact Nat.le_trans (rtold_sizes s hs).2.2.2 (by decide)
    · rw [b6]; decide
  obtain ⟨k3, hk3⟩ := infos_self py hy dy ly hlen
  have HK3 := Lib.hid hk3
  have HB5 := Lib.hid (show Below w.heap.size w (w4.alloc (.cells #[.string py, .string hy, .string dy, .slice Ay ly.length cy] 24)) from HB4.out.alloc HB4.out.size _)
  clear hb hoy hry hcy hCy hI3 hI5 hlen hk3 hpy
  go_wp2_with (first
    | (go_at_call 9; refine (stillroomlaw11_infos.calls k3 py hy dy Ax cx ly py hy dy Ay cy ly true _ (Kd.C_below HCx4.out ((Below.refl _ _).alloc (Nat.le_refl _) _)) Hcx.out (Kd.C_below HCy.out ((Below.refl _ _).alloc (Nat.le_refl _) _)) Hcy.out HK3.out).mono ?_; rintro e w6 ⟨rfl, hb6⟩)
    | (go_at_call 10; refine (stillroomlaw11_names.calls true _ rfl).mono ?_; rintro e w7 ⟨rfl, q7, rfl⟩))
  go_ret
  exact ⟨rfl, pw_below_drewN (HB5.out.trans (hb6.mono HB5.out.size)) _⟩
#print axioms law_walk
end Go.Proofs.YtcmlifbfegblgaaDoor
