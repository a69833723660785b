/- The reference's looks at names, paths and infos answer as the program's (plain law). -/
import Derived.Test.YtcmlifbfegblgaaDoorBp
import Derived.Test.YtcmlifbfegblgaaDoorBm
namespace Go.Proofs.YtcmlifbfegblgaaDoor
set_option linter.unusedVariables false
set_option linter.unusedSimpArgs false
open Go.RowKit Go.Proofs.YtcmlifbfegblgaaDoorW.PrintWords Go.Proofs.YtcmlifbfegblgaaDoorW.PrintLast Go.Proofs.YtcmlifbfegblgaaDoorW.PrintMore
open Go.Proofs.YtcmlifbfegblgaaDoor.QObjectTexts

def inB (c : Int) : Bool := decide ((97 ≤ c ∧ c ≤ 122) ∨ (65 ≤ c ∧ c ≤ 90) ∨ (48 ≤ c ∧ c ≤ 57) ∨ c = 43 ∨ c = 45 ∨ c = 46 ∨ c = 95)
theorem inB_iff (c : Int) : inB c = true ↔ inName c := decide_eq_true_iff
theorem sign09 (s : ByteArray) (i : Int) : stillroomref09_sign.f (bt s i) = some (inB (bt s i)) := by
  have H : ∀ m : Fin 256, stillroomref09_sign.f (m.val : Int) = some (inB (m.val : Int)) := by decide +kernel
  obtain ⟨h0, h1⟩ := bt_range s i
  obtain ⟨n, hn⟩ := Int.eq_ofNat_of_zero_le h0
  rw [hn] at h1 ⊢
  exact H ⟨n, by omega⟩
theorem name_l0 (s : ByteArray) (hs : s.size ≤ 16777216) : ∀ (m i : Nat), i + m = s.size → (∀ j : Nat, j < i → inName (bt s j)) → ∃ b, Ev (fun k => stillroomref09_Name.l0 k s (i : Int)) b ∧ (b = true ↔ NameOk s)
  | 0, i, hi, hall => by
    obtain rfl : i = s.size := by omega
    by_cases h1 : 1 ≤ s.size ∧ s.size ≤ 27
    · refine ⟨bt s 0 != 46, Ev.step (f := fun _ => some (bt s 0 != 46)) (fun k => ?_) (Ev.now _), ?_⟩
      · conv => lhs; unfold stillroomref09_Name.l0
        rw [if_neg (by omega), if_pos (by omega), if_pos (by omega), if_pos (by omega)]
      · rw [bne_iff_ne]
        refine ⟨fun h => ⟨h1.1, h1.2, h, fun j h0 h2 => ?_⟩, fun h => h.2.2.1⟩
        obtain ⟨n, rfl⟩ := Int.eq_ofNat_of_zero_le h0
        exact hall n (by omega)
    · refine ⟨false, Ev.step (f := fun _ => some false) (fun k => ?_) (Ev.now _), ⟨fun h => by (cases h), fun h => absurd ⟨h.1, h.2.1⟩ h1⟩⟩
      conv => lhs; unfold stillroomref09_Name.l0
      rw [if_neg (by omega)]
      split
      · rw [if_neg (by omega)]
      · rfl
  | m + 1, i, hi, hall => by
    have e : wrap64 ((i : Int) + 1) = ((i + 1 : Nat) : Int) := by rw [w64in _ (by omega)]; omega
    by_cases hb : inB (bt s i) = true
    · obtain ⟨b, h1, h2⟩ := name_l0 s hs m (i + 1) (by omega) (fun j hj => by
        rcases Nat.lt_or_ge j i with h | h
        · exact hall j h
        · rw [show j = i by omega]; exact (inB_iff _).1 hb)
      refine ⟨b, Ev.step (f := fun k => stillroomref09_Name.l0 k s ((i + 1 : Nat) : Int)) (fun k => ?_) h1, h2⟩
      conv => lhs; unfold stillroomref09_Name.l0
      rw [if_pos (by omega), if_pos (by omega), sign09, Option.bind_some, if_pos hb, e]
    · refine ⟨false, Ev.step (f := fun _ => some false) (fun k => ?_) (Ev.now _), ⟨fun h => by (cases h), fun h => absurd ((inB_iff _).2 (h.2.2.2 (i : Int) (by omega) (by omega))) hb⟩⟩
      conv => lhs; unfold stillroomref09_Name.l0
      rw [if_pos (by omega), if_pos (by omega), sign09, Option.bind_some, if_neg hb]
theorem name_ev (s : ByteArray) (hs : s.size ≤ 16777216) : ∃ b, Ev (fun k => stillroomref09_Name.f k s) b ∧ (b = true ↔ NameOk s) := name_l0 s hs s.size 0 (Nat.zero_add _) (fun j hj => by omega)
theorem bt_extract (s : ByteArray) (a n : Nat) (h : a + n < s.size) : bt (s.extract a s.size) (n : Int) = bt s ((a + n : Nat) : Int) := by
  have h1 : ((n : Int)).toNat < (s.extract a s.size).size := by rw [ByteArray.size_extract]; omega
  have h2 : (((a + n : Nat) : Int)).toNat < s.size := by omega
  unfold bt
  rw [dif_pos h1, dif_pos h2]
  simp only [Int.toNat_natCast, ByteArray.getElem_extract]
theorem path_iff (s : ByteArray) : PathOk s ↔ (41 ≤ s.size ∧ (s.extract 0 7).toList = store.toList ∧ bt s 39 = 45 ∧ NameOk (s.extract 40 s.size) ∧ DecOk (s.extract 7 39)) := by
  have e1 : (s.extract 7 s.size).size = s.size - 7 := by rw [ByteArray.size_extract]; omega
  have e2 : (s.extract 7 s.size).extract 33 (s.extract 7 s.size).size = s.extract 40 s.size := by
    rw [e1, ByteArray.extract_extract]
    congr 1
    omega
  have e3 : 40 ≤ s.size → (s.extract 7 s.size).extract 0 32 = s.extract 7 39 := fun h => by
    rw [ByteArray.extract_extract]
    congr 1
    omega
  have e4 : 40 ≤ s.size → bt (s.extract 7 s.size) 32 = bt s 39 := fun h => bt_extract s 7 32 (by omega)
  unfold PathOk RestOk HasStore
  rw [e2, e1]
  constructor
  · rintro ⟨⟨h7, hp⟩, h33, h45, hn, hd⟩
    have h40 : 40 ≤ s.size := by omega
    have := hn.1
    rw [ByteArray.size_extract] at this
    exact ⟨by omega, hp, (e4 h40) ▸ h45, hn, (e3 h40) ▸ hd⟩
  · rintro ⟨h41, hp, h45, hn, hd⟩
    have h40 : 40 ≤ s.size := by omega
    exact ⟨⟨by omega, hp⟩, by omega, (e4 h40).symm ▸ h45, hn, (e3 h40).symm ▸ hd⟩
theorem storeL : store.toList = [47, 115, 116, 111, 114, 101, 47] := by rw [Lib.toList_data]; rfl
theorem Ev.pos {α : Type} {c : Prop} [Decidable c] {A B : Nat → Option α} {r : α} (h : c) (k : Ev A r) : Ev (fun n => if c then A n else B n) r := Ev.congr (fun _ => if_pos h) k
theorem Ev.neg {α : Type} {c : Prop} [Decidable c] {A B : Nat → Option α} {r : α} (h : ¬ c) (k : Ev B r) : Ev (fun n => if c then A n else B n) r := Ev.congr (fun _ => if_neg h) k
theorem split_ev (s : ByteArray) (hs : s.size ≤ 16777216) : ∃ a b x, Ev (fun k => stillroomref09_Split.f k s) (a, b, x) ∧ (x = 0 ↔ PathOk s) := by
  have hbad : Ev (fun k => stillroomref09_Split.j0 k s true) ((⟨#[]⟩ : ByteArray), (⟨#[]⟩ : ByteArray), 17) := Ev.step (f := fun _ => some ((⟨#[]⟩ : ByteArray), (⟨#[]⟩ : ByteArray), 17)) (fun k => rfl) (Ev.now _)
  rw [path_iff, storeL]
  unfold stillroomref09_Split.f
  by_cases h41 : (s.size : Int) < 41
  · exact ⟨_, _, _, Ev.pos h41 hbad, ⟨fun h => absurd h (by decide), fun h => by have := h.1; omega⟩⟩
  · by_cases hp : (s.extract 0 7).toList = [47, 115, 116, 111, 114, 101, 47]
    · by_cases h45 : bt s 39 = 45
      · obtain ⟨b, hb, hbn⟩ := name_ev (s.extract 40 s.size) (by rw [ByteArray.size_extract]; omega)
        cases b with
        | false =>
          refine ⟨_, _, _, Ev.neg h41 (Ev.pos (by decide) (Ev.pos (by omega) (Ev.pos hp (Ev.pos (by omega) (Ev.pos h45 (Ev.pos (by omega) (Ev.bind hb hbad))))))), ⟨fun h => absurd h (by decide), fun h => ?_⟩⟩
          have := hbn.2 h.2.2.2.1
          cases this
        | true =>
          have hn := hbn.1 rfl
          obtain ⟨r1, r2, hd, hdi, _⟩ := decode_iff (s.extract 7 39) (by rw [ByteArray.size_extract]; omega)
          by_cases h2 : r2 = 0
          · have hgood : Ev (fun k => stillroomref09_Split.j0 k s false) (s.extract 7 39, s.extract 40 s.size, 0) := by
              refine Ev.step (f := fun k => (stillroomref01_Decode.f k (s.extract 7 39)).bind fun x => if x.2 = 0 then (if 40 ≤ (s.size : Int) then (some (s.extract 7 39, s.extract 40 s.size, (0 : Int))) else (none)) else (some ((⟨#[]⟩ : ByteArray), (⟨#[]⟩ : ByteArray), (17 : Int)))) (fun k => ?_) (Ev.bind hd (Ev.pos h2 (Ev.pos (by omega) (Ev.now _))))
              simp only [stillroomref09_Split.j0, Bool.false_eq_true, if_false]
              have h39 : (39 : Int) ≤ (s.size : Int) := by omega
              simp only [h39, if_true, show (7 : Nat) ≤ 39 from by decide]
            exact ⟨_, _, _, Ev.neg h41 (Ev.pos (by decide) (Ev.pos (by omega) (Ev.pos hp (Ev.pos (by omega) (Ev.pos h45 (Ev.pos (by omega) (Ev.bind hb hgood))))))), ⟨fun _ => ⟨by omega, hp, h45, hn, hdi.1 h2⟩, fun _ => rfl⟩⟩
          · have hno : Ev (fun k => stillroomref09_Split.j0 k s false) ((⟨#[]⟩ : ByteArray), (⟨#[]⟩ : ByteArray), 17) := by
              refine Ev.step (f := fun k => (stillroomref01_Decode.f k (s.extract 7 39)).bind fun x => if x.2 = 0 then (if 40 ≤ (s.size : Int) then (some (s.extract 7 39, s.extract 40 s.size, (0 : Int))) else (none)) else (some ((⟨#[]⟩ : ByteArray), (⟨#[]⟩ : ByteArray), (17 : Int)))) (fun k => ?_) (Ev.bind hd (Ev.neg h2 (Ev.now _)))
              simp only [stillroomref09_Split.j0, Bool.false_eq_true, if_false]
              have h39 : (39 : Int) ≤ (s.size : Int) := by omega
              simp only [h39, if_true, show (7 : Nat) ≤ 39 from by decide]
            exact ⟨_, _, _, Ev.neg h41 (Ev.pos (by decide) (Ev.pos (by omega) (Ev.pos hp (Ev.pos (by omega) (Ev.pos h45 (Ev.pos (by omega) (Ev.bind hb hno))))))), ⟨fun h => absurd h (by decide), fun h => absurd (hdi.2 h.2.2.2.2) h2⟩⟩
      · exact ⟨_, _, _, Ev.neg h41 (Ev.pos (by decide) (Ev.pos (by omega) (Ev.pos hp (Ev.pos (by omega) (Ev.neg h45 hbad))))), ⟨fun h => absurd h (by decide), fun h => absurd h.2.2.1 h45⟩⟩
    · exact ⟨_, _, _, Ev.neg h41 (Ev.pos (by decide) (Ev.pos (by omega) (Ev.neg hp hbad))), ⟨fun h => absurd h (by decide), fun h => absurd h.2.1 hp⟩⟩
theorem path_ev (s : ByteArray) (hs : s.size ≤ 16777216) : ∃ b, Ev (fun k => stillroomref11_path.f k s) b ∧ (b = true ↔ PathOk s) := by
  obtain ⟨a, b, x, h, hx⟩ := split_ev s hs
  refine ⟨x == 0, Ev.congr (g := fun k => stillroomref11_path.f k s) (f := fun k => (stillroomref09_Split.f k s).bind fun y => some (y.2.2 == 0)) (fun _ => rfl) (Ev.bind (a := (a, b, x)) (f := fun _ y => some (y.2.2 == 0)) h (Ev.now _)), ?_⟩
  rw [beq_iff_eq, hx]
theorem rises_l0 (l : List ByteArray) (hl : l.length ≤ 1000000000) : ∀ (m i : Nat), i + m = l.length → 1 ≤ i → (∀ j : Nat, j + 1 < i → Op.bytesLess (at_ l j) (at_ l (j + 1)) = true) → ∃ b, Ev (fun k => stillroomref11_rises.l0 k l (i : Int)) b ∧ (b = true ↔ RisesOk l)
  | 0, i, hi, h1, hall => by
    obtain rfl : i = l.length := by omega
    refine ⟨decide ((l.length : Int) ≤ 1024), Ev.step (f := fun _ => some (decide ((l.length : Int) ≤ 1024))) (fun k => ?_) (Ev.now _), ?_⟩
    · conv => lhs; unfold stillroomref11_rises.l0
      rw [if_neg (by omega)]
    · rw [decide_eq_true_eq]
      exact ⟨fun h => ⟨by omega, fun j hj => hall j hj⟩, fun h => by have := h.1; omega⟩
  | m + 1, i, hi, h1, hall => by
    have e : wrap64 ((i : Int) + 1) = ((i + 1 : Nat) : Int) := by rw [w64in _ (by omega)]; omega
    have e2 : wrap64 ((i : Int) - 1) = ((i - 1 : Nat) : Int) := by rw [w64in _ (by omega)]; omega
    have a1 : (rdOf ByteArray.empty l ((i - 1 : Nat) : Int)).toList = at_ l (i - 1) := rfl
    have a2 : (rdOf ByteArray.empty l (i : Int)).toList = at_ l i := rfl
    have ei : i - 1 + 1 = i := by omega
    by_cases hb : Op.bytesLess (at_ l (i - 1)) (at_ l i) = true
    · obtain ⟨b, h2, h3⟩ := rises_l0 l hl m (i + 1) (by omega) (by omega) (fun j hj => by
        rcases Nat.lt_or_ge (j + 1) i with h | h
        · exact hall j h
        · have ej : j = i - 1 := by omega
          rw [ej, ei]; exact hb)
      refine ⟨b, Ev.step (f := fun k => stillroomref11_rises.l0 k l ((i + 1 : Nat) : Int)) (fun k => ?_) h2, h3⟩
      conv => lhs; unfold stillroomref11_rises.l0
      rw [e, e2, a1, a2, if_pos (by omega), if_pos (by omega), if_pos (by omega), if_pos (by omega), if_pos hb]
    · refine ⟨false, Ev.step (f := fun _ => some false) (fun k => ?_) (Ev.now _), ⟨fun h => by (cases h), fun h => ?_⟩⟩
      · conv => lhs; unfold stillroomref11_rises.l0
        rw [e2, a1, a2, if_pos (by omega), if_pos (by omega), if_pos (by omega), if_pos (by omega), if_neg hb]
      · have := h.2 (i - 1) (by omega)
        rw [ei] at this
        exact absurd this hb
theorem rises_ev (l : List ByteArray) (hl : l.length ≤ 1000000000) : ∃ b, Ev (fun k => stillroomref11_rises.f k l) b ∧ (b = true ↔ RisesOk l) := by
  rcases Nat.eq_zero_or_pos l.length with h0 | h0
  · refine ⟨true, Ev.step (g := fun k => stillroomref11_rises.f k l) (f := fun _ => some true) (fun k => ?_) (Ev.now _), ⟨fun _ => ⟨by omega, fun i hi => by omega⟩, fun _ => rfl⟩⟩
    show stillroomref11_rises.l0 (k + 1) l 1 = some true
    conv => lhs; unfold stillroomref11_rises.l0
    rw [if_neg (by omega)]
    simp [h0]
  · exact rises_l0 l hl (l.length - 1) 1 (by omega) (Nat.le_refl _) (fun j hj => by omega)
theorem all_ev : ∀ (l : List ByteArray), Short l → ∃ b, Ev (fun k => stillroomref11_May.l0 k l) b ∧ (b = true ↔ AllPaths l)
  | [], _ => ⟨true, Ev.now _, ⟨fun _ i hi => by simp at hi, fun _ => rfl⟩⟩
  | x :: r, hs => by
    have hx : x.size ≤ 16777216 := hs 0
    obtain ⟨b, hb, hbi⟩ := path_ev x hx
    obtain ⟨b2, hb2, hbi2⟩ := all_ev r (fun i => hs (i + 1))
    cases b with
    | false =>
      refine ⟨false, Ev.congr (f := fun k => (stillroomref11_path.f k x).bind fun b => if b = true then stillroomref11_May.l0 k r else some false) (fun _ => rfl) (Ev.bind hb (Ev.neg (by decide) (Ev.now _))), ⟨fun h => by (cases h), fun h => ?_⟩⟩
      have := hbi.2 (h 0 (by simp))
      cases this
    | true =>
      refine ⟨b2, Ev.congr (f := fun k => (stillroomref11_path.f k x).bind fun b => if b = true then stillroomref11_May.l0 k r else some false) (fun _ => rfl) (Ev.bind hb (Ev.pos rfl hb2)), hbi2.trans ⟨fun h i hi => ?_, fun h i hi => ?_⟩⟩
      · cases i with
        | zero => exact hbi.1 rfl
        | succ i => exact h i (by simpa using hi)
      · exact h (i + 1) (by simpa using hi)
/-- The reference's May answers as the program's. -/
theorem may_ev (p h d : ByteArray) (l : List ByteArray) (hp : p.size ≤ 16777216) (hh : h.size ≤ 16777216) (hd : d.size ≤ 16777216) (hl : l.length ≤ 1000000000) (hs : Short l) : ∃ k r, stillroomref11_May.f k p h d l = some r ∧ (r = true ↔ InfoOk p h d l) := by
  obtain ⟨r1, r2, he, hei, hel⟩ := decode_iff h hh
  obtain ⟨bp, hbp, hbpi⟩ := path_ev p hp
  obtain ⟨bd, hbd, hbdi⟩ := path_ev d hd
  obtain ⟨br, hbr, hbri⟩ := rises_ev l hl
  obtain ⟨ba, hba, hbai⟩ := all_ev l hs
  have hH : (r2 = 0 ∧ r1.length = 32) ↔ HashOk h := by
    unfold HashOk
    rw [← hei]
    exact ⟨fun e => ⟨e.1, by rw [← hel e.1]; exact e.2⟩, fun e => ⟨e.1, by rw [hel e.1]; exact e.2⟩⟩
  have hde : ∃ b2, Ev (fun k => if d.toList = ([] : List UInt8) then some true else stillroomref11_path.f k d) b2 ∧ (b2 = true ↔ (d.toList = [] ∨ PathOk d)) := by
    by_cases hc : d.toList = []
    · exact ⟨true, Ev.pos hc (Ev.now _), ⟨fun _ => .inl hc, fun _ => rfl⟩⟩
    · exact ⟨bd, Ev.neg hc hbd, hbdi.trans ⟨fun e => .inr e, fun e => e.resolve_left hc⟩⟩
  obtain ⟨b2, hb2, hb2i⟩ := hde
  have hfin : Ev (fun k => (stillroomref11_rises.f k l).bind fun b3 => if b3 = true then stillroomref11_May.l0 k l else some false) (br && ba) := by
    refine Ev.bind hbr ?_
    cases br with
    | false => exact Ev.neg (by decide) (Ev.now _)
    | true => rw [Bool.true_and]; exact Ev.pos rfl hba
  have hfin2 : Ev (fun k => (if d.toList = ([] : List UInt8) then some true else stillroomref11_path.f k d).bind fun b2 => if b2 = true then ((stillroomref11_rises.f k l).bind fun b3 => if b3 = true then stillroomref11_May.l0 k l else some false) else some false) (b2 && (br && ba)) := by
    refine Ev.bind hb2 ?_
    cases b2 with
    | false => exact Ev.neg (by decide) (Ev.now _)
    | true => rw [Bool.true_and]; exact Ev.pos rfl hfin
  have hfin3 : Ev (fun k => (stillroomref11_path.f k p).bind fun b => if b = true then ((if d.toList = ([] : List UInt8) then some true else stillroomref11_path.f k d).bind fun b2 => if b2 = true then ((stillroomref11_rises.f k l).bind fun b3 => if b3 = true then stillroomref11_May.l0 k l else some false) else some false) else some false) (bp && (b2 && (br && ba))) := by
    refine Ev.bind hbp ?_
    cases bp with
    | false => exact Ev.neg (by decide) (Ev.now _)
    | true => rw [Bool.true_and]; exact Ev.pos rfl hfin2
  have hall : ∃ r, Ev (fun k => stillroomref11_May.f k p h d l) r ∧ (r = true ↔ InfoOk p h d l) := by
    unfold stillroomref11_May.f
    by_cases hc : r2 = 0 ∧ r1.length = 32
    · refine ⟨_, Ev.bind he (Ev.pos hc hfin3), ?_⟩
      unfold InfoOk
      rw [← hH, ← hbpi, ← hb2i, ← hbri, ← hbai]
      simp [hc, and_assoc]
    · exact ⟨false, Ev.bind he (Ev.neg hc (Ev.now _)), ⟨fun e => by (cases e), fun e => absurd (hH.2 e.1) hc⟩⟩
  obtain ⟨r, hr, hri⟩ := hall
  obtain ⟨k, hk⟩ := hr.rounds
  exact ⟨k, r, hk, hri⟩
end Go.Proofs.YtcmlifbfegblgaaDoor
