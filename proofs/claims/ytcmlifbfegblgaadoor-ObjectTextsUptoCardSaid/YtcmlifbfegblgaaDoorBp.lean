/- ref01.Decode reads just what bits.Decode reads. -/
import Derived.Test.YtcmlifbfegblgaaDoorBo
namespace Go.Proofs.YtcmlifbfegblgaaDoor
set_option linter.unusedVariables false
set_option linter.unusedSimpArgs false
open Go.RowKit Go.Proofs.YtcmlifbfegblgaaDoorW.PrintWords Go.Proofs.YtcmlifbfegblgaaDoorW.PrintLast Go.Proofs.YtcmlifbfegblgaaDoorW.PrintMore
open Go.Proofs.YtcmlifbfegblgaaDoor.QObjectTexts

theorem exists_least (P : Nat → Prop) : ∀ n : Nat, (∃ i, i < n ∧ P i) → ∃ i, i < n ∧ P i ∧ ∀ j, j < i → ¬ P j
  | 0, ⟨i, h, _⟩ => by omega
  | n + 1, ⟨i, h, hp⟩ => by
    by_cases hn : ∃ i, i < n ∧ P i
    · obtain ⟨j, h1, h2, h3⟩ := exists_least P n hn
      exact ⟨j, by omega, h2, h3⟩
    · have hi : i = n := by
        rcases Nat.lt_or_ge i n with h4 | h4
        · exact absurd ⟨i, h4, hp⟩ hn
        · omega
      subst hi
      exact ⟨i, by omega, hp, fun j hj hpj => hn ⟨j, hj, hpj⟩⟩
theorem sign_back (n : Nat) (h : n < 256) (h0 : 0 ≤ Lib.indexByte signs.data.toList n.toUInt8) : bt signs (Lib.indexByte signs.data.toList n.toUInt8) = n := by
  have H : ∀ m : Fin 256, 0 ≤ Lib.indexByte signs.data.toList m.val.toUInt8 → bt signs (Lib.indexByte signs.data.toList m.val.toUInt8) = (m.val : Int) := by decide +kernel
  exact H ⟨n, h⟩ h0
theorem sign_inj (a b : Int) (ha : 0 ≤ a) (ha2 : a < 32) (hb : 0 ≤ b) (hb2 : b < 32) (h : bt signs a = bt signs b) : a = b := by
  have H : ∀ m n : Fin 32, bt signs (m.val : Int) = bt signs (n.val : Int) → m = n := by decide +kernel
  obtain ⟨x, rfl⟩ := Int.eq_ofNat_of_zero_le ha
  obtain ⟨y, rfl⟩ := Int.eq_ofNat_of_zero_le hb
  have h1 := H ⟨x, by omega⟩ ⟨y, by omega⟩ h
  have h2 := congrArg Fin.val h1
  simp at h2
  omega
theorem sgn_back (s : ByteArray) (i : Int) (h : 0 ≤ sgn s i) : bt signs (sgn s i) = bt s i := by
  obtain ⟨h0, h1⟩ := bt_range s i
  obtain ⟨n, hn⟩ := Int.eq_ofNat_of_zero_le h0
  unfold sgn at h ⊢
  rw [hn] at h ⊢
  exact sign_back n (by omega) h
theorem acc_val (s : ByteArray) (N j e : Nat) (he : e ≤ 4) (h : ∀ i, i < 5 → (5 * j + i < 8 * N ↔ i < 5 - e)) (h0 : 0 ≤ sgn s j) : acc (sbit s) N j 5 = sgn s j - sgn s j % 2 ^ e := by
  have h32 := sgn_le s j
  have hb : ∀ i, i < 5 → bitO (sbit s) N (5 * j + i) = if i < 5 - e then sgn s j / 2 ^ (4 - i) % 2 else 0 := by
    intro i hi
    unfold bitO sbit
    rw [show (5 * j + i) / 5 = j by omega, show (5 * j + i) % 5 = i by omega]
    by_cases hc : i < 5 - e
    · rw [if_pos ((h i hi).2 hc), if_pos hc]
    · rw [if_neg (fun hx => hc ((h i hi).1 hx)), if_neg hc]
  simp only [acc]
  rw [hb 0 (by decide), hb 1 (by decide), hb 2 (by decide), hb 3 (by decide), hb 4 (by decide)]
  clear hb h
  generalize sgn s j = v at *
  have : e = 0 ∨ e = 1 ∨ e = 2 ∨ e = 3 ∨ e = 4 := by omega
  rcases this with rfl | rfl | rfl | rfl | rfl <;> simp <;> omega
theorem len_iff (L N : Nat) (hN : N = 5 * L / 8) : (8 * N + 4) / 5 = L ↔ ((L : Int) * 5 / 8) / 5 * 8 + tail5 ((L : Int) * 5 / 8) = L := by
  have e : (L : Int) * 5 / 8 = (N : Int) := by omega
  rw [e]
  unfold tail5
  split
  · omega
  · split
    · omega
    · split
      · omega
      · split <;> omega
theorem toList_strOf (xs : List Int) : (strOfNums xs).toList = xs.map fun n => UInt8.ofNat n.toNat := by
  rw [Lib.toList_data]
  simp [strOfNums]
theorem chars_eq (s : ByteArray) (N : Nat) (hN : N = 5 * s.size / 8) (hg : ∀ i : Nat, i < s.size → 0 ≤ sgn s i) :
    (strOfNums (chars (sbit s) N ((8 * N + 4) / 5))).toList = s.toList ↔ ((8 * N + 4) / 5 = s.size ∧ ∀ j : Nat, j < s.size → acc (sbit s) N j 5 = sgn s j) := by
  rw [toList_strOf, Lib.toList_data]
  have hbyte : ∀ j (hj : j < s.size), (UInt8.ofNat (char (sbit s) N j).toNat = s[j] ↔ acc (sbit s) N j 5 = sgn s j) := by
    intro j hj
    have hr := acc_range (sbit s) (sbit_range s) N j 5 (Nat.le_refl _)
    have hgj := hg j hj
    have hle := sgn_le s j
    have hb := sgn_back s j hgj
    have hbj : bt s (j : Int) = (s[j].toNat : Int) := (bt_at s (j : Int) (by simpa using hj)).symm
    have hcr := bt_range signs (acc (sbit s) N j 5)
    have e32 : (2 : Int) ^ 5 = 32 := rfl
    rw [e32] at hr
    constructor
    · intro h
      have h1 := congrArg UInt8.toNat h
      rw [UInt8.toNat_ofNat'] at h1
      have h2 : char (sbit s) N j = bt s j := by
        rw [hbj]
        unfold char at h1 ⊢
        omega
      exact sign_inj _ _ hr.1 hr.2 hgj hle (by rw [hb]; exact h2)
    · intro h
      unfold char
      rw [h, hb, hbj]
      simp
  constructor
  · intro h
    have hlen := congrArg List.length h
    have hM : (8 * N + 4) / 5 = s.size := by simpa [chars] using hlen
    refine ⟨hM, fun j hj => ?_⟩
    rw [← hbyte j hj]
    have h1 : (List.map (fun n => UInt8.ofNat n.toNat) (chars (sbit s) N ((8 * N + 4) / 5)))[j]? = s.data.toList[j]? := by rw [h]
    have h2 : s.data.toList[j]? = some s[j] := by
      simp [hj]
      rfl
    rw [h2] at h1
    simpa [chars, hM, hj] using h1
  · rintro ⟨hM, h⟩
    apply List.ext_getElem
    · simp [chars, hM]
    · intro j h1 h2
      have hj : j < s.size := by simpa using h2
      have := (hbyte j hj).2 (h j hj)
      simpa [chars] using this.trans (show s[j] = s.data[j] from rfl)
theorem aux_e8 (L : Nat) : (5 * (L : Int) % 8).toNat = 5 * L % 8 := by omega
theorem aux_m4 (L N : Nat) (hN : N = 5 * L / 8) (hM : (8 * N + 4) / 5 = L) : 5 * L % 8 ≤ 4 := by omega
theorem aux_last (L N j : Nat) (hN : N = 5 * L / 8) (hM : (8 * N + 4) / 5 = L) (hj : j + 1 = L) : ∀ i, i < 5 → (5 * j + i < 8 * N ↔ i < 5 - 5 * L % 8) := by intro i hi; omega
theorem aux_mid (L N j : Nat) (hN : N = 5 * L / 8) (hM : (8 * N + 4) / 5 = L) (hj : j + 1 < L) : ∀ i, i < 5 → (5 * j + i < 8 * N ↔ i < 5 - 0) := by intro i hi; omega
theorem aux_pred (L : Nat) (h : L ≠ 0) : ((L - 1 : Nat) : Int) = (L : Int) - 1 := by omega
theorem aux_zero (v z : Int) (h : v = v - z) : z = 0 := by omega
theorem dec_iff2 (s : ByteArray) (N : Nat) (hN : N = 5 * s.size / 8) (hg : ∀ i : Nat, i < s.size → 0 ≤ sgn s i) : ((8 * N + 4) / 5 = s.size ∧ ∀ j : Nat, j < s.size → acc (sbit s) N j 5 = sgn s j) ↔ DecOk s := by
  rw [len_iff s.size N hN]
  have hgi : ∀ i : Int, 0 ≤ i → i < s.size → 0 ≤ sgn s i := fun i h0 h1 => by
    obtain ⟨m, rfl⟩ := Int.eq_ofNat_of_zero_le h0
    exact hg m (by omega)
  constructor
  · rintro ⟨hM, hacc⟩
    have hM2 := (len_iff s.size N hN).2 hM
    refine ⟨hM, hgi, fun h0 => ?_⟩
    have hlt : s.size - 1 < s.size := Nat.sub_lt (Nat.pos_of_ne_zero h0) (by decide)
    have h1 := hacc (s.size - 1) hlt
    have h2 := acc_val s N (s.size - 1) (5 * s.size % 8) (aux_m4 _ _ hN hM2) (aux_last _ _ _ hN hM2 (Nat.sub_add_cancel (Nat.pos_of_ne_zero h0))) (hg _ hlt)
    rw [h1, aux_pred _ h0] at h2
    rw [aux_e8]
    exact aux_zero _ _ h2
  · rintro ⟨hM, _, hz⟩
    have hM2 := (len_iff s.size N hN).2 hM
    refine ⟨hM, fun j hj => ?_⟩
    by_cases hl : j + 1 = s.size
    · have h2 := acc_val s N j (5 * s.size % 8) (aux_m4 _ _ hN hM2) (aux_last _ _ _ hN hM2 hl) (hg _ hj)
      have hne : s.size ≠ 0 := Nat.ne_of_gt (Nat.lt_of_le_of_lt (Nat.zero_le _) hj)
      have h3 := hz hne
      have ej : (s.size : Int) - 1 = (j : Int) := by rw [← hl]; simp
      rw [aux_e8, ej] at h3
      rw [h2, h3]
      exact Int.sub_zero _
    · have h2 := acc_val s N j 0 (by decide) (aux_mid _ _ _ hN hM2 (Nat.lt_of_le_of_ne hj hl)) (hg _ hj)
      rw [h2, Int.pow_zero, Int.emod_one]
      exact Int.sub_zero _
theorem decode_iff (s : ByteArray) (hs : s.size ≤ 16777216) : ∃ r1 r2, Ev (fun k => stillroomref01_Decode.f k s) (r1, r2) ∧ (r2 = 0 ↔ DecOk s) ∧ (r2 = 0 → r1.length = 5 * s.size / 8) := by
  obtain ⟨N, hN⟩ : ∃ N, N = 5 * s.size / 8 := ⟨_, rfl⟩
  have e1 : wrap64 (Int.tdiv (wrap64 ((s.size : Int) * 5)) 8) = (N : Int) := by
    rw [w64in ((s.size : Int) * 5) (by omega), Int.tdiv_eq_ediv_of_nonneg (by omega), w64in _ (by omega)]; omega
  have hf : ∀ k, stillroomref01_Decode.f k s = stillroomref01_Decode.l0 k s (outL (sbit s) 0 N) 0 := by
    intro k
    unfold stillroomref01_Decode.f
    rw [e1, if_pos (by omega), Int.toNat_natCast, if_pos (by omega), outL_zero]
  by_cases hbad : ∃ i, i < s.size ∧ sgn s (i : Nat) < 0
  · obtain ⟨i, hi, hneg, hmin⟩ := exists_least (fun i => sgn s (i : Nat) < 0) s.size hbad
    refine ⟨[], 10, Ev.congr hf (dec_bad s hs N hN i hi hneg (fun j hj => Int.not_lt.1 (hmin j hj)) i 0 (Nat.zero_add _)), ⟨fun h => absurd h (by decide), fun h => ?_⟩, fun h => absurd h (by decide)⟩
    exact absurd (h.2.1 (i : Int) (Int.natCast_nonneg _) (Int.ofNat_lt.2 hi)) (Int.not_le.2 hneg)
  · have hg : ∀ i : Nat, i < s.size → 0 ≤ sgn s i := fun i hi => by
      rcases Int.lt_or_le (sgn s i) 0 with h | h
      · exact absurd ⟨i, hi, h⟩ hbad
      · exact h
    obtain ⟨t, ht⟩ : ∃ t, t = strOfNums (chars (sbit s) N ((8 * N + 4) / 5)) := ⟨_, rfl⟩
    have hev := dec_good s hs N hN hg t (ht ▸ enc_ev (sbit s) (sbit_range s) (5 * s.size) N (by omega) (by omega)) s.size 0 (Nat.zero_add _)
    have hdec : t.toList = s.toList ↔ DecOk s := by
      rw [ht]
      exact (chars_eq s N hN hg).trans (dec_iff2 s N hN hg)
    by_cases hc : t.toList = s.toList
    · rw [if_pos hc] at hev
      exact ⟨_, 0, Ev.congr hf hev, ⟨fun _ => hdec.1 hc, fun _ => rfl⟩, fun _ => by rw [outL_len]; exact hN⟩
    · rw [if_neg hc] at hev
      exact ⟨_, 10, Ev.congr hf hev, ⟨fun h => absurd h (by decide), fun h => absurd (hdec.2 h) hc⟩, fun h => absurd h (by decide)⟩
end Go.Proofs.YtcmlifbfegblgaaDoor
