/- ref01.Encode's print: it gives some text for any bytes. -/
import Derived.Test.YtecahdjopdfeeaaGreatDoorSt
import Derived.Test.YtecahdjopdfeeaaGreatDoorWNEv
import Derived.IntWalk
namespace Go.Proofs.YtecahdjopdfeeaaGreatDoor
set_option linter.unusedVariables false
set_option linter.unusedSimpArgs false
open Go.RowKit QObjectNobody Go.Proofs.YtecahdjopdfeeaaGreatDoorW.PrintWords Go.Proofs.YtecahdjopdfeeaaGreatDoorW.PrintLast Go.Proofs.YtecahdjopdfeeaaGreatDoorW.PrintMore
theorem w64in (n : Int) (h : -9223372036854775808 ≤ n ∧ n ≤ 9223372036854775807) : wrap64 n = n := by unfold wrap64; omega
theorem strOfNums_size (x : List Int) : (strOfNums x).size = x.length := by simp [strOfNums, ByteArray.size]
theorem rd_range {l : List Int} (hl : ∀ v ∈ l, 0 ≤ v ∧ v ≤ 255) (i : Int) : 0 ≤ rd l i ∧ rd l i ≤ 255 := by
  unfold rd
  rw [List.getD_eq_getElem?_getD]
  cases h : l[i.toNat]? with
  | none => simp
  | some v => exact hl v (List.mem_of_getElem? h)
theorem bit_some {l : List Int} (hl : ∀ v ∈ l, 0 ≤ v ∧ v ≤ 255) (hn : l.length ≤ 1000) (a : Int) (h0 : 0 ≤ a) (ha : a < 100000) : ∃ t, stillroomref01_bit.f l a = some t ∧ 0 ≤ t ∧ t ≤ 1 := by
  have e1 : wrap64 (Int.tdiv a 8) = a / 8 := by
    rw [Int.tdiv_eq_ediv_of_nonneg h0]; exact w64in _ (by omega)
  have e2 : wrap64 (7 - Int.tmod a 8) = 7 - a % 8 := by
    rw [Int.tmod_eq_emod_of_nonneg h0]; exact w64in _ (by omega)
  have e3 : IntKind.u64.wrap (7 - a % 8) = 7 - a % 8 := by
    rw [IntKind.wrap_u64]; omega
  unfold stillroomref01_bit.f
  rw [e1, e2, e3]
  by_cases c : a / 8 ≥ (l.length : Int)
  · exact ⟨0, by rw [if_pos c], by omega, by omega⟩
  · rw [if_neg c, if_pos (by omega), if_pos (by omega), if_pos (by omega)]
    obtain ⟨r0, r1⟩ := rd_range hl (a / 8)
    have hs : 0 ≤ shr .u8 (rd l (a / 8)) (7 - a % 8) ∧ shr .u8 (rd l (a / 8)) (7 - a % 8) ≤ 255 := by
      unfold shr
      refine ⟨Int.ediv_nonneg r0 (by exact Int.le_of_lt (Int.pow_pos (by decide))), ?_⟩
      exact Int.le_trans (Int.ediv_le_self _ r0) r1
    generalize shr .u8 (rd l (a / 8)) (7 - a % 8) = v at hs
    rw [w64in v (by omega)]
    refine ⟨_, rfl, ?_, ?_⟩
    · rw [Int.tmod_eq_emod_of_nonneg hs.1]; omega
    · rw [Int.tmod_eq_emod_of_nonneg hs.1]; omega
theorem enc_in (P : ByteArray → Prop) {l : List Int} (hl : ∀ v ∈ l, 0 ≤ v ∧ v ≤ 255) (hn : l.length ≤ 1000) (x3 : List Int) (h3 : x3.length < 140737488355328) (a : Int) (h0 : 0 ≤ a) (ha : a < 90000)
    (h : ∀ c, ∃ r, P r ∧ Ev (fun k => stillroomref01_Encode.l0 k l (x3 ++ [c]) (a + 5)) r) :
    ∀ (m : Nat) (x5 x6 : Int), m ≤ 5 → x6 = 5 - m → 0 ≤ x5 → (x5 + 1) * 2 ^ m ≤ 32 → ∃ r, P r ∧ Ev (fun k => stillroomref01_Encode.l1 k l x3 a x5 x6) r
  | 0, x5, x6, hm, h6, h5, hb => by
    obtain ⟨r, hp, hr⟩ := h (bt (⟨#[48, 49, 50, 51, 52, 53, 54, 55, 56, 57, 97, 98, 99, 100, 102, 103, 104, 105, 106, 107, 108, 109, 110, 112, 113, 114, 115, 118, 119, 120, 121, 122]⟩ : ByteArray) x5)
    refine ⟨r, hp, Ev.step (fun k => ?_) hr⟩
    simp only [stillroomref01_Encode.l1]
    have e : wrap64 (a + 5) = a + 5 := w64in _ (by omega)
    rw [if_neg (by omega), if_pos h5, if_pos (by simp at hb; omega), if_pos h3, e]
  | m + 1, x5, x6, hm, h6, h5, hb => by
    have hp : (1 : Int) ≤ 2 ^ m := Int.pow_pos (by decide)
    have hb' : (x5 + 1) * (2 ^ m * 2) ≤ 32 := by rwa [← Int.pow_succ]
    have h32 : x5 + 1 ≤ 32 := by
      have h1 := Int.mul_le_mul_of_nonneg_left (show (1 : Int) ≤ 2 ^ m * 2 by omega) (show 0 ≤ x5 + 1 by omega)
      omega
    have e1 : wrap64 (a + x6) = a + x6 := w64in _ (by omega)
    obtain ⟨t, ht, t0, t1⟩ := bit_some hl hn (a + x6) (by omega) (by omega)
    have e2 : wrap64 (wrap64 (2 * x5) + t) = 2 * x5 + t := by
      rw [w64in (2 * x5) (by omega)]; exact w64in _ (by omega)
    have e3 : wrap64 (x6 + 1) = x6 + 1 := w64in _ (by omega)
    obtain ⟨r, hq, hr⟩ := enc_in P hl hn x3 h3 a h0 ha h m (2 * x5 + t) (x6 + 1) (by omega) (by omega) (by omega) (by
      have h1 := Int.mul_le_mul_of_nonneg_right (show 2 * x5 + t + 1 ≤ (x5 + 1) * 2 by omega) (show (0 : Int) ≤ 2 ^ m by omega)
      rw [Int.mul_assoc, Int.mul_comm 2 (2 ^ m)] at h1
      exact Int.le_trans h1 hb')
    refine ⟨r, hq, Ev.step (fun k => ?_) hr⟩
    simp only [stillroomref01_Encode.l1]
    rw [if_pos (by omega), e1, ht, Option.bind_some, e2, e3]
theorem enc_out {l : List Int} (hl : ∀ v ∈ l, 0 ≤ v ∧ v ≤ 255) (hn : l.length ≤ 1000) : ∀ (n : Nat) (x3 : List Int) (a : Int), 0 ≤ a → a < 80000 → 8 * (l.length : Int) - a ≤ 5 * n → x3.length + n < 140737488355328 →
    ∃ r, r.size ≤ x3.length + n ∧ Ev (fun k => stillroomref01_Encode.l0 k l x3 a) r
  | 0, x3, a, h0, ha, hb, h3 => by
    refine ⟨strOfNums x3, by rw [strOfNums_size]; omega, Ev.step (f := fun _ => some (strOfNums x3)) (fun k => ?_) (Ev.now _)⟩
    · simp only [stillroomref01_Encode.l0]
      rw [if_neg (by rw [w64in _ (by omega)]; omega)]
  | n + 1, x3, a, h0, ha, hb, h3 => by
    by_cases c : a < 8 * (l.length : Int)
    · obtain ⟨r, hz, hr⟩ := enc_in (fun r => r.size ≤ x3.length + (n + 1)) hl hn x3 (by omega) a h0 (by omega) (fun c => by
        obtain ⟨r, hz, hr⟩ := enc_out hl hn n (x3 ++ [c]) (a + 5) (by omega) (by omega) (by omega) (by simp; omega)
        exact ⟨r, by simp at hz; omega, hr⟩) 5 0 0 (by omega) (by omega) (by omega) (by decide)
      refine ⟨r, hz, Ev.step (fun k => ?_) hr⟩
      simp only [stillroomref01_Encode.l0]
      rw [if_pos (by rw [w64in _ (by omega)]; omega)]
    · refine ⟨strOfNums x3, by rw [strOfNums_size]; omega, Ev.step (f := fun _ => some (strOfNums x3)) (fun k => ?_) (Ev.now _)⟩
      · simp only [stillroomref01_Encode.l0]
        rw [if_neg (by rw [w64in _ (by omega)]; omega)]
theorem encode_some {l : List Int} (hl : ∀ v ∈ l, 0 ≤ v ∧ v ≤ 255) (hn : l.length ≤ 1000) : ∃ k r, r.size ≤ 2000 ∧ stillroomref01_Encode.f k l = some r := by
  obtain ⟨r, hz, hr⟩ := enc_out hl hn 2000 [] 0 (by omega) (by omega) (by omega) (by decide)
  obtain ⟨k, hk⟩ := hr.rounds
  exact ⟨k, r, by simpa using hz, hk⟩
end Go.Proofs.YtecahdjopdfeeaaGreatDoor
