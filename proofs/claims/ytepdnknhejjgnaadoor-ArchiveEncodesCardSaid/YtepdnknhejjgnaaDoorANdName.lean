/- The reference's Name tells what tree.isName tells. -/
import Derived.Test.YtepdnknhejjgnaaDoorANd
import Derived.Test.YtepdnknhejjgnaaDoorANdCount
import Derived.Test.YtepdnknhejjgnaaDoorQArchiveEncodesx3
import Derived.Lib.DecodeN
import Derived.Lib.Strings
namespace Go.Proofs.YtepdnknhejjgnaaDoor
open Go.RowKit Go.Proofs.YtepdnknhejjgnaaDoor.QArchiveEncodes Go.Proofs.YtepdnknhejjgnaaDoorW.PrintWords
theorem get_bt (s : ByteArray) (pos : Nat) (h : pos < s.size) : ((s.get! pos).toNat : Int) = bt s pos := by
  rw [← bt_at s pos (by simpa using h)]
  have : s.get! pos = s[pos]'h := by
    cases s with | mk a => exact getElem!_pos a pos h
  rw [this]
  rfl
theorem decode_low (s : ByteArray) (pos : Nat) (h : pos < s.size) (hb : bt s pos < 128) : Utf8.decode s pos = ((bt s pos).toNat, 1) := by
  have hg := get_bt s pos h
  rw [Lib.decode_at]
  unfold Lib.decodeN
  rw [if_pos (by omega)]
  congr 1
  omega
theorem decode_high (s : ByteArray) (pos : Nat) (h : pos < s.size) (hb : 128 ≤ bt s pos) : 128 ≤ (Utf8.decode s pos).1 := by
  have hg := get_bt s pos h
  rw [Lib.decode_at]
  generalize (s.get! pos).toNat = b0 at hg
  generalize (s.get! (pos + 1)).toNat = b1
  generalize (s.get! (pos + 2)).toNat = b2
  generalize (s.get! (pos + 3)).toNat = b3
  unfold Lib.decodeN
  rw [if_neg (by omega)]
  repeat' split
  all_goals (simp only []; omega)
/-- what is asked when no byte was strange -/
def nameTail (s : ByteArray) : Bool := if (s.size : Int) ≥ 1 then (if (s.size : Int) ≤ 60 then (if s.toList = ([46] : List UInt8) then false else (s.toList != ([46, 46] : List UInt8))) else false) else false
theorem name_loop (s : ByteArray) (hs : s.size < 9223372036854775807) :
    ∀ (d pos k f : Nat), s.size - pos = d → pos ≤ s.size → d + 1 ≤ k → d ≤ f → stillroomref06_Name.l0 k s (pos : Int) = some (!decide (0 ≤ Lib.idxFuncFrom strange true s f pos) && nameTail s) := by
  intro d
  induction d with
  | zero =>
    intro pos k f h1 h2 h3 h4
    obtain ⟨k, rfl⟩ : ∃ m, k = m + 1 := ⟨k - 1, by omega⟩
    have hx := Lib.idxFuncFrom_end strange true s f pos (by omega)
    rw [decide_eq_false (by rw [hx]; decide)]
    simp only [stillroomref06_Name.l0]
    rw [if_neg (by omega)]
    unfold nameTail
    by_cases a : (s.size : Int) ≥ 1
    · by_cases b : (s.size : Int) ≤ 60
      · by_cases c : s.toList = ([46] : List UInt8)
        · simp [a, b, c]
        · simp [a, b, c]
      · simp [a, b]
    · simp [a]
  | succ d ih =>
    intro pos k f h1 h2 h3 h4
    obtain ⟨k, rfl⟩ : ∃ m, k = m + 1 := ⟨k - 1, by omega⟩
    obtain ⟨f, rfl⟩ : ∃ m, f = m + 1 := ⟨f - 1, by omega⟩
    have hp : pos < s.size := by omega
    have hr := bt_range s pos
    have bad : strange (Utf8.decode s pos).1 = true → decide (0 ≤ Lib.idxFuncFrom strange true s (f + 1) pos) = true := fun h => by
      have hx : Lib.idxFuncFrom strange true s (f + 1) pos = (pos : Int) := by rw [Lib.idxFuncFrom, if_pos hp, if_pos h]
      rw [hx]
      exact decide_eq_true (by omega)
    simp only [stillroomref06_Name.l0]
    rw [if_pos (by omega), if_pos (by omega)]
    by_cases c1 : bt s pos < 33
    · rw [if_pos c1]
      have e := decode_low s pos hp (by omega)
      rw [bad (by rw [e]; simp [strange]; omega)]
      rfl
    · rw [if_neg c1]
      by_cases c2 : bt s pos > 126
      · rw [if_pos c2]
        by_cases c3 : bt s pos < 128
        · have e := decode_low s pos hp c3
          rw [bad (by rw [e]; simp [strange]; omega)]
          rfl
        · have e := decode_high s pos hp (by omega)
          rw [bad (by simp [strange]; omega)]
          rfl
      · rw [if_neg c2]
        have e := decode_low s pos hp (by omega)
        by_cases c4 : bt s pos = 47
        · rw [if_pos c4]
          rw [bad (by rw [e, c4]; rfl)]
          rfl
        · rw [if_neg c4]
          have hn : ¬ strange (bt s pos).toNat = true := by
            have : ¬ (bt s pos).toNat = 47 := by omega
            simp [strange, this]
            omega
          have hx : Lib.idxFuncFrom strange true s (f + 1) pos = Lib.idxFuncFrom strange true s f (pos + 1) := by rw [Lib.idxFuncFrom, if_pos hp, e, if_neg hn]
          rw [hx, w64 (by omega) (by omega)]
          have := ih (pos + 1) k f (by omega) (by omega) (by omega) (by omega)
          rw [Int.natCast_add, Int.natCast_one] at this
          exact this
theorem toList_size (s : ByteArray) : s.toList.length = s.size := by rw [Lib.toList_data]; exact (Lib.size_eq s).symm
theorem name_all (s : ByteArray) (hs : s.size < 9223372036854775807) (k : Nat) (hk : s.size + 1 ≤ k) : stillroomref06_Name.f k s = some (nameOk s) := by
  unfold stillroomref06_Name.f
  have := name_loop s hs _ 0 k s.size rfl (by omega) (by omega) (by omega)
  rw [show ((0 : Nat) : Int) = 0 from rfl] at this
  rw [this]
  have hl := toList_size s
  unfold nameOk nameTail Lib.idxFunc
  generalize decide (0 ≤ Lib.idxFuncFrom strange true s s.size 0) = b
  by_cases a : s.toList = ([] : List UInt8)
  · have a0 : ¬ (s.size : Int) ≥ 1 := by rw [a] at hl; simp at hl; omega
    simp [a, a0]
  · have a0 : (s.size : Int) ≥ 1 := by
      have : s.toList.length ≠ 0 := fun h => a (List.eq_nil_of_length_eq_zero h)
      omega
    by_cases c : (s.size : Int) ≤ 60
    · by_cases d : s.toList = ([46] : List UInt8)
      · simp [d]
      · by_cases e : s.toList = ([46, 46] : List UInt8)
        · simp [e]
        · have e' : (s.toList != ([46, 46] : List UInt8)) = true := by simpa using e
          rw [if_pos a0, if_pos c, if_neg d, e', decide_eq_false a, decide_eq_true c, decide_eq_false d, decide_eq_false e]
          cases b <;> rfl
    · rw [if_pos a0, if_neg c, decide_eq_false c]
      simp
end Go.Proofs.YtepdnknhejjgnaaDoor
