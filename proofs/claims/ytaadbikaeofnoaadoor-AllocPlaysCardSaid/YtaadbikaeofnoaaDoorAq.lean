/- More plain facts on sets of numbers kept as bits: their bytes, the list of bools, and how each is filled step by step. No program stands here. -/
import Derived.Test.YtaadbikaeofnoaaDoorAp
import Derived.Laws.BytesArg
import Derived.Laws.MakeOwn
namespace Go.Proofs.YtaadbikaeofnoaaDoor

/-- the 256 bytes of a set -/
def bytl (S : Nat) : List Int := (List.range 256).map fun k => (dg 8 S k : Int)
def bytc (S : Nat) : Array Value := ((bytl S).map fun x => Value.int .u8 x).toArray
/-- the bools of a set -/
def insc (n S : Nat) : Array Value := ((List.range n).map fun k => Value.bool (S.testBit k)).toArray
theorem bytl_length (S : Nat) : (bytl S).length = 256 := by simp [bytl]
theorem bytl_getD (S k : Nat) (h : k < 256) : (bytl S).getD k 0 = (dg 8 S k : Int) := by simp [bytl, h]
theorem bytc_size (S : Nat) : (bytc S).size = 256 := by simp [bytc, bytl]
theorem bytc_at (S : Nat) {k : Nat} (h : k < 256) : (bytc S)[k]? = some (.int .u8 (dg 8 S k)) := by simp [bytc, bytl, h]
theorem bytc_upd {S S' k : Nat} {v : Int} (hk : k < 256) (hv : v = (dg 8 S' k : Int)) (ho : ∀ j, j < 256 → j ≠ k → dg 8 S' j = dg 8 S j) : (bytc S).setIfInBounds k (.int .u8 v) = bytc S' := by
  apply Array.ext_getElem?
  intro i
  rw [Array.getElem?_setIfInBounds]
  by_cases h : k = i
  · subst h
    rw [if_pos rfl, if_pos (by rw [bytc_size]; omega), bytc_at S' hk, hv]
  · rw [if_neg h]
    by_cases hi : i < 256
    · rw [bytc_at S hi, bytc_at S' hi, ho i hi (by omega)]
    · rw [Array.getElem?_eq_none (by rw [bytc_size]; omega), Array.getElem?_eq_none (by rw [bytc_size]; omega)]
theorem bytc_made : madeCells #[Value.int .u8 0] 256 = bytc 0 := by
  apply Array.ext_getElem?
  intro i
  by_cases hi : i < 256
  · rw [bytc_at 0 hi]
    simp [madeCells, hi, dg_zero, Nat.mod_one]
  · rw [Array.getElem?_eq_none (by rw [size_madeCells]; omega), Array.getElem?_eq_none (by rw [bytc_size]; omega)]
theorem insc_size (n S : Nat) : (insc n S).size = n := by simp [insc]
theorem insc_at {n S k : Nat} (h : k < n) : (insc n S)[k]? = some (.bool (S.testBit k)) := by simp [insc, h]
theorem insc_upd {n S S' k : Nat} {v : Bool} (hk : k < n) (hv : v = S'.testBit k) (ho : ∀ j, j < n → j ≠ k → S'.testBit j = S.testBit j) : (insc n S).setIfInBounds k (.bool v) = insc n S' := by
  apply Array.ext_getElem?
  intro i
  rw [Array.getElem?_setIfInBounds]
  by_cases h : k = i
  · subst h
    rw [if_pos rfl, if_pos (by rw [insc_size]; omega), insc_at hk, hv]
  · rw [if_neg h]
    by_cases hi : i < n
    · rw [insc_at hi, insc_at hi, ho i hi (by omega)]
    · rw [Array.getElem?_eq_none (by rw [insc_size]; omega), Array.getElem?_eq_none (by rw [insc_size]; omega)]
theorem insc_made (n : Nat) : madeCells #[Value.bool false] n = insc n 0 := by
  apply Array.ext_getElem?
  intro i
  by_cases hi : i < n
  · rw [insc_at hi]
    simp [madeCells, hi, Nat.mod_one]
  · rw [Array.getElem?_eq_none (by rw [size_madeCells]; omega), Array.getElem?_eq_none (by rw [insc_size]; omega)]

/-! the bytes of a number that was read out of bytes -/
theorem toS_digit (l : List Int) (h : ∀ x ∈ l, 0 ≤ x ∧ x ≤ 255) (k : Nat) (hk : k < l.length) : (dg 8 (toS l) k : Int) = l.getD k 0 := by
  induction l generalizing k with
  | nil => simp at hk
  | cons y l ih =>
    have h2 := h y List.mem_cons_self
    cases k with
    | zero =>
      simp only [dg, toS, Nat.mul_zero, Nat.pow_zero, Nat.div_one, List.getD_cons_zero]
      omega
    | succ k =>
      have := ih (fun x hx => h x (List.mem_cons_of_mem _ hx)) k (by simpa using hk)
      rw [List.getD_cons_succ, ← this]
      unfold dg
      rw [show 8 * (k + 1) = 8 + 8 * k by omega, Nat.pow_add, ← Nat.div_div_eq_div_mul]
      simp only [toS]
      rw [show (y.toNat + 256 * toS l) / 2 ^ 8 = toS l by omega]
theorem bytl_toS (l : List Int) (h : ∀ x ∈ l, 0 ≤ x ∧ x ≤ 255) (hl : l.length = 256) : bytl (toS l) = l := by
  apply List.ext_getElem?
  intro i
  by_cases hi : i < 256
  · have h1 := toS_digit l h i (by omega)
    have h2 := bytl_getD (toS l) i hi
    rw [List.getElem?_eq_getElem (by rw [bytl_length]; exact hi), List.getElem?_eq_getElem (by omega)]
    rw [List.getD_eq_getElem?_getD, List.getElem?_eq_getElem (by rw [bytl_length]; exact hi)] at h2
    rw [List.getD_eq_getElem?_getD, List.getElem?_eq_getElem (by omega)] at h1
    simp only [Option.getD_some] at h1 h2
    rw [h2, h1]
  · rw [List.getElem?_eq_none (by rw [bytl_length]; omega), List.getElem?_eq_none (by omega)]
theorem digit_bit (S i : Nat) : S.testBit i = (dg 8 S (i / 8) / 2 ^ (i % 8) % 2 == 1) := by
  have h : (dg 8 S (i / 8)).testBit (i % 8) = S.testBit i := by
    rw [dg_testBit, show 8 * (i / 8) + i % 8 = i by omega]
    simp; omega
  rw [← h, Nat.testBit_eq_decide_div_mod_eq]
  rfl

/-! the low bits of a set, one more each time -/
theorem low_bit (S p k : Nat) : (S % 2 ^ p).testBit k = (decide (k < p) && S.testBit k) := Nat.testBit_mod_two_pow ..
theorem low_all {S p : Nat} (h : S < 2 ^ p) : S % 2 ^ p = S := Nat.mod_eq_of_lt h
theorem low_step_not {S i : Nat} (h : S.testBit i = false) : S % 2 ^ (i + 1) = S % 2 ^ i := by
  apply Nat.eq_of_testBit_eq
  intro k
  rw [low_bit, low_bit]
  by_cases hk : k = i
  · subst hk; simp [h]
  · rw [show decide (k < i + 1) = decide (k < i) from decide_eq_decide.2 (by omega)]
theorem low_step {S i : Nat} (h : S.testBit i = true) : S % 2 ^ (i + 1) = 2 ^ i + S % 2 ^ i := by
  have h1 : S / 2 ^ i % 2 = 1 := by
    rw [Nat.testBit_eq_decide_div_mod_eq] at h
    simpa using h
  rw [Nat.pow_succ, Nat.mod_mul, h1]
  omega
theorem low_byte_same {S i : Nat} (h : S.testBit i = true) : dg 8 (S % 2 ^ (i + 1)) (i / 8) = dg 8 (S % 2 ^ i) (i / 8) + 2 ^ (i % 8) := by
  rw [low_step h]
  have hT : S % 2 ^ i < 2 ^ i := Nat.mod_lt _ (Nat.two_pow_pos i)
  generalize S % 2 ^ i = T at hT ⊢
  have e : 2 ^ i = 2 ^ (8 * (i / 8)) * 2 ^ (i % 8) := by rw [← Nat.pow_add]; congr 1; omega
  have hr : 2 ^ (i % 8) ≤ 128 := by
    have := Nat.pow_le_pow_right (n := 2) (by omega) (show i % 8 ≤ 7 by omega)
    simpa using this
  have hd : T / 2 ^ (8 * (i / 8)) < 2 ^ (i % 8) := by
    rw [Nat.div_lt_iff_lt_mul (Nat.two_pow_pos _), Nat.mul_comm, ← e]
    exact hT
  unfold dg
  rw [e, Nat.mul_add_div (Nat.two_pow_pos _), show (2 : Nat) ^ 8 = 256 from rfl]
  generalize T / 2 ^ (8 * (i / 8)) = d at hd ⊢
  generalize 2 ^ (i % 8) = c at hd hr ⊢
  omega
theorem low_byte_other {S i j : Nat} (hj : j ≠ i / 8) : dg 8 (S % 2 ^ (i + 1)) j = dg 8 (S % 2 ^ i) j := by
  refine dg_congr fun t ht => ?_
  rw [low_bit, low_bit]
  rw [show decide (8 * j + t < i + 1) = decide (8 * j + t < i) from decide_eq_decide.2 (by omega)]
theorem low8_same (S i : Nat) : dg 8 (S % 2 ^ (8 * (i + 1))) i = dg 8 S i := by
  refine dg_congr fun t ht => ?_
  rw [low_bit]
  simp; omega
theorem low8_other {S i j : Nat} (hj : j ≠ i) : dg 8 (S % 2 ^ (8 * (i + 1))) j = dg 8 (S % 2 ^ (8 * i)) j := by
  refine dg_congr fun t ht => ?_
  rw [low_bit, low_bit]
  rw [show decide (8 * j + t < 8 * (i + 1)) = decide (8 * j + t < 8 * i) from decide_eq_decide.2 (by omega)]
/-- a byte out of a word -/
theorem word_byte (S i : Nat) : dg 64 S (i / 8) / 2 ^ (8 * (i % 8)) % 256 = dg 8 S i := by
  apply Nat.eq_of_testBit_eq
  intro t
  rw [show (256 : Nat) = 2 ^ 8 from rfl, Nat.testBit_mod_two_pow, Nat.testBit_div_two_pow, dg_testBit, dg_testBit]
  by_cases ht : t < 8
  · have : t + 8 * (i % 8) < 64 := by omega
    rw [show 64 * (i / 8) + (t + 8 * (i % 8)) = 8 * i + t by omega]
    simp [ht, this]
  · simp [ht]
/-- above n nothing is in it -/
theorem small_of_bits {S n p : Nat} (hS : S < 2 ^ p) (h : ∀ j, n ≤ j → j < p → S.testBit j = false) : S < 2 ^ n := by
  refine Nat.lt_pow_two_of_testBit _ fun j hj => ?_
  by_cases hp : j < p
  · exact h j hj hp
  · exact Nat.testBit_lt_two_pow (Nat.lt_of_lt_of_le hS (Nat.pow_le_pow_right (by omega) (by omega)))
end Go.Proofs.YtaadbikaeofnoaaDoor
