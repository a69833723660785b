/- Plain facts on sets of numbers kept as bits: a set is a number S (k is in it where bit k of S is set); its words of 64 bits, its bytes, and what changes when one bit or one byte is laid in. No program stands here. -/
import GoSem.Core.Sem
import Derived.WalkKit
namespace Go.Proofs.YtaadbikaeofnoaaDoor

/-- digit k of S, the digits of m bits -/
def dg (m S k : Nat) : Nat := S / 2 ^ (m * k) % 2 ^ m
theorem dg_testBit (m S k t : Nat) : (dg m S k).testBit t = (decide (t < m) && S.testBit (m * k + t)) := by
  unfold dg
  rw [Nat.testBit_mod_two_pow, Nat.testBit_div_two_pow, Nat.add_comm]
theorem dg_lt (m S k : Nat) : dg m S k < 2 ^ m := Nat.mod_lt _ (Nat.two_pow_pos m)
theorem dg_zero (m k : Nat) : dg m 0 k = 0 := by simp [dg]
theorem dg_congr {m S T k l : Nat} (h : ∀ t, t < m → S.testBit (m * k + t) = T.testBit (m * l + t)) : dg m S k = dg m T l := by
  apply Nat.eq_of_testBit_eq
  intro t
  rw [dg_testBit, dg_testBit]
  by_cases ht : t < m
  · rw [h t ht]
  · simp [ht]

/-- the cells of a set: how many may be in it, then its 32 words -/
def wd (S k : Nat) : Int := (dg 64 S k : Int)
def setc (n : Int) (S : Nat) : Array Value := (Value.int .i64 n :: (List.range 32).map fun k => .int .u64 (wd S k)).toArray
theorem wd_zero (k : Nat) : wd 0 k = 0 := by simp [wd, dg_zero]
theorem wd_nonneg (S k : Nat) : 0 ≤ wd S k := by unfold wd; omega
theorem wd_lt (S k : Nat) : wd S k < 18446744073709551616 := by have := dg_lt 64 S k; unfold wd; omega
theorem setc_zero (n : Int) : setc n 0 = #[.int .i64 n, .int .u64 0, .int .u64 0, .int .u64 0, .int .u64 0, .int .u64 0, .int .u64 0, .int .u64 0, .int .u64 0, .int .u64 0, .int .u64 0, .int .u64 0, .int .u64 0, .int .u64 0, .int .u64 0, .int .u64 0, .int .u64 0, .int .u64 0, .int .u64 0, .int .u64 0, .int .u64 0, .int .u64 0, .int .u64 0, .int .u64 0, .int .u64 0, .int .u64 0, .int .u64 0, .int .u64 0, .int .u64 0, .int .u64 0, .int .u64 0, .int .u64 0, .int .u64 0] := by
  simp [setc, wd_zero, List.range, List.range.loop]
theorem setc_size (n : Int) (S : Nat) : (setc n S).size = 33 := by simp [setc]
theorem setc_head (n : Int) (S : Nat) : (setc n S)[0]? = some (.int .i64 n) := by simp [setc]
theorem setc_word (n : Int) (S : Nat) {k : Nat} (hk : k < 32) : (setc n S)[1 + k]? = some (.int .u64 (wd S k)) := by
  simp [setc, Nat.add_comm 1 k, hk]
theorem setc_upd {n : Int} {S S' : Nat} {k : Nat} {v : Int} (hk : k < 32) (hv : v = wd S' k) (ho : ∀ j, j < 32 → j ≠ k → wd S' j = wd S j) :
    (setc n S).setIfInBounds (1 + k) (.int .u64 v) = setc n S' := by
  apply Array.ext_getElem?
  intro i
  rw [Array.getElem?_setIfInBounds]
  by_cases h : 1 + k = i
  · subst h
    rw [if_pos rfl, if_pos (by rw [setc_size]; omega), setc_word n S' hk, hv]
  · rw [if_neg h]
    by_cases h0 : i = 0
    · subst h0; rw [setc_head, setc_head]
    · obtain ⟨j, rfl⟩ : ∃ j, i = 1 + j := ⟨i - 1, by omega⟩
      by_cases hj : j < 32
      · rw [setc_word n S hj, setc_word n S' hj, ho j hj (by omega)]
      · rw [Array.getElem?_eq_none (by rw [setc_size]; omega), Array.getElem?_eq_none (by rw [setc_size]; omega)]

/-- bit i of the words -/
theorem wd_bit (S : Nat) (i : Int) (h0 : 0 ≤ i) : (bits BinOp.and IntKind.u64 (wd S (i / 64).toNat / 2 ^ (i % 64).toNat) 1 == 1) = S.testBit i.toNat := by
  obtain ⟨i, rfl⟩ := Int.eq_ofNat_of_zero_le h0
  have e1 : ((i : Int) / 64).toNat = i / 64 := by omega
  have e2 : ((i : Int) % 64).toNat = i % 64 := by omega
  rw [e1, e2]
  have hd : wd S (i / 64) / 2 ^ (i % 64) = ((dg 64 S (i / 64) / 2 ^ (i % 64) : Nat) : Int) := by
    unfold wd; norm_cast
  have hlt : dg 64 S (i / 64) / 2 ^ (i % 64) < 18446744073709551616 := Nat.lt_of_le_of_lt (Nat.div_le_self _ _) (dg_lt 64 S _)
  rw [hd, show (1 : Int) = ((1 : Nat) : Int) from rfl, u64_and_nat _ _ hlt (by omega), Nat.and_one_is_mod]
  have ht : (dg 64 S (i / 64)).testBit (i % 64) = S.testBit i := by
    rw [dg_testBit, show 64 * (i / 64) + i % 64 = i by omega]
    simp; omega
  rw [Int.toNat_natCast, ← ht, Nat.testBit_eq_decide_div_mod_eq]
  generalize dg 64 S (i / 64) / 2 ^ (i % 64) = a
  have : a % 2 = 0 ∨ a % 2 = 1 := by omega
  rcases this with h | h <;> rw [h] <;> rfl

/-! one bit is laid in, or taken out -/
theorem or_bit (S i k : Nat) : (S ||| 2 ^ i).testBit k = (S.testBit k || decide (i = k)) := by
  rw [Nat.testBit_or, Nat.testBit_two_pow]
theorem xor_bit (S i k : Nat) : (S ^^^ 2 ^ i).testBit k = (S.testBit k ^^ decide (i = k)) := by
  rw [Nat.testBit_xor, Nat.testBit_two_pow]
theorem wd_or_same (S i : Nat) : wd (S ||| 2 ^ i) (i / 64) = ((dg 64 S (i / 64) ||| 2 ^ (i % 64) : Nat) : Int) := by
  unfold wd
  congr 1
  apply Nat.eq_of_testBit_eq
  intro t
  rw [dg_testBit, or_bit, Nat.testBit_or, dg_testBit, Nat.testBit_two_pow]
  by_cases ht : t < 64
  · rw [show decide (i = 64 * (i / 64) + t) = decide (i % 64 = t) from decide_eq_decide.2 (by omega)]
    simp [ht]
  · have : ¬ i % 64 = t := by omega
    simp [ht, this]
theorem wd_or_other (S i j : Nat) (h : j ≠ i / 64) : wd (S ||| 2 ^ i) j = wd S j := by
  unfold wd
  congr 1
  refine dg_congr fun t ht => ?_
  rw [or_bit]
  have : ¬ i = 64 * j + t := by omega
  simp [this]
theorem wd_xor_same (S i : Nat) (h : S.testBit i = true) : wd (S ^^^ 2 ^ i) (i / 64) = ((dg 64 S (i / 64) &&& (18446744073709551615 - 2 ^ (i % 64)) : Nat) : Int) := by
  unfold wd
  congr 1
  apply Nat.eq_of_testBit_eq
  intro t
  have hp : 2 ^ (i % 64) < 2 ^ 64 := Nat.pow_lt_pow_right (by omega) (by omega)
  rw [dg_testBit, xor_bit, Nat.testBit_and, dg_testBit, show 18446744073709551615 - 2 ^ (i % 64) = 2 ^ 64 - (2 ^ (i % 64) + 1) by omega, Nat.testBit_two_pow_sub_succ hp, Nat.testBit_two_pow]
  by_cases ht : t < 64
  · rw [show decide (i = 64 * (i / 64) + t) = decide (i % 64 = t) from decide_eq_decide.2 (by omega)]
    by_cases hit : i % 64 = t
    · have : 64 * (i / 64) + t = i := by omega
      simp [ht, hit, this, h]
    · simp [ht, hit]
  · simp [ht]
theorem wd_xor_other (S i j : Nat) (h : j ≠ i / 64) : wd (S ^^^ 2 ^ i) j = wd S j := by
  unfold wd
  congr 1
  refine dg_congr fun t ht => ?_
  rw [xor_bit]
  have : ¬ i = 64 * j + t := by omega
  simp [this]

/-! a byte is laid in above all that is there -/
/-- the number whose bytes, the lowest first, are those of a list -/
def toS : List Int → Nat
  | [] => 0
  | x :: l => x.toNat + 256 * toS l
theorem toS_snoc (l : List Int) (x : Int) : toS (l ++ [x]) = 2 ^ (8 * l.length) * x.toNat + toS l := by
  induction l with
  | nil => simp [toS]
  | cons y l ih =>
    simp only [List.cons_append, toS, ih, List.length_cons]
    rw [show 8 * (l.length + 1) = 8 * l.length + 8 by omega, Nat.pow_add, show (2 : Nat) ^ 8 = 256 from rfl]
    simp only [Nat.mul_add, ← Nat.mul_assoc]
    rw [Nat.mul_comm 256 (2 ^ (8 * l.length))]
    omega
theorem toS_lt (l : List Int) (h : ∀ x ∈ l, 0 ≤ x ∧ x ≤ 255) : toS l < 2 ^ (8 * l.length) := by
  induction l with
  | nil => simp [toS]
  | cons y l ih =>
    have h1 := ih fun x hx => h x (List.mem_cons_of_mem _ hx)
    have h2 := h y List.mem_cons_self
    simp only [toS, List.length_cons]
    rw [show 8 * (l.length + 1) = 8 * l.length + 8 by omega, Nat.pow_add]
    omega
theorem lay_bit {T k x : Nat} (hT : T < 2 ^ (8 * k)) (j : Nat) : (2 ^ (8 * k) * x + T).testBit j = if j < 8 * k then T.testBit j else x.testBit (j - 8 * k) := Nat.testBit_two_pow_mul_add x hT j
theorem hi_bit {T p j : Nat} (hT : T < 2 ^ p) (hj : p ≤ j) : T.testBit j = false := Nat.testBit_lt_two_pow (Nat.lt_of_lt_of_le hT (Nat.pow_le_pow_right (by omega) hj))
theorem wd_lay_same {T k x : Nat} (hT : T < 2 ^ (8 * k)) (hx : x < 256) : wd (2 ^ (8 * k) * x + T) (k / 8) = ((dg 64 T (k / 8) ||| x * 2 ^ (8 * (k % 8)) : Nat) : Int) := by
  unfold wd
  congr 1
  apply Nat.eq_of_testBit_eq
  intro t
  rw [dg_testBit, lay_bit hT, Nat.testBit_or, dg_testBit, Nat.testBit_mul_two_pow]
  by_cases ht : t < 64
  · by_cases h1 : 64 * (k / 8) + t < 8 * k
    · have h2 : ¬ 8 * (k % 8) ≤ t := by omega
      simp [ht, h1, h2]
    · have h2 : 8 * (k % 8) ≤ t := by omega
      rw [hi_bit hT (by omega), show 64 * (k / 8) + t - 8 * k = t - 8 * (k % 8) by omega]
      simp [ht, h1, h2]
  · have h8 : x.testBit (t - 8 * (k % 8)) = false := hi_bit (p := 8) (by omega) (by omega)
    simp [ht, h8]
theorem wd_lay_other {T k x j : Nat} (hT : T < 2 ^ (8 * k)) (hx : x < 256) (h : j ≠ k / 8) : wd (2 ^ (8 * k) * x + T) j = wd T j := by
  unfold wd
  congr 1
  refine dg_congr fun t ht => ?_
  rw [lay_bit hT]
  by_cases h1 : 64 * j + t < 8 * k
  · simp [h1]
  · rw [if_neg h1, hi_bit (p := 8) (by omega) (by omega), hi_bit hT (by omega)]
end Go.Proofs.YtaadbikaeofnoaaDoor
