/- The two spellings of the majority and of the choice. -/
import Derived.Test.YtecahdjopdfeeaaGreatDoorSd
namespace Go.Proofs.YtecahdjopdfeeaaGreatDoor
open Go.RowKit
theorem maj_nat (a b c : Nat) : (a &&& b) ||| (c &&& (a ||| b)) = ((a &&& b) ^^^ (a &&& c)) ^^^ (b &&& c) := by
  apply Nat.eq_of_testBit_eq
  intro i
  simp only [Nat.testBit_or, Nat.testBit_and, Nat.testBit_xor]
  cases a.testBit i <;> cases b.testBit i <;> cases c.testBit i <;> rfl
theorem maj_ref (a b c : Int) (a0 : 0 ≤ a) (a1 : a < 4294967296) (b0 : 0 ≤ b) (b1 : b < 4294967296) (c0 : 0 ≤ c) (c1 : c < 4294967296) :
    bits .xor .u32 (bits .xor .u32 (bits .and .u32 a b) (bits .and .u32 a c)) (bits .and .u32 b c) = majv a b c := by
  obtain ⟨A, rfl⟩ := Int.eq_ofNat_of_zero_le a0
  obtain ⟨B, rfl⟩ := Int.eq_ofNat_of_zero_le b0
  obtain ⟨C, rfl⟩ := Int.eq_ofNat_of_zero_le c0
  have hA : A < 2 ^ 32 := by omega
  have hB : B < 2 ^ 32 := by omega
  have hC : C < 2 ^ 32 := by omega
  have h1 : A &&& B < 2 ^ 32 := Nat.and_lt_two_pow _ hB
  have h2 : A &&& C < 2 ^ 32 := Nat.and_lt_two_pow _ hC
  have h3 : B &&& C < 2 ^ 32 := Nat.and_lt_two_pow _ hC
  have h4 : (A &&& B) ^^^ (A &&& C) < 2 ^ 32 := Nat.xor_lt_two_pow h1 h2
  have h5 : A ||| B < 2 ^ 32 := Nat.or_lt_two_pow hA hB
  have h6 : C &&& (A ||| B) < 2 ^ 32 := Nat.and_lt_two_pow _ h5
  unfold majv
  rw [u32_and_nat A B hA hB, u32_and_nat A C hA hC, u32_and_nat B C hB hC, u32_xor_nat _ _ h1 h2, u32_xor_nat _ _ h4 h3, u32_or_nat A B hA hB, u32_and_nat C _ hC h5, u32_or_nat _ _ h1 h6, maj_nat]
theorem ch_ref (e g : Int) (e0 : 0 ≤ e) (e1 : e < 4294967296) (g0 : 0 ≤ g) (g1 : g < 4294967296) : bits .and .u32 (4294967295 - e) g = bits .andNot .u32 g e := by
  rw [u32_and (4294967295 - e) g (by omega) (by omega) g0 g1, u32_andNot g e g0 g1 e0 e1, Nat.and_comm, show (4294967295 - e).toNat = 4294967295 - e.toNat by omega]
theorem not_nat (e : Nat) (h : e < 2 ^ 32) : (2 ^ 32 - 1) ^^^ e = 2 ^ 32 - (e + 1) := by
  apply Nat.eq_of_testBit_eq
  intro i
  rw [Nat.testBit_xor, Nat.testBit_two_pow_sub_one, Nat.testBit_two_pow_sub_succ h]
  by_cases hi : i < 32
  · simp [hi]
  · have : e.testBit i = false := Nat.testBit_lt_two_pow (Nat.lt_of_lt_of_le h (Nat.pow_le_pow_right (by decide) (by omega)))
    simp [hi, this]
theorem not_ref (e : Int) (e0 : 0 ≤ e) (e1 : e < 4294967296) : bits .xor .u32 IntKind.u32.max e = 4294967295 - e := by
  rw [show IntKind.u32.max = 4294967295 from rfl, u32_xor 4294967295 e (by omega) (by omega) e0 e1, show (4294967295 : Int).toNat = 2 ^ 32 - 1 from rfl, not_nat _ (by omega)]
  omega
/-- the first sum of a round, as the reference has it -/
theorem tsum_ref (K W x : Nat → Int) (i : Nat) (hx : ∀ j, 0 ≤ x j ∧ x j < 4294967296) :
    (x 7 + bits .xor .u32 (bx (rot (x 4) 6) (rot (x 4) 11)) (rot (x 4) 25) + bits .xor .u32 (bits .and .u32 (x 4) (x 5)) (bits .and .u32 (bits .xor .u32 IntKind.u32.max (x 4)) (x 6)) + K i + W i) % 4294967296 = tsum K W i x := by
  obtain ⟨e0, e1⟩ := hx 4
  have b1 := rot_bounds (x 4) (k := 6) (by omega) e0 e1
  have b2 := rot_bounds (x 4) (k := 11) (by omega) e0 e1
  have b3 := rot_bounds (x 4) (k := 25) (by omega) e0 e1
  have b4 := bx_bounds (rot (x 4) 6) (rot (x 4) 11) b1.2 b2.2
  rw [not_ref _ e0 e1, ch_ref _ _ e0 e1 (hx 6).1 (hx 6).2, bx_walk _ _ b4.1 b4.2 b3.1 b3.2]
  rfl
theorem usum_ref (x : Nat → Int) (hx : ∀ j, 0 ≤ x j ∧ x j < 4294967296) :
    (bits .xor .u32 (bx (rot (x 0) 2) (rot (x 0) 13)) (rot (x 0) 22) + bits .xor .u32 (bits .xor .u32 (bits .and .u32 (x 0) (x 1)) (bits .and .u32 (x 0) (x 2))) (bits .and .u32 (x 1) (x 2))) % 4294967296 = usum x := by
  obtain ⟨e0, e1⟩ := hx 0
  have b1 := rot_bounds (x 0) (k := 2) (by omega) e0 e1
  have b2 := rot_bounds (x 0) (k := 13) (by omega) e0 e1
  have b3 := rot_bounds (x 0) (k := 22) (by omega) e0 e1
  have b4 := bx_bounds (rot (x 0) 2) (rot (x 0) 13) b1.2 b2.2
  rw [maj_ref _ _ _ e0 e1 (hx 1).1 (hx 1).2 (hx 2).1 (hx 2).2, bx_walk _ _ b4.1 b4.2 b3.1 b3.2]
  rfl
end Go.Proofs.YtecahdjopdfeeaaGreatDoor
