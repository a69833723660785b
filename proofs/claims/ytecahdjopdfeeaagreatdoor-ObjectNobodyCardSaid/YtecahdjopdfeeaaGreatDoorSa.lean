/- SHA-256 by pieces: rotations, as both programs have them. -/
import Derived.Test.YtecahdjopdfeeaaGreatDoorProg
import Derived.WalkKit
import Derived.WalkSpells
import Derived.ProofKit
import Derived.Below
import Derived.Laws.BitsAllLaws
import Derived.Deep.RegionWith
import Derived.Lib.Hide
import Derived.Handy
namespace Go.Proofs.YtecahdjopdfeeaaGreatDoor
open Go.RowKit
/-- x rotated by k to the right, in 32 bits -/
def rot (x : Int) (k : Nat) : Int := x / 2 ^ k + x % 2 ^ k * 2 ^ (32 - k)
theorem and31 (n : Int) (h0 : 0 ≤ n) (h1 : n < 4294967296) : bits .and .u64 n 31 = n % 32 := by
  rw [u64_and n 31 h0 (by omega) (by omega) (by omega), show (31 : Int).toNat = 31 from rfl, nat_mask5]
  omega
theorem pow_split {k : Nat} (hk : k ≤ 32) : (4294967296 : Nat) = 2 ^ k * 2 ^ (32 - k) := by
  rw [← Nat.pow_add, show k + (32 - k) = 32 by omega]
theorem shl_mod (x : Nat) {k : Nat} (hk : k ≤ 32) : x * 2 ^ (32 - k) % 4294967296 = x % 2 ^ k * 2 ^ (32 - k) := by
  rw [pow_split hk, Nat.mul_mod_mul_right]
theorem div_lt (x : Nat) {k : Nat} (hk : k ≤ 32) (hx : x < 4294967296) : x / 2 ^ k < 2 ^ (32 - k) := by
  rw [Nat.div_lt_iff_lt_mul (Nat.two_pow_pos k), Nat.mul_comm, ← pow_split hk]
  exact hx
theorem rot_nat (x k : Nat) : rot (x : Int) k = ((x / 2 ^ k + x % 2 ^ k * 2 ^ (32 - k) : Nat) : Int) := by
  unfold rot
  rw [Int.natCast_add, Int.natCast_mul, Int.natCast_ediv, Int.natCast_emod, Int.natCast_pow, Int.natCast_pow]
  rfl
theorem rot_lt (x : Nat) {k : Nat} (hk : k ≤ 32) (hx : x < 4294967296) : x / 2 ^ k + x % 2 ^ k * 2 ^ (32 - k) < 4294967296 := by
  have h1 := div_lt x hk hx
  have h2 : x % 2 ^ k < 2 ^ k := Nat.mod_lt _ (Nat.two_pow_pos k)
  have h3 : (x % 2 ^ k + 1) * 2 ^ (32 - k) ≤ 2 ^ k * 2 ^ (32 - k) := Nat.mul_le_mul_right _ h2
  rw [← pow_split hk, Nat.add_mul] at h3
  omega
theorem rot_or (x : Nat) {k : Nat} (hk : k ≤ 32) (hx : x < 4294967296) : bits .or .u32 ((x : Int) / 2 ^ k) ((x : Int) * 2 ^ (32 - k) % 4294967296) = rot (x : Int) k := by
  have h1 := div_lt x hk hx
  have e1 : (x : Int) / 2 ^ k = ((x / 2 ^ k : Nat) : Int) := by rw [Int.natCast_ediv, Int.natCast_pow]; rfl
  have e2 : (x : Int) * 2 ^ (32 - k) % 4294967296 = ((x % 2 ^ k * 2 ^ (32 - k) : Nat) : Int) := by rw [← shl_mod x hk, Int.natCast_emod, Int.natCast_mul, Int.natCast_pow]; rfl
  have hl := rot_lt x hk hx
  rw [e1, e2, u32_or_nat _ _ (by omega) (by omega), rot_nat, Nat.or_comm, nat_join (32 - k) _ _ (Nat.mul_mod_left _ _) h1, Nat.add_comm]
theorem rot_add (x : Nat) {k : Nat} (hk : k ≤ 32) (hx : x < 4294967296) : ((x : Int) / 2 ^ k + (x : Int) * 2 ^ (32 - k) % 4294967296) % 4294967296 = rot (x : Int) k := by
  have hl := rot_lt x hk hx
  have e1 : (x : Int) / 2 ^ k = ((x / 2 ^ k : Nat) : Int) := by rw [Int.natCast_ediv, Int.natCast_pow]; rfl
  have e2 : (x : Int) * 2 ^ (32 - k) % 4294967296 = ((x % 2 ^ k * 2 ^ (32 - k) : Nat) : Int) := by rw [← shl_mod x hk, Int.natCast_emod, Int.natCast_mul, Int.natCast_pow]; rfl
  have key : ∀ a b : Nat, a + b < 4294967296 → ((a : Int) + (b : Int)) % 4294967296 = ((a + b : Nat) : Int) := fun a b h => by omega
  rw [e1, e2, rot_nat]
  exact key _ _ hl
theorem neg31 (n : Int) (h0 : 1 ≤ n) (h1 : n ≤ 31) : bits .and .u64 (IntKind.u64.wrap (-n)) 31 = 32 - n := by
  have e : IntKind.u64.wrap (-n) = 18446744073709551616 - n := by rw [IntKind.wrap_u64]; omega
  rw [e, u64_and _ 31 (by omega) (by omega) (by omega) (by omega), show (31 : Int).toNat = 31 from rfl, nat_mask5]
  omega
theorem pos31 (n : Int) (h0 : 1 ≤ n) (h1 : n ≤ 31) : bits .and .u64 n 31 = n := by
  rw [and31 n (by omega) (by omega)]; omega
set_option maxHeartbeats 1000000 in
theorem rotate_any (x : Int) (n : Int) (w : World) (hx0 : 0 ≤ x) (hx1 : x < 4294967296) (hn0 : 1 ≤ n) (hn1 : n ≤ 31) :
    Calls Tryz.prog 155 #[.int .u32 x, .int .i64 n] w fun e w' => e = .returned (.int .u32 (rot x n.toNat)) ∧ w = w' := by
  obtain ⟨y, rfl⟩ := Int.eq_ofNat_of_zero_le hx0
  obtain ⟨k, rfl⟩ := Int.eq_ofNat_of_zero_le (show 0 ≤ n by omega)
  have hr := Lib.hid (rot_or y (k := k) (by omega) (by omega))
  have p1 := pos31 (k : Int) hn0 hn1
  have p2 := neg31 (k : Int) hn0 hn1
  go_enter Tryz.func155, Tryz.ntmps155
  go_wp2
  go_ret
  refine ⟨?_, rfl⟩
  rw [Int.toNat_natCast, ← hr.out]
  rfl
set_option maxHeartbeats 1000000 in
theorem rrotate_any (x : Int) (n : Int) (w : World) (hx0 : 0 ≤ x) (hx1 : x < 4294967296) (hn0 : 1 ≤ n) (hn1 : n ≤ 31) :
    Calls Tryz.prog 118 #[.int .u32 x, .int .i64 n] w fun e w' => e = .returned (.int .u32 (rot x n.toNat)) ∧ w = w' := by
  obtain ⟨y, rfl⟩ := Int.eq_ofNat_of_zero_le hx0
  obtain ⟨k, rfl⟩ := Int.eq_ofNat_of_zero_le (show 0 ≤ n by omega)
  have hr := Lib.hid (rot_add y (k := k) (by omega) (by omega))
  have hm : (k : Int) % 32 = k := by omega
  have hq : (((k : Int) + 32) % 32 == 0) = false := by rw [beq_eq_false_iff_ne]; omega
  have hq2 : ((k : Int) == 0) = false := by rw [beq_eq_false_iff_ne]; omega
  go_enter Tryz.func118, Tryz.ntmps118
  go_wp2
  go_ret
  refine ⟨?_, rfl⟩
  rw [Int.toNat_natCast, ← hr.out]
  rfl
/-! three rotations; two -/
theorem rot_bounds (x : Int) {k : Nat} (hk : k ≤ 32) (h0 : 0 ≤ x) (h1 : x < 4294967296) : 0 ≤ rot x k ∧ rot x k < 4294967296 := by
  obtain ⟨y, rfl⟩ := Int.eq_ofNat_of_zero_le h0
  have := rot_lt y hk (by omega)
  rw [rot_nat]
  exact ⟨Int.natCast_nonneg _, Int.ofNat_lt.2 this⟩
/-- exclusive or of 32 bits -/
def bx (a b : Int) : Int := ((a.toNat ^^^ b.toNat : Nat) : Int)
theorem bx_bounds (a b : Int) (ha : a < 4294967296) (hb : b < 4294967296) : 0 ≤ bx a b ∧ bx a b < 4294967296 := by
  have : a.toNat ^^^ b.toNat < 2 ^ 32 := Nat.xor_lt_two_pow (by omega) (by omega)
  unfold bx
  omega
theorem bx_walk (a b : Int) (h1 : 0 ≤ a) (h2 : a < 4294967296) (h3 : 0 ≤ b) (h4 : b < 4294967296) : bits .xor .u32 a b = bx a b := u32_xor a b h1 h2 h3 h4
def tri (x : Int) (a b c : Nat) : Int := bx (bx (rot x a) (rot x b)) (rot x c)
set_option maxHeartbeats 1000000 in
theorem three_any (x a b c : Int) (w : World) (hx0 : 0 ≤ x) (hx1 : x < 4294967296) (ha0 : 1 ≤ a) (ha1 : a ≤ 31) (hb0 : 1 ≤ b) (hb1 : b ≤ 31) (hc0 : 1 ≤ c) (hc1 : c ≤ 31) :
    Calls Tryz.prog 129 #[.int .u32 x, .int .i64 a, .int .i64 b, .int .i64 c] w fun e w' => e = .returned (.int .u32 (tri x a.toNat b.toNat c.toNat)) ∧ w = w' := by
  have b1 := rot_bounds x (k := a.toNat) (by omega) hx0 hx1
  have b2 := rot_bounds x (k := b.toNat) (by omega) hx0 hx1
  have b3 := rot_bounds x (k := c.toNat) (by omega) hx0 hx1
  have b4 := bx_bounds (rot x a.toNat) (rot x b.toNat) b1.2 b2.2
  have q1 := bx_walk (rot x a.toNat) (rot x b.toNat) b1.1 b1.2 b2.1 b2.2
  have q2 := bx_walk (bx (rot x a.toNat) (rot x b.toNat)) (rot x c.toNat) b4.1 b4.2 b3.1 b3.2
  clear b1 b2 b3 b4
  unfold tri
  go_enter Tryz.func129, Tryz.ntmps129
  go_wp2_with fail
  refine (rotate_any x a _ hx0 hx1 ha0 ha1).mono ?_
  rintro e w' ⟨rfl, rfl⟩
  go_wp2_with fail
  refine (rotate_any x b _ hx0 hx1 hb0 hb1).mono ?_
  rintro e w' ⟨rfl, rfl⟩
  go_wp2_with fail
  refine (rotate_any x c _ hx0 hx1 hc0 hc1).mono ?_
  rintro e w' ⟨rfl, rfl⟩
  go_wp2
  go_ret
  exact ⟨rfl, rfl⟩
set_option maxHeartbeats 1000000 in
theorem rot2_any (x a b : Int) (w : World) (hx0 : 0 ≤ x) (hx1 : x < 4294967296) (ha0 : 1 ≤ a) (ha1 : a ≤ 31) (hb0 : 1 ≤ b) (hb1 : b ≤ 31) :
    Calls Tryz.prog 117 #[.int .u32 x, .int .i64 a, .int .i64 b] w fun e w' => e = .returned (.int .u32 (bx (rot x a.toNat) (rot x b.toNat))) ∧ w = w' := by
  have b1 := rot_bounds x (k := a.toNat) (by omega) hx0 hx1
  have b2 := rot_bounds x (k := b.toNat) (by omega) hx0 hx1
  have q1 := bx_walk (rot x a.toNat) (rot x b.toNat) b1.1 b1.2 b2.1 b2.2
  clear b1 b2
  go_enter Tryz.func117, Tryz.ntmps117
  go_wp2_with fail
  refine (rrotate_any x a _ hx0 hx1 ha0 ha1).mono ?_
  rintro e w' ⟨rfl, rfl⟩
  go_wp2_with fail
  refine (rrotate_any x b _ hx0 hx1 hb0 hb1).mono ?_
  rintro e w' ⟨rfl, rfl⟩
  go_wp2
  go_ret
  exact ⟨rfl, rfl⟩
end Go.Proofs.YtecahdjopdfeeaaGreatDoor
