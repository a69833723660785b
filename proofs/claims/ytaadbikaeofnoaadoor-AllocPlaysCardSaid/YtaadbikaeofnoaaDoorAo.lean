/- The walk of math/bits.OnesCount64: it tells how many of the 64 bits are set. -/
import Derived.Test.YtaadbikaeofnoaaDoorAw
import Derived.Test.YtaadbikaeofnoaaDoorAc
namespace Go.Proofs.YtaadbikaeofnoaaDoor
open Go.RowKit

def s1 (x : Int) : Int := IntKind.u64.wrap (bits BinOp.and IntKind.u64 (x / 2) 6148914691236517205 + bits BinOp.and IntKind.u64 x 6148914691236517205)
def s2 (x : Int) : Int := IntKind.u64.wrap (bits BinOp.and IntKind.u64 (x / 4) 3689348814741910323 + bits BinOp.and IntKind.u64 x 3689348814741910323)
def s3 (x : Int) : Int := bits BinOp.and IntKind.u64 (IntKind.u64.wrap (x / 16 + x)) 1085102592571150095
def s4 (x : Int) : Int := IntKind.u64.wrap (x + x / 256)
def s5 (x : Int) : Int := IntKind.u64.wrap (x + x / 65536)
def s6 (x : Int) : Int := IntKind.u64.wrap (x + x / 4294967296)
def s7 (x : Int) : Int := bits BinOp.and IntKind.i64 (wrap64 x) 127
theorem wrap_nat {a : Nat} (h : a < 18446744073709551616) : IntKind.u64.wrap (a : Int) = a := wrap_u64 _ (by omega) (by omega)
theorem s1_nat {x r : Nat} (hx : x < 18446744073709551616) (hr : r < 18446744073709551616) (h : (x / 2 &&& m1) + (x &&& m1) = r) : s1 x = r := by
  unfold s1
  rw [show (x : Int) / 2 = ((x / 2 : Nat) : Int) by omega, show (6148914691236517205 : Int) = ((m1 : Nat) : Int) from rfl, u64_and_nat _ _ (by omega) (by decide +kernel), u64_and_nat _ _ hx (by decide +kernel), ← Int.natCast_add, h]
  exact wrap_nat hr
theorem s2_nat {x r : Nat} (hx : x < 18446744073709551616) (hr : r < 18446744073709551616) (h : (x / 4 &&& m2) + (x &&& m2) = r) : s2 x = r := by
  unfold s2
  rw [show (x : Int) / 4 = ((x / 4 : Nat) : Int) by omega, show (3689348814741910323 : Int) = ((m2 : Nat) : Int) from rfl, u64_and_nat _ _ (by omega) (by decide +kernel), u64_and_nat _ _ hx (by decide +kernel), ← Int.natCast_add, h]
  exact wrap_nat hr
theorem s3_nat {x r : Nat} (hx : x / 16 + x < 18446744073709551616) (h : (x / 16 + x) &&& m3 = r) : s3 x = r := by
  unfold s3
  rw [show (x : Int) / 16 + (x : Int) = ((x / 16 + x : Nat) : Int) by omega, wrap_nat hx, show (1085102592571150095 : Int) = ((m3 : Nat) : Int) from rfl, u64_and_nat _ _ hx (by decide +kernel), h]
theorem s4_nat {x r : Nat} (hr : r < 18446744073709551616) (h : x + x / 256 = r) : s4 x = r := by
  unfold s4
  rw [show (x : Int) + (x : Int) / 256 = ((r : Nat) : Int) by omega]
  exact wrap_nat hr
theorem s5_nat {x r : Nat} (hr : r < 18446744073709551616) (h : x + x / 65536 = r) : s5 x = r := by
  unfold s5
  rw [show (x : Int) + (x : Int) / 65536 = ((r : Nat) : Int) by omega]
  exact wrap_nat hr
theorem s6_nat {x r : Nat} (hr : r < 18446744073709551616) (h : x + x / 4294967296 = r) : s6 x = r := by
  unfold s6
  rw [show (x : Int) + (x : Int) / 4294967296 = ((r : Nat) : Int) by omega]
  exact wrap_nat hr
theorem wraps_i64 (n : Int) (h₀ : 0 ≤ n) (h₁ : n < 2 ^ 63) : IntKind.i64.wrap n = n := by
  rw [IntKind.wrap_i64]
  rw [show (2 : Int) ^ 63 = 9223372036854775808 by rfl] at h₁
  omega
theorem s7_nat {x r : Nat} (hx : x < 9223372036854775808) (h : x % 128 = r) : s7 x = r := by
  unfold s7
  rw [show wrap64 (x : Int) = (x : Int) by unfold wrap64; omega]
  have := bits_mask .i64 63 (by decide) wraps_i64 7 (by decide) (x : Int) (by omega) (by rw [show (2 : Int) ^ 63 = 9223372036854775808 by rfl]; omega)
  rw [show ((2 : Int) ^ 7 - 1) = 127 by rfl, show ((2 : Int) ^ 7) = 128 by rfl] at this
  rw [this]
  omega
theorem ones_val {x : Nat} (hx : x < 18446744073709551616) : s7 (s6 (s5 (s4 (s3 (s2 (s1 x)))))) = cnt x 64 := by
  have hb := bys_lt x
  have hJ := bys_J (x := x) (by simpa using hx)
  have hl : (bys x).length = 8 := by simp [bys]
  have q1 := step1 (bys x) hl hb
  have hb1 : ∀ a ∈ (bys x).map c1, a < 256 := fun a ha => by
    obtain ⟨b, hb', rfl⟩ := List.mem_map.1 ha
    exact (c_all b (hb b hb')).1
  have q2 := step2 ((bys x).map c1) (by simp [hl]) hb1
  have hb2 : ∀ a ∈ ((bys x).map c1).map c2, a ≤ 68 ∧ a % 16 ≤ 4 := fun a ha => by
    obtain ⟨b, hb', rfl⟩ := List.mem_map.1 ha
    obtain ⟨c, hc', rfl⟩ := List.mem_map.1 hb'
    exact ⟨(c_all c (hb c hc')).2.1, (c_all c (hb c hc')).2.2.1⟩
  have q3 := step3 (((bys x).map c1).map c2) hb2
  have hc : (((bys x).map c1).map c2).map c3 = (bys x).map fun a => cnt a 8 := by
    rw [List.map_map, List.map_map]
    exact List.map_congr_left fun a ha => (c_all a (hb a ha)).2.2.2
  have hlen : (((bys x).map c1).map c2).length = 8 := by simp [hl]
  rw [hlen, ← m3_J, hc] at q3
  rw [hJ] at q1
  have l1 : J ((bys x).map c1) < 256 ^ 8 := by have := J_lt _ hb1; rwa [List.length_map, hl] at this
  have l2 : J (((bys x).map c1).map c2) < 256 ^ 8 := by
    have := J_lt (((bys x).map c1).map c2) (fun a ha => by have := (hb2 a ha).1; omega)
    rwa [hlen] at this
  have l2' : J (((bys x).map c1).map c2) ≤ J (List.replicate 8 68) := by
    have : ∀ l : List Nat, (∀ a ∈ l, a ≤ 68) → J l ≤ J (List.replicate l.length 68) := fun l => by
      induction l with
      | nil => intro _; simp [J]
      | cons a l ih =>
        intro h
        have := ih fun x hx => h x (List.mem_cons_of_mem _ hx)
        have := h a List.mem_cons_self
        simp only [List.length_cons, List.replicate_succ, J]
        omega
    have := this _ fun a ha => (hb2 a ha).1
    rwa [hlen] at this
  have l2'' : J (List.replicate 8 68) = 4919131752989213764 := by decide +kernel
  rw [l2''] at l2'
  rw [show (256 : Nat) ^ 8 = 18446744073709551616 from rfl] at l1 l2
  rw [s1_nat hx l1 q1, s2_nat l1 l2 q2, s3_nat (by omega) q3]
  have hL : (bys x).map (fun a => cnt a 8) = [cnt (dg 8 x 0) 8, cnt (dg 8 x 1) 8, cnt (dg 8 x 2) 8, cnt (dg 8 x 3) 8, cnt (dg 8 x 4) 8, cnt (dg 8 x 5) 8, cnt (dg 8 x 6) 8, cnt (dg 8 x 7) 8] := by simp [bys, List.range, List.range.loop]
  rw [hL, cnt_bytes x]
  generalize ep0 : cnt (dg 8 x 0) 8 = p0
  generalize ep1 : cnt (dg 8 x 1) 8 = p1
  generalize ep2 : cnt (dg 8 x 2) 8 = p2
  generalize ep3 : cnt (dg 8 x 3) 8 = p3
  generalize ep4 : cnt (dg 8 x 4) 8 = p4
  generalize ep5 : cnt (dg 8 x 5) 8 = p5
  generalize ep6 : cnt (dg 8 x 6) 8 = p6
  generalize ep7 : cnt (dg 8 x 7) 8 = p7
  have h0 : p0 ≤ 8 := ep0 ▸ cnt_le _ _
  have h1 : p1 ≤ 8 := ep1 ▸ cnt_le _ _
  have h2 : p2 ≤ 8 := ep2 ▸ cnt_le _ _
  have h3 : p3 ≤ 8 := ep3 ▸ cnt_le _ _
  have h4 : p4 ≤ 8 := ep4 ▸ cnt_le _ _
  have h5 : p5 ≤ 8 := ep5 ▸ cnt_le _ _
  have h6 : p6 ≤ 8 := ep6 ▸ cnt_le _ _
  have h7 : p7 ≤ 8 := ep7 ▸ cnt_le _ _
  clear ep0 ep1 ep2 ep3 ep4 ep5 ep6 ep7 hL l2'' l2' l2 l1 q3 q2 q1 hc hlen hb2 hb1 hl hJ hb hx
  simp only [J]
  rw [Nat.mul_zero, Nat.add_zero]
  generalize g6 : p6 + 256 * p7 = r6
  generalize g5 : p5 + 256 * r6 = r5
  generalize g4 : p4 + 256 * r5 = r4
  generalize g3 : p3 + 256 * r4 = r3
  generalize g2 : p2 + 256 * r3 = r2
  generalize g1 : p1 + 256 * r2 = r1
  generalize hy : p0 + 256 * r1 = y
  have b6 : r6 ≤ 8 + 256 * 8 := by rw [← g6]; omega
  have b5 : r5 ≤ 8 + 256 * (8 + 256 * 8) := by rw [← g5]; omega
  have b4 : r4 ≤ 8 + 256 * (8 + 256 * (8 + 256 * 8)) := by rw [← g4]; omega
  have b3 : r3 ≤ 8 + 256 * (8 + 256 * (8 + 256 * (8 + 256 * 8))) := by rw [← g3]; omega
  have b2 : r2 ≤ 8 + 256 * (8 + 256 * (8 + 256 * (8 + 256 * (8 + 256 * 8)))) := by rw [← g2]; omega
  have b1 : r1 ≤ 8 + 256 * (8 + 256 * (8 + 256 * (8 + 256 * (8 + 256 * (8 + 256 * 8))))) := by rw [← g1]; omega
  have b0 : y ≤ 8 + 256 * (8 + 256 * (8 + 256 * (8 + 256 * (8 + 256 * (8 + 256 * (8 + 256 * 8)))))) := by rw [← hy]; omega
  obtain ⟨e1, e2, e3, e4⟩ := last_sum p0 p1 p2 p3 p4 p5 p6 p7 r1 r2 r3 r4 r5 r6 y h0 h1 h2 h3 h4 h5 h6 h7 hy.symm g1.symm g2.symm g3.symm g4.symm g5.symm g6.symm
  have f4 : s4 (y : Int) = ((y + r1 : Nat) : Int) := s4_nat (by omega) (by rw [e1])
  have f5 : s5 ((y + r1 : Nat) : Int) = ((y + r1 + (r2 + r3) : Nat) : Int) := s5_nat (by omega) (by rw [e2])
  have f6 : s6 ((y + r1 + (r2 + r3) : Nat) : Int) = ((y + r1 + (r2 + r3) + (r4 + r5 + (r6 + p7)) : Nat) : Int) := s6_nat (by omega) (by rw [e3])
  have f7 := s7_nat (by omega) e4
  rw [f4, f5, f6, f7]
  omega
set_option maxHeartbeats 800000 in
theorem ones_calls (x : Int) (w : World) (h0 : 0 ≤ x) (h1 : x < 18446744073709551616) : Calls Tryd.prog 24 #[.int .u64 x] w fun e w' => e = .returned (.int .i64 (cnt x.toNat 64)) ∧ w = w' := by
  obtain ⟨x, rfl⟩ := Int.eq_ofNat_of_zero_le h0
  rw [Int.toNat_natCast]
  have HV := Lib.hid (ones_val (x := x) (by omega))
  go_enter Tryd.func24, Tryd.ntmps24
  go_wp2
  go_ret
  exact ⟨ret_i HV.out, rfl⟩
end Go.Proofs.YtaadbikaeofnoaaDoor
