/- The walk of AllocCounts: whatever the numbers are, the law returns true and writes nothing that was there. -/
import Derived.Test.YtaadbikaeofnoaaAm
namespace Go.Proofs.Ytaadbikaeofnoaa
open Go.RowKit

structure CRel (w : World) (b : Nat) (n : Int) (S : Nat) (wr : World) : Prop where
  grown : w.grownBy wr none
  at_ : SetAt wr b n S
  small : S < 2 ^ (64 * 32)
theorem CRel.step {w wr w' : World} {b : Nat} {n : Int} {S S' : Nat} (h : CRel w b n S wr) (hb : w.heap.size ≤ b) (hg : wr.grownBy w' (some b)) (hs : SetAt w' b n S') (hS : S' < 2 ^ (64 * 32)) : CRel w b n S' w' := ⟨grown_own h.grown hb hg, hs, hS⟩
theorem CRel.look {w wr w' : World} {b : Nat} {n : Int} {S : Nat} (h : CRel w b n S wr) (hg : wr.grownBy w' none) : CRel w b n S w' := ⟨grown_trans h.grown hg, h.at_.grown hg (by simp), h.small⟩
def CEx (w : World) (b : Nat) (n : Int) (wr : World) : Prop := ∃ S, CRel w b n S wr

theorem pow_pos64 (k : Nat) : 0 < 2 ^ (64 * k) := Nat.two_pow_pos _
theorem xor_lt64 {S i k : Nat} (h : S < 2 ^ (64 * k)) (hi : i < 64 * k) : S ^^^ 2 ^ i < 2 ^ (64 * k) := xor_lt h hi
theorem or_lt64 {S i k : Nat} (h : S < 2 ^ (64 * k)) (hi : i < 64 * k) : S ||| 2 ^ i < 2 ^ (64 * k) := or_lt h hi
theorem zero_small : 0 < 2 ^ (64 * 32) := pow_pos64 32
set_option maxHeartbeats 2000000 in
set_option maxRecDepth 100000 in
theorem counts_ok (w : World) (a0 : Int) (a1 : Option Addr) (len cap : Nat) (z : List Int) (hz : IsRow .i64 w a1 len cap z) :
    Calls Try.prog 5 #[.int .i64 a0, .slice a1 len cap] w fun e w' => e = .returned (.bool true) ∧ w.grownBy w' none := by
  obtain ⟨m0, m1⟩ := mask_bounds a0
  have HZ := Lib.hid hz
  have hlen := hz.len_le
  clear hz
  obtain ⟨m, hm⟩ : ∃ m, m = bits BinOp.and IntKind.i64 a0 2047 := ⟨_, rfl⟩
  rw [← hm] at m0 m1
  have hm2 := hm.symm
  clear hm
  go_enter Try.func5, Try.ntmps5
  go_wp2_with fail
  have hn1 : 1 ≤ 1 + m := by omega
  have hn2 : 1 + m ≤ 2048 := by omega
  clear hm2 m0 m1
  generalize 1 + m = n at hn1 hn2 ⊢
  refine (new_ok _ _ hn1 hn2).mono ?_
  rintro e w1 ⟨rfl, hg1, hs1, _⟩
  have HR := Lib.hid (CRel.mk hg1 hs1 zero_small)
  obtain ⟨b, hbe⟩ : ∃ b, b = w.heap.size := ⟨_, rfl⟩
  rw [← hbe] at HR ⊢
  have hb : w.heap.size ≤ b := by omega
  clear hg1 hs1 hbe
  go_wp2_with fail
  go_loopw [7, 8, 9, 10, 11, 12, 13] (fun i _ _ _ _ _ _ wr => ∃ k : Int, 0 ≤ k ∧ k ≤ 300 ∧ i = .int .i64 k ∧ CEx w b n wr) (fun i _ _ _ _ _ _ _ => (300 - intOf i).toNat)
  case atStart => exact ⟨0, by omega, by omega, rfl, 0, HR.out⟩
  case round =>
    obtain ⟨i, hi0, hi1, rfl, hex⟩ := hrel
    clear HR
    by_cases hlt : i < len ∧ i < 300
    · obtain ⟨hlt, hlt2⟩ := hlt
      obtain ⟨ab, off, rfl, hcell, hx0, hx1⟩ := HZ.out.ints i.toNat (by omega)
      obtain ⟨x, hx⟩ : ∃ x, x = z.getD i.toNat 0 := ⟨_, rfl⟩
      rw [← hx] at hcell hx0 hx1
      clear hx
      obtain ⟨S, hr⟩ := hex
      have ha : wr.cell? ⟨ab, off + i.toNat, none⟩ = some (.int .i64 x) := hr.grown.cell hcell (by simp)
      have HR := Lib.hid hr
      clear hr hcell
      obtain ⟨k0, k1⟩ := rem2_bounds x n hn1 (by omega)
      obtain ⟨r0, r1⟩ := rem_bounds x n hn1
      rw [Int.tmod_eq_emod_of_nonneg (by omega)] at k0 k1
      have HK0 := Lib.hid k0
      have HK1 := Lib.hid k1
      clear k0 k1
      go_wp2_with fail
      generalize (x.tmod n + n) % n = k at HK0 HK1 ⊢
      have k0 := HK0.out
      have k1 := HK1.out
      clear HK0 HK1 r0 r1 ha hx0 hx1
      have hkn : k.toNat < 64 * 32 := by show _ < 2048; omega
      refine (clone_ok b n S _ HR.out.at_ hn1).mono ?_
      rintro e w2 ⟨rfl, hg2, hc2⟩
      have HR2 := Lib.hid (HR.out.look hg2)
      obtain ⟨c, hce⟩ : ∃ c, c = wr.heap.size := ⟨_, rfl⟩
      rw [← hce] at hc2 ⊢
      have hcb : c ≠ b := by have := HR.out.at_.lt; omega
      have HC2 := Lib.hid hc2
      clear hg2 hc2 HR hce
      go_wp2_with fail
      refine (count_ok b n S _ HR2.out.at_ hn1 hn2).mono ?_
      rintro e w3 ⟨rfl, hg3⟩
      have HR3 := Lib.hid (HR2.out.look hg3)
      have HC3 := Lib.hid (HC2.out.grown hg3 (by simp))
      clear hg3 HR2 HC2
      obtain ⟨u, hu⟩ : ∃ u : Int, u = cnt S (64 * 32) := ⟨_, rfl⟩
      have u0 : 0 ≤ u := by omega
      have u1 : u ≤ 2048 := by have := cnt_le S (64 * 32); omega
      rw [← hu]
      have HU := Lib.hid hu
      clear hu
      go_wp2_with fail
      refine (has_ok b n k S _ HR3.out.at_ hn2 k0 k1).mono ?_
      rintro e w4 ⟨rfl, rfl⟩
      by_cases hbit : S.testBit k.toNat = true
      · rw [hbit]
        have HB := Lib.hid hbit
        clear hbit
        go_wp2_with fail
        refine (put_there b n k S _ HR3.out.at_ hn2 k0 k1 HB.out).mono ?_
        rintro e w5 ⟨rfl, rfl⟩
        go_wp2_with fail
        refine (drop_ok b n k S _ HR3.out.at_ hn2 k0 k1 HB.out).mono ?_
        rintro e w6 ⟨rfl, hg6, hs6⟩
        have hsm := HR3.out.small
        have hsx := xor_lt64 hsm hkn
        have hr6 := HR3.out.step hb hg6 hs6 hsx
        have HR6 := Lib.hid hr6
        clear hsm hsx hr6
        have HC6 := Lib.hid (HC3.out.grown hg6 (by simp [hcb]))
        clear hg6 hs6
        go_wp2_with fail
        refine (same_no b c n (S ^^^ 2 ^ k.toNat) S _ HR6.out.at_ HC6.out hn1 hn2 HR6.out.small HR3.out.small (ne_of_bit (i := k.toNat) (by rw [xor_at HB.out, HB.out]; simp))).mono ?_
        rintro e w7 ⟨rfl, hg7⟩
        have HR7 := Lib.hid (HR6.out.look hg7)
        have HC7 := Lib.hid (HC6.out.grown hg7 (by simp))
        clear hg7 HR6 HC6
        go_wp2_with fail
        refine (put_ok b n k (S ^^^ 2 ^ k.toNat) _ HR7.out.at_ hn2 k0 k1 (xor_at HB.out)).mono ?_
        rintro e w8 ⟨rfl, hg8, hs8⟩
        rw [xor_or HB.out] at hs8
        have HR8 := Lib.hid (HR7.out.step hb hg8 hs8 HR3.out.small)
        have HC8 := Lib.hid (HC7.out.grown hg8 (by simp [hcb]))
        clear hg8 hs8 HR7 HC7
        go_wp2_with fail
        refine (same_yes b c n S _ HR8.out.at_ HC8.out hn1 hn2 HR3.out.small).mono ?_
        rintro e w9 ⟨rfl, hg9⟩
        have HR9 := Lib.hid (HR8.out.look hg9)
        clear hg9 HR8 HC8
        go_wp2_with fail
        refine (drop_ok b n k S _ HR9.out.at_ hn2 k0 k1 HB.out).mono ?_
        rintro e w10 ⟨rfl, hg10, hs10⟩
        have hsm := HR3.out.small
        have hsx := xor_lt64 hsm hkn
        have hr10 := HR9.out.step hb hg10 hs10 hsx
        have HR10 := Lib.hid hr10
        clear hsm hsx hr10
        clear hg10 hs10 HR9
        go_wp2_with fail
        refine (count_ok b n (S ^^^ 2 ^ k.toNat) _ HR10.out.at_ hn1 hn2).mono ?_
        rintro e w11 ⟨rfl, hg11⟩
        have HR11 := Lib.hid (HR10.out.look hg11)
        clear hg11 HR10
        obtain ⟨v, hv⟩ : ∃ v : Int, v = cnt (S ^^^ 2 ^ k.toNat) (64 * 32) := ⟨_, rfl⟩
        have hvu : u = v + 1 := by have := cnt_xor hkn HB.out; have := HU.out; omega
        rw [← hv]
        clear hv HU
        subst hvu
        have t1 : (v + 1 + (n - (v + 1)) != n) = false := by simp; omega
        have t2 : (v + (n - v) != n) = false := by simp; omega
        have t3 : (v - (v + 1) != 1) = true := by rw [bne_iff_ne]; omega
        have t4 : (v + 1 - v != 1) = false := by simp; omega
        go_wp2_with fail
        exact ⟨⟨i + 1, by omega, by omega, rfl, _, HR11.out⟩, by simp [intOf]; omega⟩
      · have hbit' : S.testBit k.toNat = false := by simpa using hbit
        rw [hbit']
        have HB := Lib.hid hbit'
        clear hbit hbit'
        go_wp2_with fail
        refine (drop_none b n k S _ HR3.out.at_ hn2 k0 k1 HB.out).mono ?_
        rintro e w5 ⟨rfl, rfl⟩
        go_wp2_with fail
        refine (put_ok b n k S _ HR3.out.at_ hn2 k0 k1 HB.out).mono ?_
        rintro e w6 ⟨rfl, hg6, hs6⟩
        have hsm := HR3.out.small
        have hsx := or_lt64 hsm hkn
        have hr6 := HR3.out.step hb hg6 hs6 hsx
        have HR6 := Lib.hid hr6
        clear hsm hsx hr6
        have HC6 := Lib.hid (HC3.out.grown hg6 (by simp [hcb]))
        clear hg6 hs6
        go_wp2_with fail
        refine (same_no b c n (S ||| 2 ^ k.toNat) S _ HR6.out.at_ HC6.out hn1 hn2 HR6.out.small HR3.out.small (ne_of_bit (i := k.toNat) (by rw [or_at, HB.out]; simp))).mono ?_
        rintro e w7 ⟨rfl, hg7⟩
        have HR7 := Lib.hid (HR6.out.look hg7)
        have HC7 := Lib.hid (HC6.out.grown hg7 (by simp))
        clear hg7 HR6 HC6
        go_wp2_with fail
        refine (drop_ok b n k (S ||| 2 ^ k.toNat) _ HR7.out.at_ hn2 k0 k1 (or_at S _)).mono ?_
        rintro e w8 ⟨rfl, hg8, hs8⟩
        rw [or_xor HB.out] at hs8
        have HR8 := Lib.hid (HR7.out.step hb hg8 hs8 HR3.out.small)
        have HC8 := Lib.hid (HC7.out.grown hg8 (by simp [hcb]))
        clear hg8 hs8 HR7 HC7
        go_wp2_with fail
        refine (same_yes b c n S _ HR8.out.at_ HC8.out hn1 hn2 HR3.out.small).mono ?_
        rintro e w9 ⟨rfl, hg9⟩
        have HR9 := Lib.hid (HR8.out.look hg9)
        clear hg9 HR8 HC8
        go_wp2_with fail
        refine (put_ok b n k S _ HR9.out.at_ hn2 k0 k1 HB.out).mono ?_
        rintro e w10 ⟨rfl, hg10, hs10⟩
        have hsm := HR3.out.small
        have hsx := or_lt64 hsm hkn
        have hr10 := HR9.out.step hb hg10 hs10 hsx
        have HR10 := Lib.hid hr10
        clear hsm hsx hr10
        clear hg10 hs10 HR9
        go_wp2_with fail
        refine (count_ok b n (S ||| 2 ^ k.toNat) _ HR10.out.at_ hn1 hn2).mono ?_
        rintro e w11 ⟨rfl, hg11⟩
        have HR11 := Lib.hid (HR10.out.look hg11)
        clear hg11 HR10
        obtain ⟨v, hv⟩ : ∃ v : Int, v = cnt (S ||| 2 ^ k.toNat) (64 * 32) := ⟨_, rfl⟩
        have hv1 : v ≤ 2048 := by have := cnt_le (S ||| 2 ^ k.toNat) (64 * 32); omega
        have hvu : v = u + 1 := by have := cnt_or hkn HB.out; have := HU.out; omega
        rw [← hv]
        clear hv HU
        subst hvu
        have t1 : (u + 1 + (n - (u + 1)) != n) = false := by simp; omega
        have t2 : (u + (n - u) != n) = false := by simp; omega
        have t4 : (u + 1 - u != 1) = false := by simp; omega
        go_wp2_with fail
        exact ⟨⟨i + 1, by omega, by omega, rfl, _, HR11.out⟩, by simp [intOf]; omega⟩
    · obtain ⟨S, hr⟩ := hex
      have HG := Lib.hid hr.grown
      clear hr
      by_cases hlt1 : i < len
      · have hge : ¬ i < 300 := fun h => hlt ⟨hlt1, h⟩
        clear hlt
        go_wp2_with fail
        go_ret
        exact ⟨rfl, HG.out⟩
      · clear hlt
        go_wp2_with fail
        go_ret
        exact ⟨rfl, HG.out⟩
theorem alloc_counts (w : World) (a0 : Int) (_w0 : (Lit.int .i64 a0).wf = true) (a1 : Option Addr) (len1 cap1 : Nat) (z1 : List Int) (w1 : IsRow .i64 w a1 len1 cap1 z1) :
    Calls Try.prog 5 #[.int .i64 a0, .slice a1 len1 cap1] w fun e w' => e = .returned (.bool true) ∧ Below w.heap.size w w' :=
  (counts_ok w a0 a1 len1 cap1 z1 w1).mono fun _ _ ⟨h1, h2⟩ => ⟨h1, below_of_grown h2⟩
end Go.Proofs.Ytaadbikaeofnoaa
