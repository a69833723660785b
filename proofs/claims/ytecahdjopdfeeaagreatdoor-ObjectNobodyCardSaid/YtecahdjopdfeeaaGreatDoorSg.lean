/- The digest in plain words: blocks one after the other, the padding, the bytes of a number. -/
import Derived.Test.YtecahdjopdfeeaaGreatDoorSe
import Derived.Test.YtecahdjopdfeeaaGreatDoorQObjectNobodyx1
import Derived.Test.YtecahdjopdfeeaaGreatDoorQObjectNobodyx2
import Derived.Test.YtecahdjopdfeeaaGreatDoorQbits
namespace Go.Proofs.YtecahdjopdfeeaaGreatDoor
open Go.RowKit QObjectNobody Go.Proofs.YtecahdjopdfeeaaGreatDoorW.PrintWords Go.Proofs.YtecahdjopdfeeaaGreatDoorW.PrintLast Go.Proofs.YtecahdjopdfeeaaGreatDoorW.PrintMore
def comp (K s : Nat → Int) (l : List Int) : Nat → Int := sm s (rnds K (wod l) s 64) 8
theorem comp_ok (K s : Nat → Int) (l : List Int) (hs : ∀ j, 0 ≤ s j ∧ s j < 4294967296) (j : Nat) : 0 ≤ comp K s l j ∧ comp K s l j < 4294967296 := by
  unfold comp sm
  split
  · omega
  · exact hs j
/-- k blocks of l -/
def hsh (K s : Nat → Int) (l : List Int) : Nat → Nat → Int
  | 0 => s
  | k + 1 => comp K (hsh K s l k) ((l.drop (64 * k)).take 64)
theorem hsh_ok (K s : Nat → Int) (l : List Int) (hs : ∀ j, 0 ≤ s j ∧ s j < 4294967296) : ∀ k j, 0 ≤ hsh K s l k j ∧ hsh K s l k j < 4294967296
  | 0, j => hs j
  | k + 1, j => comp_ok K _ _ (hsh_ok K s l hs k) j
theorem hsh_split (K s : Nat → Int) (l : List Int) (q : Nat) : ∀ k, hsh K s l (q + k) = hsh K (hsh K s l q) (l.drop (64 * q)) k
  | 0 => rfl
  | k + 1 => by
    show comp K (hsh K s l (q + k)) _ = comp K (hsh K (hsh K s l q) (l.drop (64 * q)) k) _
    rw [hsh_split K s l q k, List.drop_drop, show 64 * q.add k = 64 * q + 64 * k from by show 64 * (q + k) = _; omega]
theorem hsh_head (K s : Nat → Int) (l t : List Int) : ∀ k, 64 * k ≤ l.length → hsh K s (l ++ t) k = hsh K s l k
  | 0, _ => rfl
  | k + 1, h => by
    show comp K (hsh K s (l ++ t) k) _ = comp K (hsh K s l k) _
    rw [hsh_head K s l t k (by omega), List.drop_append_of_le_length (by omega), List.take_append_of_le_length (by rw [List.length_drop]; omega)]
def be8 (v : Int) : List Int := [v / 72057594037927936 % 256, v / 281474976710656 % 256, v / 1099511627776 % 256, v / 4294967296 % 256, v / 16777216 % 256, v / 65536 % 256, v / 256 % 256, v % 256]
def be4 (v : Int) : List Int := [v / 16777216 % 256, v / 65536 % 256, v / 256 % 256, v % 256]
/-- how many zeros lie between the mark and the length -/
def gap (n : Nat) : Nat := (119 - n % 64) % 64
def tailOf (l : List Int) (n : Nat) : List Int := l ++ [128] ++ List.replicate (gap l.length) 0 ++ be8 (8 * n)
theorem gap_sum (n : Nat) : (n + 1 + gap n) % 64 = 56 := by unfold gap; omega
theorem gap_lt (n : Nat) : gap n < 64 := by unfold gap; omega
theorem gap_at (n j : Nat) (hj : j ≤ gap n) (h : (n + 1 + j) % 64 = 56) : j = gap n := by unfold gap at *; omega
theorem gap_drop (n q : Nat) (h : 64 * q ≤ n) : gap (n - 64 * q) = gap n := by unfold gap; omega
theorem tail_len (l : List Int) (n : Nat) : (tailOf l n).length = l.length + 9 + gap l.length := by simp [tailOf, be8]; omega
/-- the whole: the full blocks of l, then those of what is left with its tail -/
theorem hsh_pad (K s : Nat → Int) (l : List Int) (q : Nat) (hq : 64 * q ≤ l.length) (k : Nat) : hsh K s (tailOf l l.length) (q + k) = hsh K (hsh K s l q) (tailOf (l.drop (64 * q)) l.length) k := by
  have e : tailOf l l.length = l ++ ([128] ++ List.replicate (gap l.length) 0 ++ be8 (8 * l.length)) := by simp [tailOf]
  rw [hsh_split, e, hsh_head K s l _ q hq, List.drop_append_of_le_length hq]
  congr 1
  simp [tailOf, List.length_drop, gap_drop _ _ hq]
theorem bits8 (v : Int) : bits_Bytes.f 11 v 8 = some (be8 v, 0) := by
  simp [bits_Bytes.f, bits_Bytes.j0, bits_Bytes.l0, wrap64, be8, shr, IntKind.bits, List.replicate]
theorem bits4 (v : Int) : bits_Bytes.f 7 v 4 = some (be4 v, 0) := by
  simp [bits_Bytes.f, bits_Bytes.j0, bits_Bytes.l0, wrap64, be4, shr, IntKind.bits, List.replicate]
theorem rstep (x : Int) (h0 : 0 ≤ x) (h1 : x < 18446744073709551616) : IntKind.u64.wrap (Int.tdiv x 256) = x / 256 := by
  rw [IntKind.wrap_u64, Int.tdiv_eq_ediv_of_nonneg h0]; omega
theorem rmod (x : Int) (h0 : 0 ≤ x) : Int.tmod x 256 % 256 = x % 256 := by
  rw [Int.tmod_eq_emod_of_nonneg h0]; omega
def down : List Int → Nat → Int → List Int
  | xs, 0, x => xs.set 0 (x % 256)
  | xs, m + 1, x => down (xs.set (m + 1) (x % 256)) m (x / 256)
theorem rdown : ∀ (m : Nat) (xs : List Int) (x : Int), m < xs.length → m < 1000 → 0 ≤ x → x < 18446744073709551616 → stillroomref01_Bytes.l0 (m + 2) x xs m = some (down xs m x, 0)
  | 0, xs, x, hm, _, h0, h1 => by
    have c : ((0 : Nat) : Int) < (xs.length : Int) := by omega
    simp only [stillroomref01_Bytes.l0, rmod x h0]
    rw [if_pos (by omega), if_pos (by omega), if_pos c, if_neg (by unfold wrap64; omega)]
    rfl
  | m + 1, xs, x, hm, hl, h0, h1 => by
    have ih := rdown m (xs.set (m + 1) (x % 256)) (x / 256) (by rw [List.length_set]; omega) (by omega) (by omega) (by omega)
    have e : wrap64 (((m + 1 : Nat) : Int) - 1) = (m : Int) := by
      rw [show ((m + 1 : Nat) : Int) - 1 = (m : Int) by omega]; unfold wrap64; omega
    rw [stillroomref01_Bytes.l0, if_pos (by omega), if_pos (by omega), if_pos (by omega), rstep x h0 h1, rmod x h0, e]
    exact ih
theorem rbits8 (v : Int) (h0 : 0 ≤ v) (h1 : v < 18446744073709551616) : stillroomref01_Bytes.f 10 v 8 = some (be8 v, 0) := by
  have e : stillroomref01_Bytes.f 10 v 8 = stillroomref01_Bytes.l0 9 v [0, 0, 0, 0, 0, 0, 0, 0] ((7 : Nat) : Int) := by
    simp [stillroomref01_Bytes.f, stillroomref01_Bytes.j0, wrap64, List.replicate]
  rw [e, rdown 7 _ _ (by decide) (by decide) h0 h1]
  simp only [down, be8, List.set_cons_zero, List.set_cons_succ, Option.some.injEq, Prod.mk.injEq, List.cons.injEq, and_true]
  omega
end Go.Proofs.YtecahdjopdfeeaaGreatDoor
