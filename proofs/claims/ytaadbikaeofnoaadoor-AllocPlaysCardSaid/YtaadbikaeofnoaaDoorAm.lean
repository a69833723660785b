/- Small laws that several walks use: rows that came in, masks, remainders, worlds that only grow. -/
import Derived.Test.YtaadbikaeofnoaaDoorAk
namespace Go.Proofs.YtaadbikaeofnoaaDoor
open Go.RowKit

def IsRow (k : IntKind) (w : World) (a : Option Addr) (len cap : Nat) (zs : List Int) : Prop :=
  (a = none ∧ len = 0 ∧ cap = 0 ∧ zs = []) ∨
  ∃ x, a = some x ∧ len ≤ cap ∧ cap ≤ maxLen ∧ zs.length = cap ∧ (∀ i, i < zs.length → w.cell? (x.add i) = some (.int k (zs.getD i 0))) ∧ ∀ n ∈ zs, (Lit.int k n).wf = true
theorem add_any (b off i : Nat) : (⟨b, off, none⟩ : Addr).add i = ⟨b, off + i, none⟩ := by
  unfold Addr.add
  split <;> simp_all
theorem below_of_grown {w w' : World} (h : w.grownBy w' none) : Below w.heap.size w w' := (Below.refl w.heap.size w).grown h (Nat.le_refl _) (by simp)
/-- a row of ints: the elements that may be read -/
theorem IsRow.ints {w : World} {a : Option Addr} {len cap : Nat} {zs : List Int} (h : IsRow .i64 w a len cap zs) (i : Nat) (hi : i < len) :
    ∃ ab off, a = some ⟨ab, off, none⟩ ∧ w.cell? ⟨ab, off + i, none⟩ = some (.int .i64 (zs.getD i 0)) ∧ -9223372036854775808 ≤ zs.getD i 0 ∧ zs.getD i 0 ≤ 9223372036854775807 := by
  rcases h with ⟨_, h, _⟩ | ⟨x, rfl, hl, hm, hz, hcell, hwz⟩
  · omega
  · obtain ⟨b, off, spot⟩ := x
    have hc := hcell i (by omega)
    have hspot : spot = none := by simpa [Addr.add] using World.cell?_spot (hcell 0 (by omega))
    subst hspot
    refine ⟨b, off, rfl, ?_, ?_⟩
    · rwa [add_any] at hc
    · have hlt : i < zs.length := by omega
      have := hwz zs[i] (List.getElem_mem hlt)
      rw [List.getD_eq_getElem?_getD, List.getElem?_eq_getElem hlt, Option.getD_some]
      simp [Lit.wf, IntKind.min, IntKind.max, IntKind.bits, IntKind.signed] at this
      omega
theorem IsRow.len_le {k : IntKind} {w : World} {a : Option Addr} {len cap : Nat} {zs : List Int} (h : IsRow k w a len cap zs) : len ≤ 9223372036854775807 := by
  rcases h with ⟨_, h, _⟩ | ⟨x, rfl, hl, hm, _⟩
  · omega
  · unfold maxLen at hm; omega
theorem mask_bounds (x : Int) : 0 ≤ bits BinOp.and IntKind.i64 x 2047 ∧ bits BinOp.and IntKind.i64 x 2047 ≤ 2047 := by
  have h : (BitVec.ofInt 64 x &&& BitVec.ofInt 64 2047).toNat ≤ 2047 := by
    rw [BitVec.toNat_and]
    exact Nat.le_trans Nat.and_le_right (by decide)
  have e : bits BinOp.and IntKind.i64 x 2047 = IntKind.i64.wrap ((BitVec.ofInt 64 x &&& BitVec.ofInt 64 2047).toNat : Int) := rfl
  rw [e]
  generalize (BitVec.ofInt 64 x &&& BitVec.ofInt 64 2047).toNat = a at h
  rw [IntKind.wrap_i64]
  omega
/-- Go's remainder, made positive -/
theorem rem_bounds (x n : Int) (hn : 1 ≤ n) : -n < x.tmod n ∧ x.tmod n < n := by
  have h1 := Int.tmod_lt_of_pos x (show 0 < n by omega)
  have h2 := Int.tmod_lt_of_pos (-x) (show 0 < n by omega)
  rw [Int.neg_tmod] at h2
  omega
theorem rem2_bounds (x n : Int) (hn : 1 ≤ n) (_hn2 : n ≤ 4096) : 0 ≤ (x.tmod n + n).tmod n ∧ (x.tmod n + n).tmod n < n := by
  have h := rem_bounds x n hn
  exact ⟨Int.tmod_nonneg _ (by omega), Int.tmod_lt_of_pos _ (by omega)⟩
theorem or_xor {S i : Nat} (h : S.testBit i = false) : (S ||| 2 ^ i) ^^^ 2 ^ i = S := Nat.eq_of_testBit_eq fun k => by
  rw [xor_bit, or_bit]
  by_cases e : i = k
  · subst e; simp [h]
  · simp [e]
theorem xor_or {S i : Nat} (h : S.testBit i = true) : (S ^^^ 2 ^ i) ||| 2 ^ i = S := Nat.eq_of_testBit_eq fun k => by
  rw [or_bit, xor_bit]
  by_cases e : i = k
  · subst e; simp [h]
  · simp [e]
theorem or_at (S i : Nat) : (S ||| 2 ^ i).testBit i = true := by rw [or_bit]; simp
theorem xor_at {S i : Nat} (h : S.testBit i = true) : (S ^^^ 2 ^ i).testBit i = false := by rw [xor_bit, h]; simp
theorem or_lt {S i p : Nat} (h : S < 2 ^ p) (hi : i < p) : S ||| 2 ^ i < 2 ^ p := Nat.or_lt_two_pow h (Nat.pow_lt_pow_right (by omega) hi)
theorem xor_lt {S i p : Nat} (h : S < 2 ^ p) (hi : i < p) : S ^^^ 2 ^ i < 2 ^ p := Nat.xor_lt_two_pow h (Nat.pow_lt_pow_right (by omega) hi)
theorem ne_of_bit {S T i : Nat} (h : S.testBit i ≠ T.testBit i) : S ≠ T := fun e => h (by rw [e])
/-- a set that lies above what the call began with: what writes it writes nothing that was there -/
theorem grown_own {w wr w' : World} {b : Nat} (h : w.grownBy wr none) (hb : w.heap.size ≤ b) (hg : wr.grownBy w' (some b)) : w.grownBy w' none :=
  ⟨hg.os.trans h.os, hg.tape.trans h.tape, hg.output.trans h.output, Nat.le_trans h.size hg.size, fun i hi hr => (hg.block i (Nat.lt_of_lt_of_le hi h.size) (by simp; omega)).trans (h.block i hi hr)⟩
end Go.Proofs.YtaadbikaeofnoaaDoor
