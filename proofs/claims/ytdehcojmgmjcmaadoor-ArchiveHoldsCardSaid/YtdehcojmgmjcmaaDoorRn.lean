/- The archive's reader, walked: a number of bytes; what is trimmed; the next string. -/
import Derived.Test.YtdehcojmgmjcmaaDoorRp
import Derived.Laws.BitsAllLaws
namespace Go.Proofs.YtdehcojmgmjcmaaDoor
set_option linter.unusedVariables false
set_option linter.unusedSimpArgs false
open Go.RowKit QArchiveBack Go.Proofs.YtdehcojmgmjcmaaDoorW.PrintWords Go.Proofs.YtdehcojmgmjcmaaDoorW.PrintLast Go.Proofs.YtdehcojmgmjcmaaDoorW.PrintMore
theorem or_byte (v x : Int) (h0 : 0 ≤ v) (h1 : v < 72057594037927936) (h2 : 0 ≤ x) (h3 : x ≤ 255) : bits .or .u64 (IntKind.u64.wrap (v * 256)) (IntKind.u64.wrap x) = v * 256 + x := by
  obtain ⟨a, rfl⟩ := Int.eq_ofNat_of_zero_le h0
  obtain ⟨b, rfl⟩ := Int.eq_ofNat_of_zero_le h2
  have e : IntKind.u64.wrap ((a : Int) * 256) = ((a * 256 : Nat) : Int) := by rw [IntKind.wrap_u64]; omega
  have e2 : IntKind.u64.wrap (b : Int) = ((b : Nat) : Int) := by rw [IntKind.wrap_u64]; omega
  rw [e, e2, u64_or_nat _ _ (by omega) (by omega)]
  have := Nat.two_pow_add_eq_or_of_lt (i := 8) (b := b) (by omega) a
  rw [show a * 256 = 2 ^ 8 * a by omega, ← this]
  omega
theorem num_loop (l : List Int) (hl : l.length ≤ 8) (hb : inB l) : ∀ (d i k : Nat) (v : Int), l.length - i = d → i ≤ l.length → 0 ≤ v → v < (256 : Int) ^ i → d < k → bits_Number.l0 k v l (l.length : Int) (i : Int) = some (num v (l.drop i), 0) := by
  intro d
  induction d with
  | zero =>
    intro i k v h1 h2 h3 h4 h5
    obtain ⟨k, rfl⟩ : ∃ m, k = m + 1 := ⟨k - 1, by omega⟩
    simp only [bits_Number.l0]
    rw [if_neg (by omega), List.drop_eq_nil_of_le (by omega)]
    rfl
  | succ d ih =>
    intro i k v h1 h2 h3 h4 h5
    obtain ⟨k, rfl⟩ : ∃ m, k = m + 1 := ⟨k - 1, by omega⟩
    have hi : i < l.length := by omega
    have hx := hb l[i] (List.getElem_mem hi)
    have er : rd l (i : Int) = l[i] := by simp [rd, List.getD, hi]
    have hp : (256 : Int) ^ i ≤ 72057594037927936 := by
      have : i ≤ 7 := by omega
      match i, this with
      | 0, _ => decide
      | 1, _ => decide
      | 2, _ => decide
      | 3, _ => decide
      | 4, _ => decide
      | 5, _ => decide
      | 6, _ => decide
      | 7, _ => decide
    simp only [bits_Number.l0]
    rw [if_pos (by omega), if_pos (by omega), if_pos (by omega), er, or_byte _ _ h3 (by omega) hx.1 hx.2, w64 (x := (i : Int) + 1) (by omega) (by omega)]
    have := ih (i + 1) k (v * 256 + l[i]) (by omega) (by omega) (by omega) (by rw [Int.pow_succ]; omega) (by omega)
    rw [Int.natCast_add, Int.natCast_one] at this
    rw [this, drop_at hi]
    rfl
theorem number_f (l : List Int) (hl : l.length ≤ 8) (h1 : 1 ≤ l.length) (hb : inB l) : bits_Number.f 11 l = some (num 0 l, 0) := by
  unfold bits_Number.f
  rw [if_neg (by omega), show decide ((l.length : Int) > 8) = false by simp; omega, bits_Number.j0, if_neg (by decide)]
  have := num_loop l hl hb l.length 0 10 0 (by omega) (by omega) (by omega) (by decide) (by omega)
  rw [List.drop_zero] at this
  exact this
theorem number_nil : bits_Number.f 11 [] = some (0, 2) := by decide
end Go.Proofs.YtdehcojmgmjcmaaDoor
