/- What AllocPlays is given: a slice of acts, each three numbers; and the reading of such a slice. -/
import Derived.Test.YtaadbikaeofnoaaDoorRows
import Derived.Deep.Slices
import Derived.Deep.Strs
import Derived.ChangeSame
import Derived.WalkKit
import Derived.ProofKit
namespace Go.Proofs.YtaadbikaeofnoaaDoor
open Go.ChangeShapes Go.WideShapes Go.ChangeAt Go.RowKit Go.Deep

/-- acts that came in: each is three numbers -/
def ActsAt (w : World) (ab off len : Nat) : Prop := ∀ i, i < len → ∃ K N T : Int, w.cell? ⟨ab, off + i * 3, none⟩ = some (.int .i64 K) ∧ w.cell? ⟨ab, off + i * 3 + 1, none⟩ = some (.int .i64 N) ∧ w.cell? ⟨ab, off + i * 3 + 2, none⟩ = some (.int .i64 T)
def IsActs (w : World) (a : Option Addr) (len : Nat) : Prop := len ≤ 9223372036854775807 ∧ (len = 0 ∨ ∃ ab off, a = some ⟨ab, off, none⟩ ∧ ActsAt w ab off len)

/-- the three numbers of an act, out of its cells -/
theorem act_cells {H : Type} {enc : TypeId × Value → H} {w : World} {base n : Nat} {spare : Nat → Bool} {held : Bool} {cs : List Value} {x : DataW H × List MemPlace}
    (h : DataW.trod enc Tryd.prog w base spare held n 50 cs = some x) : ∃ K N T : Int, cs = [.int .i64 K, .int .i64 N, .int .i64 T] := by
  obtain ⟨y0, y1, y2, m, _, hl, h0, h1, h2⟩ := trod_struct3 Tryd.underlying50 h
  obtain ⟨K, e0, _⟩ := DataW.trod_int Tryd.underlying3 h0
  obtain ⟨N, e1, _⟩ := DataW.trod_int Tryd.underlying3 h1
  obtain ⟨T, e2, _⟩ := DataW.trod_int Tryd.underlying3 h2
  have hl3 : cs.length = 3 := hl.trans (by kernel_rfl)
  have c1 : Tryd.prog.cellsOf 3 = 1 := by kernel_rfl
  match cs, hl3 with
  | [a, b, c], _ =>
    simp [c1] at e0 e1 e2
    exact ⟨K, N, T, by rw [e0, e1, e2]⟩

theorem isActs_of {H : Type} {enc : TypeId × Value → H} {w : World} {base : Nat} {held : Bool} {a0 : Option Addr} {len0 cap0 : Nat} {d : DataW H} {p : List MemPlace}
    (h : DataW.Trod enc Tryd.prog w base (fun _ => true) held 44 (.slice a0 len0 cap0) d p) : IsActs w a0 len0 := by
  obtain ⟨fuel, hf⟩ := h
  rcases open_slice Tryd.underlying44 hf with ⟨hcs, _⟩ | ⟨a, len, cap, m, n, D, Pl, hcs, hb, hl, hm, hmm, _, hx⟩
  · simp [Value.cells] at hcs
    obtain ⟨rfl, rfl, rfl⟩ := hcs
    exact ⟨by omega, .inl rfl⟩
  · simp [Value.cells] at hcs
    obtain ⟨rfl, rfl, rfl⟩ := hcs
    refine ⟨Nat.le_trans hl (Nat.le_trans hm (by decide)), ?_⟩
    · by_cases hz : len0 = 0
      · exact .inl hz
      · right
        have c3 : Tryd.prog.cellsOf 50 = 3 := by kernel_rfl
        have key : ∀ i, i < len0 → ∃ K N T : Int, w.cell? ((a.add (i * 3)).add 0) = some (.int .i64 K) ∧ w.cell? ((a.add (i * 3)).add 1) = some (.int .i64 N) ∧ w.cell? ((a.add (i * 3)).add 2) = some (.int .i64 T) := fun i hi => by
          obtain ⟨cs', h1, h2⟩ := hx i (by simp at hmm; omega)
          rw [c3] at h1
          obtain ⟨K, N, T, rfl⟩ := act_cells h2
          obtain ⟨_, _, hc⟩ := World.cells?_some h1
          exact ⟨K, N, T, hc 0 (by omega), hc 1 (by omega), hc 2 (by omega)⟩
        obtain ⟨b, off, spot⟩ := a
        obtain ⟨_, _, _, g0, _⟩ := key 0 (by omega)
        have hspot : spot = none := by simpa [Addr.add] using World.cell?_spot g0
        subst hspot
        refine ⟨b, off, rfl, fun i hi => ?_⟩
        obtain ⟨K, N, T, h0, h1, h2⟩ := key i hi
        simp only [add_plain] at h0 h1 h2
        exact ⟨K, N, T, h0, h1, h2⟩
end Go.Proofs.YtaadbikaeofnoaaDoor
