/- AllocPlays, joined: whatever number and acts are given, true comes back and nothing that was there is touched. -/
import Derived.Test.YtaadbikaeofnoaaDoorLawPlays
import Derived.OpenShut
import Derived.Below
namespace Go.Proofs.YtaadbikaeofnoaaDoor
open Go.ChangeShapes Go.WideShapes Go.ChangeAt Go.RowKit
theorem alloc_plays (w : World) (hL : laidMetH Tryd.prog Rows.allocPlaysRow.laid w) (a0 : Int) (_w0 : (Lit.int .i64 a0).wf = true) {H : Type} (enc : TypeId × Value → H) (v1 : Value) (d1 : DataW H) (p1 : List MemPlace)
    (hv : Value.okWide Tryd.prog w .any 0 44 v1) (h1 : DataW.Trod enc Tryd.prog w 0 (fun _ => true) true 44 v1 d1 p1) :
    Calls Tryd.prog 5 #[.int .i64 a0, v1] w fun e w' => e = .returned (.bool true) ∧ Below w.heap.size w w' := by
  obtain ⟨a, len, cap, rfl⟩ := okWide_slice Tryd.underlying44 hv
  have ha := isActs_of h1
  by_cases h : 1 ≤ a0 ∧ a0 ≤ 2048
  · exact (plays_ok w (tab_of_laid hL) a0 h.1 h.2 a len cap ha).mono fun _ _ ⟨h1, h2⟩ => ⟨h1, below_of_grown h2⟩
  · exact (plays_bad w a0 (by omega) a len cap).mono fun _ _ ⟨h1, h2⟩ => ⟨h1, below_of_grown h2⟩
end Go.Proofs.YtaadbikaeofnoaaDoor
