/- The two listed tables lie as the walk asks. -/
import Derived.Test.YtcmlifbfegblgaaDoorRows
import Derived.Test.YtcmlifbfegblgaaDoorLawOt
import Derived.OpenShut
import Derived.Lib.LaidTab
import Derived.LaidMore
import Derived.LaidLaws
import Derived.Stop.LaidErr
import Derived.ChangeSame
import Derived.ChangeVars
import Derived.JoinedOf
import Derived.LaidHandle
namespace Go.Proofs.YtcmlifbfegblgaaDoor
set_option linter.unusedVariables false
set_option linter.unusedSimpArgs false
open Go.RowKit
theorem row_at {W : World} {name : String} {cs : Array Value} {g t : Nat} {zero : Array Value} (hsh : W.ShapedOpen Tryd.prog) (h : W.var? Tryd.prog name = some cs) (hg : Tryd.prog.globalNamed name = some g) (hlt : g < Tryd.prog.globals.size)
    (hz : ((begin Tryd.prog (fun _ _ => 0) default).world.heap[g]?).bind Obj.row? = some (zero, t)) : W.heap[g]? = some (.cells cs t (0, 0)) := by
  obtain ⟨cs2, hcs, _⟩ := hsh.1 g zero t hlt hz
  unfold World.var? at h
  rw [hg, Option.bind_some, hcs] at h
  obtain rfl := Option.some.inj h
  exact hcs
theorem pairs_of {H : Type} {enc : TypeId × Value → H} {w : World} {base : Nat} {sp : Nat → Bool} {held : Bool} {fuel : Nat} {cs : List Value} {p : List MemPlace}
    (h : DataW.trod enc Tryd.prog w base sp held fuel 129 cs = some (Rows.laid_stillroom_path_ranges, p)) :
    cs = [.int .u8 97, .int .u8 122, .int .u8 65, .int .u8 90, .int .u8 48, .int .u8 57, .int .u8 43, .int .u8 43, .int .u8 45, .int .u8 45, .int .u8 46, .int .u8 46, .int .u8 95, .int .u8 95] := by
  obtain ⟨xs, m, _, hx, hl, hn, hi⟩ := DataW.trod_array Tryd.underlying129 h
  have hc2 : Tryd.prog.cellsOf 128 = 2 := by kernel_rfl
  have hc14 : Tryd.prog.cellsOf 129 = 14 := by kernel_rfl
  have hc1 : Tryd.prog.cellsOf 5 = 1 := by kernel_rfl
  rw [hc14] at hl
  simp only [hc2] at hi
  have hd : xs.map (·.1) = [Lib.tabData .u8 [97, 122], Lib.tabData .u8 [65, 90], Lib.tabData .u8 [48, 57], Lib.tabData .u8 [43, 43], Lib.tabData .u8 [45, 45], Lib.tabData .u8 [46, 46], Lib.tabData .u8 [95, 95]] := by
    have := congrArg Prod.fst hx
    simp only [Rows.laid_stillroom_path_ranges, DataW.agg.injEq] at this
    exact this.symm
  clear hx
  match xs, hn, hd, hi with
  | [x0, x1, x2, x3, x4, x5, x6], _, hd, hi =>
    simp only [List.map_cons, List.map_nil, List.cons.injEq, and_true] at hd
    obtain ⟨q0, q1, q2, q3, q4, q5, q6⟩ := hd
    clear h
    match cs, hl, hi with
    | [c0, c1, c2, c3, c4, c5, c6, c7, c8, c9, c10, c11, c12, c13], _, hi =>
      have g0 := hi 0 (by decide)
      obtain ⟨y0, z0⟩ := x0
      obtain rfl : y0 = Lib.tabData .u8 [97, 122] := q0
      have r0 := Lib.cells_of_tab Tryd.underlying128 Tryd.underlying5 hc1 hc2 g0
      simp at r0
      have g1 := hi 1 (by decide)
      obtain ⟨y1, z1⟩ := x1
      obtain rfl : y1 = Lib.tabData .u8 [65, 90] := q1
      have r1 := Lib.cells_of_tab Tryd.underlying128 Tryd.underlying5 hc1 hc2 g1
      simp at r1
      have g2 := hi 2 (by decide)
      obtain ⟨y2, z2⟩ := x2
      obtain rfl : y2 = Lib.tabData .u8 [48, 57] := q2
      have r2 := Lib.cells_of_tab Tryd.underlying128 Tryd.underlying5 hc1 hc2 g2
      simp at r2
      have g3 := hi 3 (by decide)
      obtain ⟨y3, z3⟩ := x3
      obtain rfl : y3 = Lib.tabData .u8 [43, 43] := q3
      have r3 := Lib.cells_of_tab Tryd.underlying128 Tryd.underlying5 hc1 hc2 g3
      simp at r3
      have g4 := hi 4 (by decide)
      obtain ⟨y4, z4⟩ := x4
      obtain rfl : y4 = Lib.tabData .u8 [45, 45] := q4
      have r4 := Lib.cells_of_tab Tryd.underlying128 Tryd.underlying5 hc1 hc2 g4
      simp at r4
      have g5 := hi 5 (by decide)
      obtain ⟨y5, z5⟩ := x5
      obtain rfl : y5 = Lib.tabData .u8 [46, 46] := q5
      have r5 := Lib.cells_of_tab Tryd.underlying128 Tryd.underlying5 hc1 hc2 g5
      simp at r5
      have g6 := hi 6 (by decide)
      obtain ⟨y6, z6⟩ := x6
      obtain rfl : y6 = Lib.tabData .u8 [95, 95] := q6
      have r6 := Lib.cells_of_tab Tryd.underlying128 Tryd.underlying5 hc1 hc2 g6
      simp at r6
      simp [r0, r1, r2, r3, r4, r5, r6]
theorem tabs_of_laid {W : World} (hsh : W.ShapedOpen Tryd.prog) (hL : laidMetH Tryd.prog Rows.objectTextsUptoRow.laid W) : Tabs W := by
  have h' : laidMet Tryd.prog [("stillroom/bits.tails", Lib.tabData .i64 [0, 2, 4, 5, 7]), ("stillroom/path.ranges", Rows.laid_stillroom_path_ranges)] W := hL
  have h1 := Lib.tabIs_of_head (show Tryd.prog.globalNamed "stillroom/bits.tails" = some 0 by kernel_rfl) (show (Tryd.prog.globals[0]?).map (·.type) = some 105 by kernel_rfl) Tryd.underlying105 Tryd.underlying3 (by kernel_rfl) (by kernel_rfl) h'
  have e1 := row_at (g := 0) (zero := #[.int .i64 0, .int .i64 0, .int .i64 0, .int .i64 0, .int .i64 0]) (t := 105) hsh h1 (by kernel_rfl) (of_decide_eq_true (by kernel_rfl)) (by kernel_rfl)
  obtain ⟨ps, ⟨g', t', cs, fuel, p, q, hg', ht', hvar, hd, _, _⟩, _⟩ := laidMet.tail h'
  have hgr : Tryd.prog.globalNamed "stillroom/path.ranges" = some 4 := by kernel_rfl
  obtain rfl := Option.some.inj (hgr.symm.trans hg')
  have hty : (Tryd.prog.globals[4]?).map (·.type) = some 129 := by kernel_rfl
  obtain rfl := Option.some.inj (hty.symm.trans ht')
  have hcs := pairs_of hd
  have e2 := row_at (g := 4) (zero := #[.int .u8 0, .int .u8 0, .int .u8 0, .int .u8 0, .int .u8 0, .int .u8 0, .int .u8 0, .int .u8 0, .int .u8 0, .int .u8 0, .int .u8 0, .int .u8 0, .int .u8 0, .int .u8 0]) (t := 129) hsh hvar hgr (of_decide_eq_true (by kernel_rfl)) (by kernel_rfl)
  have hcs2 : cs = #[.int .u8 97, .int .u8 122, .int .u8 65, .int .u8 90, .int .u8 48, .int .u8 57, .int .u8 43, .int .u8 43, .int .u8 45, .int .u8 45, .int .u8 46, .int .u8 46, .int .u8 95, .int .u8 95] := Array.toList_inj.1 hcs
  refine ⟨e1, ?_⟩
  rw [e2, hcs2]
end Go.Proofs.YtcmlifbfegblgaaDoor
