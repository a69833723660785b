/- ArchiveEncodes: any node has the document's archive and digest, or its error: for every node the law returns true and changes nothing that it was given. The listed tables are laid as the program's text lays them (tied). No further condition. -/
import Derived.Test.YtepdnknhejjgnaaDoorRows
import Derived.WalkKit
import Derived.ProofKit
import Derived.OpenShut
import Derived.ShutString
import Derived.ChangeOld
import Derived.Below
import Derived.SizedLaws
import Derived.LaidMore
import Derived.ChangeSame
import Derived.ChangeVars
import Derived.JoinedOf
import Derived.LaidLaws
import Derived.LaidHandle
import Derived.Lay
import Derived.Lib.LaidTab
import Derived.Stop.Joined
import Derived.Stop.LaidErr
import Derived.SevenTiedAt
import Derived.Deep.DeepHandedRow
import Derived.Deep.DeepWitnessRowRef
import Derived.Test.YtepdnknhejjgnaaDoorCards
import Derived.Test.YtepdnknhejjgnaaDoorTie
import Derived.Test.YtepdnknhejjgnaaDoorANodeOpn
import Derived.Test.YtepdnknhejjgnaaDoorLawEnc
namespace Go.Proofs.YtepdnknhejjgnaaDoor
open Go.ChangeShapes Go.WideShapes Go.ChangeAt Go.RowKit
open Go.ChangeMaps (open_string shut_string)
open Go.Proofs.YtepdnknhejjgnaaDoor.QArchiveEncodes Go.Proofs.YtepdnknhejjgnaaDoorW.PrintWords
set_option linter.unusedVariables false
theorem archiveEncodes_own : ownKnob Tryd.prog.godebug = none := by kernel_rfl
theorem archiveEncodes_laidOut : laidOutB Tryd.prog = true := by kernel_rfl
def sList : List Int := [1779033703, 3144134277, 1013904242, 2773480762, 1359893119, 2600822924, 528734635, 1541459225]
/-- a table that is laid, in a world of the program's shape, lies in its row -/
theorem row_of_tab {W : World} {name : String} {zs : List Int} {g t : Nat} {zero : Array Value} (hsh : W.ShapedOpen Tryd.prog) (h : Lib.TabIs Tryd.prog W name .u32 zs) (hg : Tryd.prog.globalNamed name = some g) (hlt : g < Tryd.prog.globals.size)
    (hz : ((begin Tryd.prog (fun _ _ => 0) default).world.heap[g]?).bind Obj.row? = some (zero, t)) : W.heap[g]? = some (.cells (zs.map fun z => Value.int .u32 z).toArray t (0, 0)) := by
  obtain ⟨cs, hcs, _⟩ := hsh.1 g zero t hlt hz
  unfold Lib.TabIs World.var? at h
  rw [hg, Option.bind_some, hcs] at h
  obtain rfl := Option.some.inj h
  exact hcs
theorem tables_of_laid {W : World} (hsh : W.ShapedOpen Tryd.prog) (hL : laidMetH Tryd.prog Rows.archiveEncodesRow.laid W) : RowAt W 1 81 64 k0 ∧ RowAt W 0 72 8 s0 := by
  have h' : laidMet Tryd.prog [("bytes.ErrTooLarge", Rows.laid_bytes_ErrTooLarge), ("stillroom/digest.cubes", Lib.tabData .u32 kList), ("stillroom/digest.squares", Lib.tabData .u32 sList)] W := hL
  have hc := Lib.tabIs_of_head (show Tryd.prog.globalNamed "stillroom/digest.cubes" = some 1 by kernel_rfl) (show (Tryd.prog.globals[1]?).map (·.type) = some 81 by kernel_rfl) Tryd.underlying81 Tryd.underlying71 (by kernel_rfl) (by kernel_rfl) h'.tail
  have hs := Lib.tabIs_of_head (show Tryd.prog.globalNamed "stillroom/digest.squares" = some 0 by kernel_rfl) (show (Tryd.prog.globals[0]?).map (·.type) = some 72 by kernel_rfl) Tryd.underlying72 Tryd.underlying71 (by kernel_rfl) (by kernel_rfl) h'.tail.tail
  have e1 := row_of_tab (g := 1) (zero := arr 64 fun _ => 0) (t := 81) hsh hc (by kernel_rfl) (of_decide_eq_true (by kernel_rfl)) (by kernel_rfl)
  have e2 := row_of_tab (g := 0) (zero := arr 8 fun _ => 0) (t := 72) hsh hs (by kernel_rfl) (of_decide_eq_true (by kernel_rfl)) (by kernel_rfl)
  have a1 : (kList.map fun z => Value.int .u32 z).toArray = arr 64 k0 := by kernel_rfl
  have a2 : (sList.map fun z => Value.int .u32 z).toArray = arr 8 s0 := by kernel_rfl
  exact ⟨by unfold RowAt; rw [e1, a1], by unfold RowAt; rw [e2, a2]⟩
set_option maxRecDepth 100000 in
theorem contract (H : Type) (enc : TypeId × Value → H) (W : World) (base : Nat) (args : Array Value) (ds gs : List (DataW H)) (before : List MemPlace)
    (hval : ∀ (j : Nat) t v, Tryd.f3.params[j]? = some t → args[j]? = some v → Value.okWide Tryd.prog W .any base t v)
    (hW : DataW.Whole enc Tryd.prog Tryd.f3.params.toList Rows.archiveEncodesSpec.vars false W args.toList ds gs before) (hsz0 : (DataW.weightsEach Tryd.prog (Tryd.f3.params.toList ++ Rows.archiveEncodesSpec.plain.varTypes Tryd.prog) (ds ++ gs)).all (· ≤ reachBytes) = true) (hL : laidMetH Tryd.prog Rows.archiveEncodesRow.laid W) (hsh : W.ShapedOpen Tryd.prog) :
    Calls Tryd.prog 3 args W fun e W' => ∃ v, e = .returned v ∧ Rows.archiveEncodesSpec.post enc Tryd.prog Tryd.f3 false true false false W args v W' := by
  have hsz := hsz0
  have hW' := hW
  obtain ⟨p, q, hA0, hV, rfl, hfz, hnd⟩ := hW
  have hA : DataW.TrodAll enc Tryd.prog W 0 (fun _ => true) true Tryd.f3.params.toList args.toList ds p := hA0
  rw [Tryd.params3] at hA hval hsz
  obtain ⟨v0, vs0, d0, ds0, p0, q0, hargs, rfl, rfl, h0, r0⟩ := trodAll_cons hA
  obtain ⟨rfl, rfl, rfl⟩ := trodAll_nil r0
  obtain rfl : args = #[v0] := by cases args; simp_all
  obtain ⟨rfl, rfl⟩ := trodVars_none hV
  obtain ⟨cs, rfl, _⟩ := okWide_struct Tryd.underlying26 (hval 0 26 v0 rfl rfl)
  have k0' := h0
  have lt0 : ∀ x ∈ p0, x.block < W.heap.size := by obtain ⟨m, hm⟩ := k0'; exact DataW.trod_lt m _ _ _ hm
  obtain ⟨x, hx, hf⟩ : ∃ x, k26.K W x cs.toList ∧ fits x := by
    obtain ⟨fuel, hf⟩ := h0
    exact node_opn fuel H enc W _ _ _ _ _ hf (by
      have z := hsz
      simp only [List.cons_append, List.nil_append, DataW.weightsEach, List.all_append, Bool.and_eq_true] at z
      exact z.1)
  clear hA0 hsz0 hsz
  obtain ⟨t1, t2⟩ := tables_of_laid hsh hL
  have hw := law_walk W x cs.toList hx hf t1 t2
  rw [Array.toArray_toList] at hw
  refine hw.mono fun e W' ⟨he, bel⟩ => ?_
  subst he
  exact ⟨_, rfl, _, _, _, [], _, [], hW', trodAll_mk1 (shut_bool Tryd.underlying4 _), (trodAll_cons_mk (Below.trod archiveEncodes_laidOut (by kernel_rfl) (of_decide_eq_true (by kernel_rfl)) k0' bel lt0) trodAll_mk0), rfl, bel.frame _, fun h => by cases h⟩
theorem wit_met (os : Os) (args : Array Value) : laidMetH Tryd.prog Rows.archiveEncodesRow.laid ((World.doorLaid Tryd.prog 38 os).forCall (fun _ _ => 0) ⟨#[], args, []⟩).memory :=
  laidMetH_of_parts3 (fuel := 8) (laidMet_of_run' 8 (by kernel_rfl) (by kernel_rfl)) (by kernel_rfl) (by kernel_rfl)
set_option maxRecDepth 100000 in
theorem archiveEncodes_lifted (os : Os) (started : os.Started) (H : Type) (enc : TypeId × Value → H) (F : Stop.Interp) :
    ReturnsInHanded {} Tryd.checked os 3 .any ((OpenSpec.ofChange Rows.archiveEncodesSpec).preRow enc Tryd.prog Tryd.f3 Rows.archiveEncodesRow.domain false Rows.archiveEncodesRow.laid) (((OpenSpec.ofChange Rows.archiveEncodesSpec).at F).post enc Tryd.prog Tryd.f3 false true false false) := by
  refine returnsInHanded_of_row (C := Tryd.checked) (s := OpenSpec.ofChange Rows.archiveEncodesSpec) archiveEncodes_own started (by kernel_rfl) Tryd.func3
    (witness_row_atRef (enc := enc) (C := Tryd.checked) false (World.doorLaid Tryd.prog 38 os) #[.agg #[.int .i64 0, .bool false, .slice none 0 0, .slice none 0 0, .slice none 0 0]] rfl (by kernel_rfl) (by kernel_rfl) (by kernel_rfl)
      (OpenSpec.preRow_of_B rfl 8 (by kernel_rfl) (by kernel_rfl) (wit_met os _))) ?_
  intro W base args ds gs before hval hW _ _ hsz hL hsh _
  exact contract H enc W base args ds gs before hval hW hsz hL hsh
theorem archiveEncodes_holds : Rows.ArchiveEncodesSaid :=
  OpenClaim.holds_of_cond 3 Tryd.f3 rfl rfl rfl rfl rfl rfl rfl ⟨rfl, rfl, rfl, rfl, rfl⟩ rfl rfl rfl rfl rfl (by kernel_rfl) Tryd.func3 (by kernel_rfl)
    (of_decide_eq_true (by kernel_rfl)) (by unfold Func.isWrapper; first | (rw [if_pos (by decide +kernel)]; kernel_rfl) | (rw [if_neg (by decide +kernel)]; exact ⟨rfl, rfl⟩))
    (fun os started H enc _ F => by rw [OpenClaim.pre_eq_preRow]; exact archiveEncodes_lifted os started H enc F)
theorem archiveEncodes_plain (f : FuncId) (fn : Func) (hf : Tryd.pinned.checked.prog.funcNamed "stillroom/stillroomlaw07.ArchiveEncodes" = some f) (hfn : Tryd.pinned.checked.prog.funcs[f]? = some fn) :
    false = Tryd.pinned.checked.prog.looks [] ∧ ∀ (j : Nat) t, fn.params[j]? = some t → Tryd.pinned.checked.prog.wantsStandIn t = false := by
  obtain rfl : f = 3 := Option.some.inj ((show Tryd.prog.funcNamed "stillroom/stillroomlaw07.ArchiveEncodes" = some 3 by kernel_rfl).symm.trans hf) |>.symm
  obtain rfl : fn = Tryd.f3 := (Option.some.inj (Tryd.func3.symm.trans hfn)).symm
  refine ⟨by kernel_rfl, fun j t ht => ?_⟩
  rw [Tryd.params3] at ht
  obtain rfl : t = 26 := by simpa using Array.mem_of_getElem? ht
  exact (show Tryd.prog.wantsStandIn 26 = false by kernel_rfl)
theorem archiveEncodes_card : Rows.ArchiveEncodesCardSaid :=
  Claim7.holds_tied_plain_at .later [] _ _ _ _ archiveEncodes_holds (fun _ h => by cases h) (by kernel_rfl) (fun _ h => by cases h) archiveEncodes_row_tie rfl ⟨rfl, rfl⟩ (by kernel_rfl) rfl archiveEncodes_plain (by kernel_rfl)
#print axioms archiveEncodes_card
end Go.Proofs.YtepdnknhejjgnaaDoor
