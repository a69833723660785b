/- ObjectNobody: objects that no call made, and what has no tree, have no paths: for every number the law returns true and changes nothing that it was given. The listed tables are laid as the program's text lays them (tied). No further condition. -/
import Derived.Test.YtecahdjopdfeeaaGreatDoorRows
import Derived.WalkKit
import Derived.ProofKit
import Derived.OpenShut
import Derived.ShutString
import Derived.ChangeOld
import Derived.Below
import Derived.LaidMore
import Derived.ChangeSame
import Derived.ChangeVars
import Derived.JoinedOf
import Derived.LaidLaws
import Derived.LaidHandle
import Derived.Lay
import Derived.Stop.Joined
import Derived.SevenTiedAt
import Derived.Deep.DeepHandedRow
import Derived.Deep.DeepWitnessRowRef
import Derived.Test.YtecahdjopdfeeaaGreatDoorCards
import Derived.Test.YtecahdjopdfeeaaGreatDoorTie
import Derived.Test.YtecahdjopdfeeaaGreatDoorOw
namespace Go.Proofs.YtecahdjopdfeeaaGreatDoor
open Go.ChangeShapes Go.WideShapes Go.ChangeAt Go.RowKit
open Go.ChangeMaps (open_string shut_string)
set_option linter.unusedVariables false
theorem objectNobody_own : ownKnob Tryz.prog.godebug = none := by kernel_rfl
theorem objectNobody_laidOut : laidOutB Tryz.prog = true := by kernel_rfl
set_option maxRecDepth 100000 in
theorem contract (H : Type) (enc : TypeId × Value → H) (W : World) (base : Nat) (args : Array Value) (ds gs : List (DataW H)) (before : List MemPlace)
    (hval : ∀ (j : Nat) t v, Tryz.f3.params[j]? = some t → args[j]? = some v → Value.okWide Tryz.prog W .any base t v)
    (hW : DataW.Whole enc Tryz.prog Tryz.f3.params.toList Rows.objectNobodySpec.vars false W args.toList ds gs before) (hsh : W.ShapedOpen Tryz.prog) :
    Calls Tryz.prog 3 args W fun e W' => ∃ v, e = .returned v ∧ Rows.objectNobodySpec.post enc Tryz.prog Tryz.f3 false true false false W args v W' := by
  have hW' := hW
  obtain ⟨p, q, hA0, hV, rfl, hfz, hnd⟩ := hW
  have hA : DataW.TrodAll enc Tryz.prog W 0 (fun _ => true) true Tryz.f3.params.toList args.toList ds p := hA0
  rw [Tryz.params3] at hA hval
  obtain ⟨v0, vs0, d0, ds0, p0, q0, hargs, rfl, rfl, h0, r0⟩ := trodAll_cons hA
  obtain ⟨rfl, rfl, rfl⟩ := trodAll_nil r0
  obtain rfl : args = #[v0] := by cases args; simp_all
  obtain ⟨rfl, rfl⟩ := trodVars_none hV
  obtain ⟨a0, rfl, rfl, rfl, w0⟩ := open_int Tryz.underlying3 (hval 0 3 v0 rfl rfl) h0
  clear hA0
  refine (onobody_walk a0 W hsh).mono fun e W' ⟨he, bel⟩ => ?_
  subst he
  exact ⟨_, rfl, _, _, _, [], _, [], hW', trodAll_mk1 (shut_bool Tryz.underlying4 _), (trodAll_cons_mk (shut_int Tryz.underlying3 w0) trodAll_mk0), rfl, bel.frame _, fun h => by cases h⟩
/-- a world for the witness: what the door lays, and the great tables by the function -/
noncomputable def witWorld (os : Os) : World := (World.doorLaid Tryz.prog 65 os).layVars Tryz.prog (Rows.objectNobodyRow.laid.filter fun x => x.2.handleName?.isNone)
theorem wit_os (os : Os) : (witWorld os).os = os := (World.layVars_os _ _ _).trans rfl
theorem wit_met (os : Os) : laidMetH Tryz.prog Rows.objectNobodyRow.laid (witWorld os) := by
  refine laidMetH_of_parts3 (fuel := 8) ?_ (by kernel_rfl) (by kernel_rfl)
  have e1 : ∀ l : List (String × DataW Unit), (l.filter fun x => (l.map (·.1)).contains x.1) = l := fun l => List.filter_eq_self.2 fun x hx => List.contains_iff_mem.2 (List.mem_map.2 ⟨x, hx, rfl⟩)
  have e2 : ∀ l : List (String × DataW Unit), (l.filter fun x => !(l.map (·.1)).contains x.1) = [] := fun l => List.filter_eq_nil_iff.2 fun x hx => by rw [List.contains_iff_mem.2 (List.mem_map.2 ⟨x, hx, rfl⟩)]; simp
  exact laidMet_layVars (w0 := World.doorLaid Tryz.prog 65 os) ((Rows.objectNobodyRow.laid.filter fun x => x.2.handleName?.isNone).map (·.1)) [] (by rw [e1]; rfl) (by rw [e1]; kernel_rfl) (by rw [e1]; kernel_rfl) (by rw [e2]; exact LaidIn.none)
theorem wit_met2 (os : Os) (args : Array Value) : laidMetH Tryz.prog Rows.objectNobodyRow.laid ((witWorld os).forCall (fun _ _ => 0) ⟨#[], args, []⟩).memory :=
  (wit_met os).of_heap (by simp [World.memory, World.forCall, Input.heap])
set_option maxRecDepth 100000 in
theorem objectNobody_lifted (os : Os) (started : os.Started) (H : Type) (enc : TypeId × Value → H) (F : Stop.Interp) :
    ReturnsInHanded {} Tryz.checked os 3 .any ((OpenSpec.ofChange Rows.objectNobodySpec).preRow enc Tryz.prog Tryz.f3 Rows.objectNobodyRow.domain false Rows.objectNobodyRow.laid) (((OpenSpec.ofChange Rows.objectNobodySpec).at F).post enc Tryz.prog Tryz.f3 false true false false) := by
  refine returnsInHanded_of_row (C := Tryz.checked) (s := OpenSpec.ofChange Rows.objectNobodySpec) objectNobody_own started (by kernel_rfl) Tryz.func3
    (witness_row_atRef (enc := enc) (C := Tryz.checked) false (witWorld os) #[.int .i64 0] (wit_os os) (by kernel_rfl) (by kernel_rfl) (by kernel_rfl)
      (OpenSpec.preRow_of_B rfl 8 (by kernel_rfl) (by kernel_rfl) (wit_met2 os _))) ?_
  intro W base args ds gs before hval hW _ _ _ hL hsh _
  exact contract H enc W base args ds gs before hval hW hsh
theorem objectNobody_holds : Rows.ObjectNobodySaid :=
  OpenClaim.holds_of_cond 3 Tryz.f3 rfl rfl rfl rfl rfl rfl rfl ⟨rfl, rfl, rfl, rfl, rfl⟩ rfl rfl rfl rfl rfl (by kernel_rfl) Tryz.func3 (by kernel_rfl)
    (of_decide_eq_true (by kernel_rfl)) (by unfold Func.isWrapper; first | (rw [if_pos (by decide +kernel)]; kernel_rfl) | (rw [if_neg (by decide +kernel)]; exact ⟨rfl, rfl⟩))
    (fun os started H enc _ F => by rw [OpenClaim.pre_eq_preRow]; exact objectNobody_lifted os started H enc F)
theorem objectNobody_plain (f : FuncId) (fn : Func) (hf : Tryz.pinned.checked.prog.funcNamed "stillroom/stillroomlaw11.ObjectNobody" = some f) (hfn : Tryz.pinned.checked.prog.funcs[f]? = some fn) :
    true = Tryz.pinned.checked.prog.looks [] ∧ ∀ (j : Nat) t, fn.params[j]? = some t → Tryz.pinned.checked.prog.wantsStandIn t = false := by
  obtain rfl : f = 3 := Option.some.inj ((show Tryz.prog.funcNamed "stillroom/stillroomlaw11.ObjectNobody" = some 3 by kernel_rfl).symm.trans hf) |>.symm
  obtain rfl : fn = Tryz.f3 := (Option.some.inj (Tryz.func3.symm.trans hfn)).symm
  refine ⟨by kernel_rfl, fun j t ht => ?_⟩
  rw [Tryz.params3] at ht
  obtain rfl : t = 3 := by simpa using Array.mem_of_getElem? ht
  exact (show Tryz.prog.wantsStandIn 3 = false by kernel_rfl)
theorem objectNobody_card : Rows.ObjectNobodyCardSaid :=
  Claim7.holds_tied_plain_at .later [] _ _ _ _ objectNobody_holds (fun _ h => by cases h) (by kernel_rfl) (fun _ h => by cases h) objectNobody_row_tie rfl ⟨rfl, rfl⟩ (by kernel_rfl) rfl objectNobody_plain (by kernel_rfl)
#print axioms objectNobody_card
end Go.Proofs.YtecahdjopdfeeaaGreatDoor
