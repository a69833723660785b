/- TreeNobody: trees that no call made, and what has no disk, show nothing: for every path of which, with what the reading takes, at most 1048576 values and letters are read, the law returns true and changes nothing that it was given. The listed tables are laid as the program's text lays them (tied). -/
import Derived.Test.YtbomnilpffgdhaaGreatDoorRows
import Derived.WalkKit
import Derived.ProofKit
import Derived.OpenShut
import Derived.ShutString
import Derived.ChangeOld
import Derived.Below
import Derived.LaidMore
import Derived.ChangeSame
import Derived.ChangeVars
import Derived.JoinedOf
import Derived.LaidLaws
import Derived.LaidHandle
import Derived.Lay
import Derived.Stop.Joined
import Derived.SevenTiedAt
import Derived.Deep.DeepHandedRow
import Derived.Deep.DeepWitnessRowRef
import Derived.Test.YtbomnilpffgdhaaGreatDoorCards
import Derived.Test.YtbomnilpffgdhaaGreatDoorTie
import Derived.Test.YtbomnilpffgdhaaGreatDoorLawTn
namespace Go.Proofs.YtbomnilpffgdhaaGreatDoor
open Go.ChangeShapes Go.WideShapes Go.ChangeAt Go.RowKit
open Go.ChangeMaps (open_string shut_string)
set_option linter.unusedVariables false
theorem treeNobody_own : ownKnob Tryz.prog.godebug = none := by kernel_rfl
theorem bulk_string {H : Type} (bytes : List UInt8) (h : Rows.uptoSmall H ([DataW.lit (.string bytes)] ++ []) = true) : bytes.length ≤ 1048576 := by
  have h1 := of_decide_eq_true h
  simp only [List.append_nil, Rows.uptoBulkAll, Rows.uptoBulk] at h1
  omega
set_option maxRecDepth 100000 in
theorem contract (H : Type) (enc : TypeId × Value → H) (W : World) (base : Nat) (args : Array Value) (ds gs : List (DataW H)) (before : List MemPlace)
    (hval : ∀ (j : Nat) t v, Tryz.f3.params[j]? = some t → args[j]? = some v → Value.okWide Tryz.prog W .any base t v)
    (hW : DataW.Whole enc Tryz.prog Tryz.f3.params.toList Rows.treeNobodySpec.vars false W args.toList ds gs before) (hsh : W.ShapedOpen Tryz.prog) (Q : List (DataW H) → Prop) (hQ : ∀ bytes : List UInt8, Q ([DataW.lit (.string bytes)] ++ []) → bytes.length ≤ 1048576) (hb : Q (ds ++ gs)) :
    Calls Tryz.prog 3 args W fun e W' => ∃ v, e = .returned v ∧ Rows.treeNobodySpec.post enc Tryz.prog Tryz.f3 false true false false W args v W' := by
  have hW' := hW
  obtain ⟨p, q, hA0, hV, rfl, hfz, hnd⟩ := hW
  have hA : DataW.TrodAll enc Tryz.prog W 0 (fun _ => true) true Tryz.f3.params.toList args.toList ds p := hA0
  rw [Tryz.params3] at hA hval
  obtain ⟨v0, vs0, d0, ds0, p0, q0, hargs, rfl, rfl, h0, r0⟩ := trodAll_cons hA
  obtain ⟨rfl, rfl, rfl⟩ := trodAll_nil r0
  obtain rfl : args = #[v0] := by cases args; simp_all
  obtain ⟨rfl, rfl⟩ := trodVars_none hV
  obtain ⟨a0, rfl, rfl, rfl, w0⟩ := open_string Tryz.underlying9 (hval 0 9 v0 rfl rfl) h0
  have hl := hQ _ hb
  have hs : a0.size < 4294967281 := by
    have h1 : a0.data.toList.length = a0.size := by rw [Array.length_toList]; rfl
    omega
  clear hA0
  refine (nobody_walk a0 W hsh hs).mono fun e W' ⟨he, bel⟩ => ?_
  subst he
  exact ⟨_, rfl, _, _, _, [], _, [], hW', trodAll_mk1 (shut_bool Tryz.underlying4 _), (trodAll_cons_mk (shut_string Tryz.underlying9 w0) trodAll_mk0), rfl, bel.frame _, fun h => by cases h⟩
/-- a world for the witness: what the door lays, and the great tables by the function -/
noncomputable def witWorld (os : Os) : World := (World.doorLaid Tryz.prog 31 os).layVars Tryz.prog (Rows.treeNobodyUptoRow.laid.filter fun x => x.2.handleName?.isNone)
theorem wit_os (os : Os) : (witWorld os).os = os := (World.layVars_os _ _ _).trans rfl
theorem wit_met (os : Os) : laidMetH Tryz.prog Rows.treeNobodyUptoRow.laid (witWorld os) := by
  refine laidMetH_of_parts3 (fuel := 8) ?_ (by kernel_rfl) (by kernel_rfl)
  have e1 : ∀ l : List (String × DataW Unit), (l.filter fun x => (l.map (·.1)).contains x.1) = l := fun l => List.filter_eq_self.2 fun x hx => List.contains_iff_mem.2 (List.mem_map.2 ⟨x, hx, rfl⟩)
  have e2 : ∀ l : List (String × DataW Unit), (l.filter fun x => !(l.map (·.1)).contains x.1) = [] := fun l => List.filter_eq_nil_iff.2 fun x hx => by rw [List.contains_iff_mem.2 (List.mem_map.2 ⟨x, hx, rfl⟩)]; simp
  exact laidMet_layVars (w0 := World.doorLaid Tryz.prog 31 os) ((Rows.treeNobodyUptoRow.laid.filter fun x => x.2.handleName?.isNone).map (·.1)) [] (by rw [e1]; rfl) (by rw [e1]; kernel_rfl) (by rw [e1]; kernel_rfl) (by rw [e2]; exact LaidIn.none)
theorem wit_met2 (os : Os) (args : Array Value) : laidMetH Tryz.prog Rows.treeNobodyUptoRow.laid ((witWorld os).forCall (fun _ _ => 0) ⟨#[], args, []⟩).memory :=
  (wit_met os).of_heap (by simp [World.memory, World.forCall, Input.heap])
theorem wit_reads (os : Os) {H : Type} (enc : TypeId × Value → H) : ∃ places, DataW.whole enc Tryz.prog ((witWorld os).forCall (fun _ _ => 0) ⟨#[], #[.string ByteArray.empty], []⟩).memory Tryz.f3.params.toList Rows.treeNobodySpec.vars false #[Value.string ByteArray.empty].toList 8 = some ([.lit (.string [])], [], places) :=
  ⟨[], by kernel_rfl⟩
set_option maxRecDepth 100000 in
theorem treeNobody_lifted (os : Os) (started : os.Started) (H : Type) (enc : TypeId × Value → H) (F : Stop.Interp) :
    ReturnsInHanded {} Tryz.checked os 3 .any ((Rows.OpenSpec.upto Rows.treeNobodySpec).preRow enc Tryz.prog Tryz.f3 Rows.treeNobodyUptoRow.domain false Rows.treeNobodyUptoRow.laid) (((Rows.OpenSpec.upto Rows.treeNobodySpec).at F).post enc Tryz.prog Tryz.f3 false true false false) := by
  obtain ⟨places, hx⟩ := wit_reads os enc
  refine returnsInHanded_of_row (C := Tryz.checked) (s := Rows.OpenSpec.upto Rows.treeNobodySpec) treeNobody_own started (by kernel_rfl) Tryz.func3
    (witness_row_atRef (enc := enc) (C := Tryz.checked) false (witWorld os) #[.string ByteArray.empty] (wit_os os) (by kernel_rfl) (by kernel_rfl) (by kernel_rfl)
      (OpenSpec.preRow_of_cond 8 hx (by kernel_rfl) (fun k hk => by cases hk; kernel_rfl) (by kernel_rfl) (wit_met2 os _))) ?_
  intro W base args ds gs before hval hW _ hcond _ hL hsh _
  exact contract H enc W base args ds gs before hval hW hsh (fun l => Rows.uptoSmall H l = true) (fun b h => bulk_string b h) (hcond _ rfl)
theorem treeNobodyUpto_holds : Rows.TreeNobodyUptoSaid :=
  OpenClaim.holds_of_cond 3 Tryz.f3 rfl rfl rfl rfl rfl rfl rfl ⟨rfl, rfl, rfl, rfl, rfl⟩ rfl rfl rfl rfl rfl (by kernel_rfl) Tryz.func3 (by kernel_rfl)
    (of_decide_eq_true (by kernel_rfl)) (by unfold Func.isWrapper; first | (rw [if_pos (by decide +kernel)]; kernel_rfl) | (rw [if_neg (by decide +kernel)]; exact ⟨rfl, rfl⟩))
    (fun os started H enc _ F => by rw [OpenClaim.pre_eq_preRow]; exact treeNobody_lifted os started H enc F)
theorem treeNobody_plain (f : FuncId) (fn : Func) (hf : Tryz.pinned.checked.prog.funcNamed "stillroom/stillroomlaw06.TreeNobody" = some f) (hfn : Tryz.pinned.checked.prog.funcs[f]? = some fn) :
    true = Tryz.pinned.checked.prog.looks [] ∧ ∀ (j : Nat) t, fn.params[j]? = some t → Tryz.pinned.checked.prog.wantsStandIn t = false := by
  obtain rfl : f = 3 := Option.some.inj ((show Tryz.prog.funcNamed "stillroom/stillroomlaw06.TreeNobody" = some 3 by kernel_rfl).symm.trans hf) |>.symm
  obtain rfl : fn = Tryz.f3 := (Option.some.inj (Tryz.func3.symm.trans hfn)).symm
  refine ⟨by kernel_rfl, fun j t ht => ?_⟩
  rw [Tryz.params3] at ht
  obtain rfl : t = 9 := by simpa using Array.mem_of_getElem? ht
  exact (show Tryz.prog.wantsStandIn 9 = false by kernel_rfl)
theorem treeNobodyUpto_card : Rows.TreeNobodyUptoCardSaid :=
  Claim7.holds_tied_plain_at .later [] _ _ _ _ treeNobodyUpto_holds (fun _ h => by cases h) (by kernel_rfl) (fun _ h => by cases h) treeNobodyUpto_row_tie rfl ⟨rfl, rfl⟩ (by kernel_rfl) rfl treeNobody_plain (by kernel_rfl)
#print axioms treeNobodyUpto_card
end Go.Proofs.YtbomnilpffgdhaaGreatDoor
