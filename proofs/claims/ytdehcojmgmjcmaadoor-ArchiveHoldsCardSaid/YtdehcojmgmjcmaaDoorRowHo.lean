/- ArchiveHolds: a file's bytes stand in its archive, whose length is a multiple of 8; any one bit that is turned is found out, or makes another node: for any bytes, any mark and any number the law returns true and changes nothing that it was given. The listed variables are laid as the program's text lays them (tied). No further condition. -/
import Derived.Test.YtdehcojmgmjcmaaDoorRows
import Derived.WalkKit
import Derived.ProofKit
import Derived.OpenShut
import Derived.ShutString
import Derived.ChangeOld
import Derived.Below
import Derived.SizedLaws
import Derived.LaidMore
import Derived.ChangeSame
import Derived.ChangeVars
import Derived.JoinedOf
import Derived.LaidLaws
import Derived.LaidHandle
import Derived.Lay
import Derived.Stop.Joined
import Derived.Stop.LaidErr
import Derived.SevenTiedAt
import Derived.Deep.DeepHandedRow
import Derived.Deep.DeepWitnessRowRef
import Derived.Test.YtdehcojmgmjcmaaDoorCards
import Derived.Test.YtdehcojmgmjcmaaDoorTie
import Derived.Test.YtdehcojmgmjcmaaDoorRe
import Derived.Test.YtdehcojmgmjcmaaDoorRg
namespace Go.Proofs.YtdehcojmgmjcmaaDoor
open Go.ChangeShapes Go.WideShapes Go.ChangeAt Go.RowKit
open Go.ChangeMaps (open_string shut_string)
open Go.Proofs.YtdehcojmgmjcmaaDoor.QArchiveBack Go.Proofs.YtdehcojmgmjcmaaDoorW.PrintWords
set_option linter.unusedVariables false
theorem archiveHolds_own : ownKnob Tryd.prog.godebug = none := by kernel_rfl
theorem archiveHolds_laidOut : laidOutB Tryd.prog = true := by kernel_rfl
theorem archiveHolds_et : Tryd.prog.globalNamed "errors.errorType" = some 0 := by kernel_rfl
theorem archiveHolds_rt : (Tryd.prog.cutTypes.find? (·.1 == "internal/reflectlite.rtype")).map (·.2) = some 93 := by kernel_rfl
theorem archiveHolds_size : Tryd.prog.types.size = 163 := by kernel_rfl
theorem archiveHolds_oneRow : ((List.range 163).filter fun t => Tryd.prog.rowNamed t [101, 114, 114, 111, 114]) = [50] := by kernel_rfl
/-- what the condition gives a walk: the variable's one cell -/
theorem archiveHolds_handle {W : World} (h : laidMetH Tryd.prog Rows.archiveHoldsRow.laid W) : W.cell? ⟨0, 0, none⟩ = some (.iface 93 (.agg #[.pointer (some ⟨4, 50, none⟩)])) := by
  have h' : laidMet Tryd.prog (Rows.archiveHoldsRow.laid.filter fun x => x.2.handleName?.isNone) W ∧ handlesMet Tryd.prog [("errors.errorType", Rows.laid_errors_errorType)] W := h
  obtain ⟨name, u, ty, e1, e2, e3, e4, e5⟩ := h'.2 _ (List.mem_singleton.2 rfl)
  have en : name = [101, 114, 114, 111, 114] := (Option.some.inj e1).symm
  subst en
  obtain rfl := Option.some.inj (archiveHolds_rt.symm.trans e2)
  have hm : ty ∈ (List.range 163).filter fun t => Tryd.prog.rowNamed t [101, 114, 114, 111, 114] := List.mem_filter.2 ⟨List.mem_range.2 (by rw [← archiveHolds_size]; exact e3), e4⟩
  rw [archiveHolds_oneRow] at hm
  obtain rfl := List.mem_singleton.1 hm
  have hh : typeHandle Tryd.prog 50 = .pointer (some ⟨4, 50, none⟩) := by kernel_rfl
  rw [hh] at e5
  simpa using World.var?_cell archiveHolds_et e5 0
theorem inB_wf {zs : List Int} (h : ∀ z ∈ zs, (Lit.int .u8 z).wf = true) : inB zs := fun z hz => by
  have := h z hz
  simp only [Lit.wf, Bool.and_eq_true, decide_eq_true_eq] at this
  have h0 : IntKind.u8.min = 0 := by decide
  have h1 : IntKind.u8.max = 255 := by decide
  omega
set_option maxRecDepth 100000 in
theorem contract (H : Type) (enc : TypeId × Value → H) (W : World) (base : Nat) (args : Array Value) (ds gs : List (DataW H)) (before : List MemPlace)
    (hval : ∀ (j : Nat) t v, Tryd.f4.params[j]? = some t → args[j]? = some v → Value.okWide Tryd.prog W .any base t v)
    (hW : DataW.Whole enc Tryd.prog Tryd.f4.params.toList Rows.archiveHoldsSpec.vars false W args.toList ds gs before) (hsz0 : (DataW.weightsEach Tryd.prog (Tryd.f4.params.toList ++ Rows.archiveHoldsSpec.plain.varTypes Tryd.prog) (ds ++ gs)).all (· ≤ reachBytes) = true) (hL : laidMetH Tryd.prog Rows.archiveHoldsRow.laid W) (hsh : W.ShapedOpen Tryd.prog) :
    Calls Tryd.prog 4 args W fun e W' => ∃ v, e = .returned v ∧ Rows.archiveHoldsSpec.post enc Tryd.prog Tryd.f4 false true false false W args v W' := by
  have hsz := hsz0
  have hW' := hW
  obtain ⟨p, q, hA0, hV, rfl, hfz, hnd⟩ := hW
  have hA : DataW.TrodAll enc Tryd.prog W 0 (fun _ => true) true Tryd.f4.params.toList args.toList ds p := hA0
  rw [Tryd.params4] at hA hval hsz
  obtain ⟨v0, vs0, d0, ds0, p0, q0, hargs, rfl, rfl, h0, r0⟩ := trodAll_cons hA
  obtain ⟨v1, vs1, d1, ds1, p1, q1, rfl, rfl, rfl, h1, r1⟩ := trodAll_cons r0
  obtain ⟨v2, vs2, d2, ds2, p2, q2, rfl, rfl, rfl, h2, r2⟩ := trodAll_cons r1
  obtain ⟨rfl, rfl, rfl⟩ := trodAll_nil r2
  obtain rfl : args = #[v0, v1, v2] := by cases args; simp_all
  obtain ⟨rfl, rfl⟩ := trodVars_none hV
  obtain ⟨a0, len0, cap0, rfl⟩ := okWide_slice Tryd.underlying22 (hval 0 22 v0 rfl rfl)
  have k0 := h0
  have lt0 : ∀ x ∈ p0, x.block < W.heap.size := by obtain ⟨m, hm⟩ := k0; exact DataW.trod_lt m _ _ _ hm
  obtain ⟨z0, hC0, hc0, hz0⟩ : ∃ zs, Kd.C (Kd.int .u8) W a0 len0 zs ∧ len0 ≤ cap0 ∧ ∀ z ∈ zs, (Lit.int .u8 z).wf = true := by
    obtain ⟨fuel, hf⟩ := h0
    obtain ⟨zs, ⟨A', c', e', l', g'⟩, _, hw⟩ := opn_slice (d := Kd.int .u8) (fuel := fuel) Tryd.underlying22 (by rw [node_sizes.1]; rfl) (fun m _ => opn_int Tryd.underlying5 m) H enc W _ _ _ _ _ hf (by
      have hz := hsz
      simp only [List.cons_append, List.nil_append, DataW.weightsEach, List.all_append, Bool.and_eq_true] at hz
      exact hz.1)
    simp only [Value.cells, List.cons.injEq, Value.slice.injEq, and_true] at e'
    obtain ⟨rfl, rfl, rfl⟩ := e'
    exact ⟨zs, g', l', hw⟩
  obtain ⟨b1, rfl, rfl, rfl⟩ := open_bool Tryd.underlying4 (hval 1 4 v1 rfl rfl) h1
  obtain ⟨n2, rfl, rfl, rfl, w2⟩ := open_int Tryd.underlying3 (hval 2 3 v2 rfl rfl) h2
  clear hA0 hsz0 hsz
  have hg := archiveHolds_handle hL
  have hw := holds_walk W a0 len0 cap0 z0 b1 n2 hC0 hc0 (inB_wf hz0) w2 hg
  refine hw.mono fun e W' ⟨he, bel⟩ => ?_
  subst he
  exact ⟨_, rfl, _, _, _, [], _, [], hW', trodAll_mk1 (shut_bool Tryd.underlying4 _), (trodAll_cons_mk (Below.trod archiveHolds_laidOut (by kernel_rfl) (of_decide_eq_true (by kernel_rfl)) k0 bel lt0) (trodAll_cons_mk (shut_bool Tryd.underlying4 _) (trodAll_cons_mk (shut_int Tryd.underlying3 w2) trodAll_mk0))), rfl, bel.frame _, fun h => by cases h⟩
/-- a world for the witness: what the door lays, and the great tables by the function -/
noncomputable def witWorld (os : Os) : World := (World.doorLaid Tryd.prog 45 os).layVars Tryd.prog (Rows.archiveHoldsRow.laid.filter fun x => x.2.handleName?.isNone)
theorem wit_os (os : Os) : (witWorld os).os = os := (World.layVars_os _ _ _).trans rfl
theorem wit_met (os : Os) : laidMetH Tryd.prog Rows.archiveHoldsRow.laid (witWorld os) := by
  refine laidMetH_of_parts3 (fuel := 8) ?_ (by kernel_rfl) (by kernel_rfl)
  have e1 : ∀ l : List (String × DataW Unit), (l.filter fun x => (l.map (·.1)).contains x.1) = l := fun l => List.filter_eq_self.2 fun x hx => List.contains_iff_mem.2 (List.mem_map.2 ⟨x, hx, rfl⟩)
  have e2 : ∀ l : List (String × DataW Unit), (l.filter fun x => !(l.map (·.1)).contains x.1) = [] := fun l => List.filter_eq_nil_iff.2 fun x hx => by rw [List.contains_iff_mem.2 (List.mem_map.2 ⟨x, hx, rfl⟩)]; simp
  exact laidMet_layVars (w0 := World.doorLaid Tryd.prog 45 os) ((Rows.archiveHoldsRow.laid.filter fun x => x.2.handleName?.isNone).map (·.1)) [] (by rw [e1]; rfl) (by rw [e1]; kernel_rfl) (by rw [e1]; kernel_rfl) (by rw [e2]; exact LaidIn.none)
theorem wit_met2 (os : Os) (args : Array Value) : laidMetH Tryd.prog Rows.archiveHoldsRow.laid ((witWorld os).forCall (fun _ _ => 0) ⟨#[], args, []⟩).memory :=
  (wit_met os).of_heap (by simp [World.memory, World.forCall, Input.heap])
set_option maxRecDepth 100000 in
theorem archiveHolds_lifted (os : Os) (started : os.Started) (H : Type) (enc : TypeId × Value → H) (F : Stop.Interp) :
    ReturnsInHanded {} Tryd.checked os 4 .any ((OpenSpec.ofChange Rows.archiveHoldsSpec).preRow enc Tryd.prog Tryd.f4 Rows.archiveHoldsRow.domain false Rows.archiveHoldsRow.laid) (((OpenSpec.ofChange Rows.archiveHoldsSpec).at F).post enc Tryd.prog Tryd.f4 false true false false) := by
  refine returnsInHanded_of_row (C := Tryd.checked) (s := OpenSpec.ofChange Rows.archiveHoldsSpec) archiveHolds_own started (by kernel_rfl) Tryd.func4
    (witness_row_atRef (enc := enc) (C := Tryd.checked) false (witWorld os) #[.slice none 0 0, .bool false, .int .i64 0] (wit_os os) (by kernel_rfl) (by kernel_rfl) (by kernel_rfl)
      (OpenSpec.preRow_of_B rfl 8 (by kernel_rfl) (by kernel_rfl) (wit_met2 os _))) ?_
  intro W base args ds gs before hval hW _ _ hsz hL hsh _
  exact contract H enc W base args ds gs before hval hW hsz hL hsh
theorem archiveHolds_holds : Rows.ArchiveHoldsSaid :=
  OpenClaim.holds_of_cond 4 Tryd.f4 rfl rfl rfl rfl rfl rfl rfl ⟨rfl, rfl, rfl, rfl, rfl⟩ rfl rfl rfl rfl rfl (by kernel_rfl) Tryd.func4 (by kernel_rfl)
    (of_decide_eq_true (by kernel_rfl)) (by unfold Func.isWrapper; first | (rw [if_pos (by decide +kernel)]; kernel_rfl) | (rw [if_neg (by decide +kernel)]; exact ⟨rfl, rfl⟩))
    (fun os started H enc _ F => by rw [OpenClaim.pre_eq_preRow]; exact archiveHolds_lifted os started H enc F)
theorem archiveHolds_plain (f : FuncId) (fn : Func) (hf : Tryd.pinned.checked.prog.funcNamed "stillroom/stillroomlaw07.ArchiveHolds" = some f) (hfn : Tryd.pinned.checked.prog.funcs[f]? = some fn) :
    true = Tryd.pinned.checked.prog.looks [] ∧ ∀ (j : Nat) t, fn.params[j]? = some t → Tryd.pinned.checked.prog.wantsStandIn t = false := by
  obtain rfl : f = 4 := Option.some.inj ((show Tryd.prog.funcNamed "stillroom/stillroomlaw07.ArchiveHolds" = some 4 by kernel_rfl).symm.trans hf) |>.symm
  obtain rfl : fn = Tryd.f4 := (Option.some.inj (Tryd.func4.symm.trans hfn)).symm
  refine ⟨by kernel_rfl, fun j t ht => ?_⟩
  rw [Tryd.params4] at ht
  have hm : ∀ t ∈ #[22, 4, 3], Tryd.prog.wantsStandIn t = false := by
    intro t ht
    simp only [List.mem_toArray, List.mem_cons, List.not_mem_nil, or_false] at ht
    rcases ht with rfl | rfl | rfl <;> kernel_rfl
  exact hm t (Array.mem_of_getElem? ht)
theorem archiveHolds_card : Rows.ArchiveHoldsCardSaid :=
  Claim7.holds_tied_plain_at .later [] _ _ _ _ archiveHolds_holds (fun _ h => by cases h) (by kernel_rfl) (fun _ h => by cases h) archiveHolds_row_tie rfl ⟨rfl, rfl⟩ (by kernel_rfl) rfl archiveHolds_plain (by kernel_rfl)
#print axioms archiveHolds_card
end Go.Proofs.YtdehcojmgmjcmaaDoor
