/- digest.Parse: which texts are digests. -/
import Derived.Test.YtcmlifbfegblgaaDoorBf
import Derived.Laws.Rows
import Derived.Laws.CopyOwn
import Derived.Laws.Cover3
namespace Go.Proofs.YtcmlifbfegblgaaDoor
set_option linter.unusedVariables false
set_option linter.unusedSimpArgs false
open Go.RowKit Go.Proofs.YtcmlifbfegblgaaDoorW.PrintWords Go.Proofs.YtcmlifbfegblgaaDoorW.PrintLast Go.Proofs.YtcmlifbfegblgaaDoorW.PrintMore

/-- May a text be a digest's? -/
def HashOk (s : ByteArray) : Prop := DecOk s ∧ 5 * s.size / 8 = 32

theorem run_loadVar_part (w : World) (g : Nat) (t ty : TypeId) (cur : Array Value) (cs : List Value) (fr : Nat × Nat) (d : TypeDesc) (hg : w.heap[g]? = some (.cells cur t fr)) (hcs : cur.toList.take cs.length = cs)
    {P : Program} (hu : P.underlying ty = some d) (hd : (match d with | .struct _ | .array _ _ => true | _ => false) = true) (hi : (P.info? ty).map (·.size) = some cs.length) :
    (loadVar ty ⟨g, 0, none⟩).run P w = .ok (.agg cs.toArray) w := by
  have hl : (loadCells ⟨g, 0, none⟩ cs.length).run P w = .ok cs.toArray w :=
    run_loadCells_list (P := P) w ⟨g, 0, none⟩ cs (fun j v hv => by
      have hadd : (⟨g, 0, none⟩ : Addr).add j = ⟨g, j, none⟩ := by unfold Addr.add; split <;> simp_all
      rw [hadd, cell_of_row w g j cur t fr hg]
      have h1 : j < cs.length := (List.getElem?_eq_some_iff.1 hv).1
      rw [← hcs, List.getElem?_take_of_lt h1] at hv
      simpa using hv)
  cases hq : P.info? ty with
  | none => simp [hq] at hi
  | some i =>
    have hs : i.size = cs.length := by simpa [hq] using hi
    have hagg : (isAgg ty).run P w = .ok true w := by
      unfold isAgg
      rw [Sem.run_bind, run_underlying hu w]
      cases d <;> simp_all
    simp [loadVar, Sem.run_bind, hagg, sizeOf, typeInfo, hq, hs, hl]
theorem results_cell2 {P : Program} {fn : Func} {tmps : Array Value} {a b : Nat} {t : TypeId} {p : Addr} {v : Value} {w : World} (hr : fn.results = #[.cell a t, .tmp b]) (hp : tmps.getD a undef = .pointer (some p)) (hl : (loadVar t p).run P w = .ok v w) : (results fn tmps).run P w = .ok (.tuple #[v, tmps.getD b undef]) w := by
  have hp' : tmps[a]?.getD undef = .pointer (some p) := by simpa using hp
  unfold results
  rw [hr]
  simp [hp', asAddr, Array.mapM_eq_foldlM, hl, Result.andThen]
theorem wpList_load_run {P : Program} {ops : Array Oper} {rest : List Oper} {o : Oper} {a : Act} {w : World} {Q : Exit → Act → World → Prop} (hgd : o.guard = none) (ty : TypeId) (x : Operand) (ho : o.op = .load ty x)
    (p : Addr) (hx : a.eval x = .pointer (some p)) (v : Value) (hl : (loadVar ty p).run P w = .ok v w) (h : wpList P ops Q rest (a.put o.dst v) w) : wpList P ops Q (o :: rest) a w :=
  wpList_plain hgd fun _ hK => by
    unfold Oper.wp execOp
    simp only [ho, hx, Instr.loadAt, Instr.sureAddr, Sem.run_bind, Sem.run_pure, Result.andThen_ok, hl]
    exact hK _ _ h
/-- Each cell one value. -/
def OneRow (d : Array Value) : Prop := d.all (·.oneCell') = true
def z32 : Array Value := #[Value.int IntKind.u8 0, Value.int IntKind.u8 0, Value.int IntKind.u8 0, Value.int IntKind.u8 0, Value.int IntKind.u8 0, Value.int IntKind.u8 0, Value.int IntKind.u8 0, Value.int IntKind.u8 0, Value.int IntKind.u8 0, Value.int IntKind.u8 0, Value.int IntKind.u8 0, Value.int IntKind.u8 0, Value.int IntKind.u8 0, Value.int IntKind.u8 0, Value.int IntKind.u8 0, Value.int IntKind.u8 0, Value.int IntKind.u8 0, Value.int IntKind.u8 0, Value.int IntKind.u8 0, Value.int IntKind.u8 0, Value.int IntKind.u8 0, Value.int IntKind.u8 0, Value.int IntKind.u8 0, Value.int IntKind.u8 0, Value.int IntKind.u8 0, Value.int IntKind.u8 0, Value.int IntKind.u8 0, Value.int IntKind.u8 0, Value.int IntKind.u8 0, Value.int IntKind.u8 0, Value.int IntKind.u8 0, Value.int IntKind.u8 0]
theorem z32_one : z32.all (·.oneCell') = true := by decide +kernel
theorem setRow_at {w : World} {g : Nat} {old : Array Value} {t : TypeId} (cs : Array Value) (h : w.heap[g]? = some (.cells old t (0, 0))) : (w.setRow g cs).heap[g]? = some (.cells cs t (0, 0)) := setRow_heap w g _ cs t _ h
set_option maxHeartbeats 4000000 in
set_option maxRecDepth 100000 in
theorem dparse_of (s : ByteArray) (w : World) (hs : s.size ≤ 16777216) (T : Tabs w) :
    Calls Tryd.prog 34 #[.string s] w fun e w' => ∃ (d : Array Value) (x : Int), e = .returned (.tuple #[.agg d, .int .i64 x]) ∧ d.size = 32 ∧ OneRow d ∧ Below w.heap.size w w' ∧ (x = 0 ↔ HashOk s) := by
  have HT := Lib.hid T
  have HS := Lib.hid hs
  clear T hs
  go_enter Tryd.func34, Tryd.ntmps34
  go_wp2_with (go_at_call 58; refine (decode_of s _ HS.out (HT.out.of ((Below.refl _ _).alloc (Nat.le_refl _) _))).mono ?_; rintro e w' ⟨v, x, rfl, hb, hd⟩; refine Hid.out ?_)
  refine Lib.hid ?_
  have hz : w'.heap[w.heap.size]? = some (.cells z32 69 (0, 0)) := (hb.block _ (by simp)).trans (heap_alloc_new w _)
  have HB := Lib.hid (show Below w.heap.size w w' from ((Below.refl _ _).alloc (Nat.le_refl _) _).trans (hb.mono (by simp)))
  have HA := Lib.hid (show w.heap.size + 1 ≤ w'.heap.size by have := hb.size; simpa using this)
  have HZ := Lib.hid hz
  clear hb hz
  have info69 : (Tryd.prog.info? 69).map (·.size) = some 32 := by kernel_rfl
  have HI := Lib.hid info69
  clear info69
  rcases hd with ⟨hno, rfl⟩ | ⟨hok, rfl, l, hl, how, hint⟩
  · go_wp2_with (refine wpList_store_row rfl 69 _ _ rfl w.heap.size z32 rfl rfl 69 _ HZ.out HI.out rfl z32_one ?_)
    have HN := Lib.hid (setRow_at z32 HZ.out)
    refine bodyPost_ret (results_cell2 Tryd.results34 rfl (run_loadVar_row (P := Tryd.prog) _ _ 69 69 z32 (0, 0) _ HN.out Tryd.underlying69 rfl HI.out)) rfl ?_
    refine ⟨_, _, rfl, rfl, z32_one, below_setRow HB.out (Nat.le_refl _) _, ?_⟩
    constructor
    · intro h; omega
    · intro h; exact absurd h.1 hno
  · by_cases h32 : l.length = 32
    · obtain ⟨g, cap, cur, rfl, h1, h2, h3, h4, h5, h6⟩ : ∃ g cap cur, v = .slice (some ⟨g, 0, none⟩) 32 cap ∧ w.heap.size + 1 ≤ g ∧ w'.heap[g]? = some (.cells cur 5 (0, 0)) ∧ l.length ≤ cap ∧ cap ≤ maxLen ∧ cur.size = cap * 1 ∧ cur.toList.take (l.length * 1) = l := by
        rcases how.2 with ⟨rfl, h⟩ | ⟨g, cap, cur, rfl, h1, h2⟩
        · omega
        · exact ⟨g, cap, cur, by rw [h32], by simpa using h1, h2⟩
      have hl32 := Lib.hid (show 5 * s.size / 8 = 32 by omega)
      clear hl
      have harr : ∀ W : World, (Instr.arrayAt 69 (.slice (some ⟨g, 0, none⟩) 32 cap)).run Tryd.prog W = .ok (.pointer (some ⟨g, 0, none⟩)) W := by
        intro W
        exact run_arrayAt (P := Tryd.prog) _ 69 5 32 _ 32 cap Tryd.underlying69 (Nat.le_refl _)
      have hone : l.toArray.all (·.oneCell') = true := by
        rw [List.all_toArray, List.all_eq_true]
        intro y hy
        obtain ⟨z, rfl⟩ := hint y hy
        rfl
      have hld := run_loadVar_part (P := Tryd.prog) w' g 5 69 cur l (0, 0) _ h2 (by simpa using h6) Tryd.underlying69 rfl (by rw [h32]; exact HI.out)
      have HLd := Lib.hid hld
      have HOne := Lib.hid hone
      have hcap : ¬ cap < 32 := by omega
      have h32x := Lib.hid h32
      have HS1 := Lib.hid (show (Tryd.prog.info? 69).map (·.size) = some l.toArray.size by rw [List.size_toArray, h32]; exact HI.out)
      have HS2 := Lib.hid (show z32.size = l.toArray.size from (show z32.size = 32 from rfl).trans (h32.symm.trans (List.size_toArray ..).symm))
      clear h32
      clear hld hone h2 h4 h5 h6 hint how h3
      go_wp2_with (first | (refine wpList_load_run rfl 69 _ rfl ⟨g, 0, none⟩ rfl (.agg l.toArray) HLd.out ?_) | (refine wpList_store_row rfl 69 _ _ rfl w.heap.size l.toArray rfl rfl 69 _ HZ.out HS1.out HS2.out HOne.out ?_))
      have HN := Lib.hid (setRow_at l.toArray HZ.out)
      refine bodyPost_ret (results_cell2 Tryd.results34 rfl (run_loadVar_row (P := Tryd.prog) _ _ 69 69 l.toArray (0, 0) _ HN.out Tryd.underlying69 rfl HS1.out)) rfl ?_
      refine ⟨_, _, rfl, HS2.out.symm.trans rfl, HOne.out, below_setRow HB.out (Nat.le_refl _) _, ?_⟩
      exact ⟨fun _ => ⟨hok, hl32.out⟩, fun _ => rfl⟩
    · obtain ⟨A, c, rfl⟩ : ∃ A c, v = .slice A l.length c := by
        rcases how.2 with ⟨rfl, h⟩ | ⟨g, cap, cur, rfl, h1, h2⟩
        · exact ⟨_, _, by rw [h]⟩
        · exact ⟨_, _, rfl⟩
      have hb32 : (((l.length : Int)) != 32) = true := by simp; omega
      have HE := Lib.hid (show ¬ HashOk s from fun h => h32 (by have := h.2; omega))
      clear how hint hl hok
      go_wp2_with (refine wpList_store_row rfl 69 _ _ rfl w.heap.size z32 rfl rfl 69 _ HZ.out HI.out rfl z32_one ?_)
      have HN := Lib.hid (setRow_at z32 HZ.out)
      refine bodyPost_ret (results_cell2 Tryd.results34 rfl (run_loadVar_row (P := Tryd.prog) _ _ 69 69 z32 (0, 0) _ HN.out Tryd.underlying69 rfl HI.out)) rfl ?_
      refine ⟨_, _, rfl, rfl, z32_one, below_setRow HB.out (Nat.le_refl _) _, ?_⟩
      exact ⟨fun h => by omega, fun h => absurd h HE.out⟩
end Go.Proofs.YtcmlifbfegblgaaDoor
