/- What object.Read's rounds call: the words' map, the three ways of a line, strings.Cut at a blank. -/
import Derived.Test.YtcmlifbfegblgaaDoorBb
import Derived.Test.YtcmlifbfegblgaaDoorQObjectTextsx0
import Derived.MapKept
namespace Go.Proofs.YtcmlifbfegblgaaDoor
set_option linter.unusedVariables false
set_option linter.unusedSimpArgs false
open Go.RowKit Go.Proofs.YtcmlifbfegblgaaDoorW.PrintWords Go.Proofs.YtcmlifbfegblgaaDoorW.PrintLast Go.Proofs.YtcmlifbfegblgaaDoorW.PrintMore

theorem map_put (W : World) (b clock : Nat) (es : Array MapEntry) (k : ByteArray) (f : Value) (h : W.heap[b]? = some (.map es clock)) (hk : Instr.findNow .string (.string k) es.toList 0 = some none) :
    (Instr.mapUpdate 51 (.map (some b)) (.string k) f).run Tryd.prog W = .ok () (W.putObj b (.map (es.push { key := .string k, val := f, born := clock }) (clock + 1))) := by
  unfold Instr.mapUpdate
  simp only [Sem.run_bind, run_underlying Tryd.underlying51, Result.andThen, MapKept.run_getObj_map h, MapKept.run_checkKey (P := Tryd.prog) (w := W) Tryd.underlying9 (k := .string k) (by simp [MapKept.IsKey]) false 9999, MapKept.run_findKey Tryd.underlying9 hk]
  simp only [MapKept.run_setObj_map _ h]
  rfl
theorem map_get (W : World) (b clock : Nat) (es : Array MapEntry) (k : ByteArray) (r : Option (Nat × Value)) (h : W.heap[b]? = some (.map es clock)) (hk : Instr.findNow .string (.string k) es.toList 0 = some r) :
    (Instr.lookup 51 (.map (some b)) (.string k) true).run Tryd.prog W = .ok (.tuple #[(r.map (·.2)).getD .nilFunc, .bool r.isSome]) W := by
  unfold Instr.lookup
  simp only [Sem.run_bind, run_underlying Tryd.underlying51, Result.andThen, MapKept.run_getObj_map h, MapKept.run_checkKey (P := Tryd.prog) (w := W) Tryd.underlying9 (k := .string k) (by simp [MapKept.IsKey]) es.isEmpty 9999, MapKept.run_findKey Tryd.underlying9 hk, Sem.run_pure]
  cases r with
  | none => simp only [Sem.run_bind, Tryd.zeroValue50, Result.andThen, Sem.run_pure]; rfl
  | some x => obtain ⟨j, v⟩ := x; simp only [Sem.run_pure]; rfl

def strs (xs : List ByteArray) : List Value := xs.map Value.string
theorem strs_length (xs : List ByteArray) : (strs xs).length = xs.length := List.length_map _

/-- An info in its block. -/
def InfoAt (w : World) (b : Nat) (p h d : ByteArray) (v : Value) : Prop := w.heap[b]? = some (.cells #[.string p, .string h, .string d, v] 24 (0, 0))
/-- What one of the ways of a line turns: the info's block and the references' own row. -/
structure Turned (base bi : Nat) (w w' : World) : Prop where
  others : KeepsOthers w w'
  block : ∀ k, k < base → k ≠ bi → w'.heap[k]? = w.heap[k]?
  below : ∀ n, n ≤ bi → Below n w w'

theorem turned_set (w : World) (base bi i : Nat) (v : Value) : Turned base bi w (w.setCell ⟨bi, i, none⟩ v) :=
  ⟨KeepsOthers.setCell _ _ _, fun k _ hk => Below.heap_setCell _ _ _ k hk, fun n hn => (Below.refl n w).setCell (p := ⟨bi, i, none⟩) hn _⟩

theorem row_set (w : World) (b : Nat) (cs : Array Value) (T : TypeId) (o : Nat × Nat) (i : Nat) (v : Value) (h : w.heap[b]? = some (.cells cs T o)) :
    (w.setCell ⟨b, i, none⟩ v).heap[b]? = some (.cells (cs.setIfInBounds i v) T o) := by
  obtain ⟨hlt, hk⟩ := Array.getElem?_eq_some_iff.1 h
  show (w.heap.modify b _)[b]? = _
  rw [Array.getElem?_eq_getElem (by rw [Array.size_modify]; exact hlt), Array.getElem_modify_self, hk]
  rfl

theorem row_cell (w : World) (b : Nat) (cs : Array Value) (T : TypeId) (o : Nat × Nat) (i : Nat) (h : w.heap[b]? = some (.cells cs T o)) : w.cell? ⟨b, i, none⟩ = cs[i]? := by
  simp [World.cell?, h]
theorem row_frozen (w : World) (b : Nat) (cs : Array Value) (T : TypeId) (i : Nat) (h : w.heap[b]? = some (.cells cs T (0, 0))) : w.frozen? ⟨b, i, none⟩ = false := by
  simp [World.frozen?, h]

theorem set_hash (w : World) (bi base : Nat) (p h d s : ByteArray) (v : Value) (hb : InfoAt w bi p h d v) :
    Calls Tryd.prog 20 #[.string s, .pointer (some ⟨bi, 0, none⟩)] w fun e w' => (∃ u, e = .returned u) ∧ InfoAt w' bi p s d v ∧ Turned base bi w w' ∧ w' = w.setCell ⟨bi, 1, none⟩ (.string s) := by
  have hc := row_cell w bi _ _ _ 1 hb
  have hf := row_frozen w bi _ _ 1 hb
  have H := Lib.hid (row_set w bi _ _ _ 1 (.string s) hb)
  clear hb
  go_enter Tryd.func20, Tryd.ntmps20
  go_wp2
  go_end0
  exact ⟨⟨_, rfl⟩, H.out, turned_set _ _ _ _ _, rfl⟩
theorem set_deriver (w : World) (bi base : Nat) (p h d s : ByteArray) (v : Value) (hb : InfoAt w bi p h d v) :
    Calls Tryd.prog 21 #[.string s, .pointer (some ⟨bi, 0, none⟩)] w fun e w' => (∃ u, e = .returned u) ∧ InfoAt w' bi p h s v ∧ Turned base bi w w' ∧ w' = w.setCell ⟨bi, 2, none⟩ (.string s) := by
  have hc := row_cell w bi _ _ _ 2 hb
  have hf := row_frozen w bi _ _ 2 hb
  have H := Lib.hid (row_set w bi _ _ _ 2 (.string s) hb)
  clear hb
  go_enter Tryd.func21, Tryd.ntmps21
  go_wp2
  go_end0
  exact ⟨⟨_, rfl⟩, H.out, turned_set _ _ _ _ _, rfl⟩
theorem grownBy_set (W : World) (b i : Nat) (v : Value) : W.grownBy (W.setCell ⟨b, i, none⟩ v) (some b) :=
  ⟨rfl, rfl, rfl, (KeepsWalks.setCell W _ v).size, fun k _ hk => Below.heap_setCell _ _ _ k (fun e => hk (by rw [e]))⟩
set_option maxRecDepth 8000 in
theorem app_ref (w : World) (bi base : Nat) (p h d s : ByteArray) (v : Value) (xs : List ByteArray) (hb : InfoAt w bi p h d v) (hr : w.ownsRow base 9 1 v xs.length (strs xs)) (hbi : bi < base) (hbase : base ≤ w.heap.size) (hl : xs.length ≤ 1000000000) :
    Calls Tryd.prog 22 #[.string s, .pointer (some ⟨bi, 0, none⟩)] w fun e w' => (∃ u, e = .returned u) ∧ ∃ v', InfoAt w' bi p h d v' ∧ w'.ownsRow base 9 1 v' (xs ++ [s]).length (strs (xs ++ [s])) ∧ Turned base bi w w' := by
  have hc : w.cell? ⟨bi, 3, none⟩ = some v := row_cell w bi _ _ _ 3 hb
  have HB := Lib.hid hb
  have HR := Lib.hid hr
  have HL := Lib.hid hl
  clear hb hr hl
  go_enter Tryd.func22, Tryd.ntmps22
  go_wp2_with (refine print_append (w0 := w) base rfl (.tmp 4) (.tmp 6) 22 9 (.string ⟨#[]⟩) 16 rfl Tryd.underlying22 (by kernel_rfl) rfl (by decide) v (strs xs) (.string s) rfl rfl rfl (by rw [strs_length]; exact HR.out) (Below.refl _ _) hbase (by rw [strs_length]; have := HL.out; omega) ?_; intro v1 w1 ho hbl hg hat; refine Hid.out ?_)
  refine Lib.hid ?_
  have hlen : (strs xs ++ [Value.string s]).length = xs.length + 1 := by simp [strs_length]
  have hap : strs xs ++ [Value.string s] = strs (xs ++ [s]) := by simp [strs]
  rw [hlen, hap] at ho
  obtain ⟨g, cap, rfl⟩ := ownsRow_succ ho
  have hgb : base ≤ g := by
    rcases ho.2 with ⟨h0, _⟩ | ⟨g', _, _, e, h1, _⟩
    · cases h0
    · injection e with e1; injection e1 with e1; injection e1 with e1; omega
  have hvb : v.ownBlock ≠ some bi := by
    rcases HR.out.2 with ⟨rfl, _⟩ | ⟨g', _, _, rfl, h1, _⟩
    · simp [Value.ownBlock]
    · intro e
      obtain rfl : g' = bi := by simpa [Value.ownBlock] using e
      omega
  have hb1 : InfoAt w1 bi p h d v := (hg.block bi (by omega) (fun e => hvb e.symm)).trans HB.out
  have hc1 : w1.cell? ⟨bi, 3, none⟩ = some v := row_cell w1 bi _ _ _ 3 hb1
  have hf1 : w1.frozen? ⟨bi, 3, none⟩ = false := row_frozen w1 bi _ _ 3 hb1
  have H1 := Lib.hid (row_set w1 bi _ _ _ 3 (.slice (some ⟨g, 0, none⟩) (xs.length + 1) cap) hb1)
  have hcells : ∀ (j : Nat) (o : Obj), v.ownBlock = some j → w.heap[j]? = some o → o.isCells = true := by
    intro j o e ho
    rcases HR.out.2 with ⟨rfl, _⟩ | ⟨g', _, _, rfl, _, h2, _⟩
    · simp [Value.ownBlock] at e
    · obtain rfl : g' = j := by simpa [Value.ownBlock] using e
      rw [h2] at ho; cases ho; rfl
  have hbase2 : ∀ k, k < base → some k ≠ v.ownBlock := by
    intro k hk e
    rcases HR.out.2 with ⟨rfl, _⟩ | ⟨g', _, _, rfl, h1, _⟩
    · simp [Value.ownBlock] at e
    · obtain rfl : k = g' := by simpa [Value.ownBlock] using e
      omega
  have HT : Hid (Turned base bi w (w1.setCell ⟨bi, 3, none⟩ (.slice (some ⟨g, 0, none⟩) (xs.length + 1) cap))) := Lib.hid
    ⟨(KeepsOthers.of_grownBy hg hcells).trans (KeepsOthers.setCell _ _ _),
     fun k hk hkb => (Below.heap_setCell _ _ _ k hkb).trans (hg.block k (by omega) (hbase2 k hk)),
     fun n hn => (hbl.mono (by omega)).setCell (p := ⟨bi, 3, none⟩) hn _⟩
  have HO := Lib.hid (ho.kept (grownBy_set _ bi 3 (.slice (some ⟨g, 0, none⟩) (xs.length + 1) cap)) (.inr (by simp [Value.ownBlock]; omega)))
  clear hb1 ho hbl hg hat hap hlen
  go_wp2_with fail
  go_end0
  exact ⟨⟨_, rfl⟩, _, H1.out, by rw [List.length_append]; exact HO.out, HT.out⟩
end Go.Proofs.YtcmlifbfegblgaaDoor
