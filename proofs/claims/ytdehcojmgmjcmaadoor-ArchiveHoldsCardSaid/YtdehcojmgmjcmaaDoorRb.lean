/- Rows of bytes; a region's operations one by one; the bytes of a number. -/
import Derived.Test.YtdehcojmgmjcmaaDoorQArchiveBackx0
import Derived.Test.YtdehcojmgmjcmaaDoorQt
import Derived.WalkKit
import Derived.WalkSpells
import Derived.ProofKit
import Derived.Below
import Derived.Deep.RegionWith
import Derived.Lib.Hide
import Derived.Handy
import Derived.StillTailTactics
import Derived.IntWalk
import Derived.Deep.DeepCutAuto
import Derived.Great.BuildSlice
import Derived.WalkLawsBesides
import Derived.KernelRfl
import Derived.Deep.QuietTactic
import Derived.BigQuiet
import Derived.RegionTactic
import Derived.ChangeAlike
import Derived.Laws.CopyOwn
import Derived.OrdersHeld
import Derived.Deep.RegionHeld3
import Derived.Deep.RegionLaw
namespace Go.Proofs.YtdehcojmgmjcmaaDoor
set_option linter.unusedVariables false
set_option linter.unusedSimpArgs false
open Go.RowKit QArchiveBack Go.Proofs.YtdehcojmgmjcmaaDoorW.PrintWords Go.Proofs.YtdehcojmgmjcmaaDoorW.PrintLast Go.Proofs.YtdehcojmgmjcmaaDoorW.PrintMore
/-- bytes that are read at an address -/
structure Byts (w : World) (g o n : Nat) (l : List Int) : Prop where
  len : l.length = n
  at_ : ∀ i, i < n → w.cell? ⟨g, o + i, none⟩ = some (.int .u8 (l.getD i 0))
  lo : ∀ i, 0 ≤ l.getD i 0
  hi : ∀ i, l.getD i 0 ≤ 255
theorem Byts.below {w w' : World} {g o n : Nat} {l : List Int} (h : Byts w g o n l) (hb : Below w.heap.size w w') : Byts w' g o n l :=
  ⟨h.len, fun i hi => (hb.cell (World.block_lt_of_cell? _ _ (h.at_ i hi))).trans (h.at_ i hi), h.lo, h.hi⟩
section
variable {P : Program} {ops : Array Oper} {Q : Exit → Act → World → Prop} {i : Nat} {K : Act → World → Prop} {a : Act} {w : World} {o : Oper}
theorem step_wp (hi : ops[i]? = some o) (hg : o.guard = none) (h : o.wp P a w K Q) : wpOp P ops Q i K a w := by
  have hw : Region.wanted o (yielded ops a.tmps) = true := by simp [Region.wanted, hg]
  unfold wpOp
  simp only [hi, hw, if_true]
  exact .inl h
theorem step_val (dst : Option Tmp) (hi : ops[i]? = some o) (hg : o.guard = none) (hd : o.dst = dst) (v : Value) (w' : World) (hrun : (execOp a.eval o).run P w = .ok (.value v) w') (h : K (a.put dst v) w') : wpOp P ops Q i K a w := by
  subst hd
  refine step_wp hi hg ?_
  unfold Oper.wp
  rw [hrun]
  exact h
theorem step_call (dst : Option Tmp) (hi : ops[i]? = some o) (hg : o.guard = none) (hd : o.dst = dst) (f : FuncId) (args : Array Value) (hrun : (execOp a.eval o).run P w = .ok (.enter f args) w)
    (h : Calls P f args w fun e w'' => ∃ v, e = .returned v ∧ K (a.put dst v) w'') : wpOp P ops Q i K a w := by
  subst hd
  refine step_wp hi hg ?_
  unfold Oper.wp
  rw [hrun]
  refine Calls.mono h ?_
  rintro e w'' ⟨v, rfl, hk⟩
  exact hk
theorem step_store {P : Program} {ops : Array Oper} {Q : Exit → Act → World → Prop} {i : Nat} {K : Act → World → Prop} {a : Act} {w : World} {o : Oper} (hi : ops[i]? = some o) (hg : o.guard = none) (hd : o.dst = none) (ty : TypeId) (x y : Operand) (ho : o.op = .store ty x y)
    (g : Nat) (cells : Array Value) (hx : a.eval x = .pointer (some ⟨g, 0, none⟩)) (hy : a.eval y = .agg cells)
    (t : TypeId) (old : Array Value) (hr : w.heap[g]? = some (.cells old t (0, 0))) (hinfo : (P.info? ty).map (·.size) = some cells.size)
    (hold : old.size = cells.size) (h1 : cells.all (·.oneCell') = true)
    (h : K (a.put none undef) (w.setRow g cells)) : wpOp P ops Q i K a w :=
  step_wp hi hg (wp_store_row ty x y ho g cells hx hy t old hr hinfo hold h1 (by rw [hd]; exact h))
end
def be8 (v : Int) : List Int := [v / 72057594037927936 % 256, v / 281474976710656 % 256, v / 1099511627776 % 256, v / 4294967296 % 256, v / 16777216 % 256, v / 65536 % 256, v / 256 % 256, v % 256]
theorem bits8 (v : Int) : bits_Bytes.f 11 v 8 = some (be8 v, 0) := by
  simp [bits_Bytes.f, bits_Bytes.j0, bits_Bytes.l0, wrap64, be8, shr, IntKind.bits, List.replicate]
theorem Byts.drew {w : World} {g o n : Nat} {l : List Int} (h : Byts w g o n l) : Byts w.drew g o n l := ⟨h.len, h.at_, h.lo, h.hi⟩
theorem Byts.kept {w w' : World} {g o n B : Nat} {l : List Int} (h : Byts w g o n l) (hb : Below B w w') (hg : g < B) : Byts w' g o n l :=
  ⟨h.len, fun i hi => (hb.cell (p := ⟨g, o + i, none⟩) hg).trans (h.at_ i hi), h.lo, h.hi⟩
theorem Byts.to_C {w : World} {g o n : Nat} {l : List Int} (h : Byts w g o n l) (hn : n ≤ 9223372036854775807) : Kd.C (Kd.int .u8) w (some ⟨g, o, none⟩) n l := by
  refine ⟨h.len, hn, fun _ => ⟨⟨g, o, none⟩, rfl, fun j p hp => ?_⟩⟩
  refine ⟨[.int .u8 p], rfl, rfl, fun i u hi => ?_⟩
  have hj : j < n := by have := (List.getElem?_eq_some_iff.1 hp).1; rw [h.len] at this; exact this
  have e := h.at_ j hj
  have hv : l.getD j 0 = p := by simp [List.getD, hp]
  rcases i with _ | i
  · simp only [List.getElem?_cons_zero, Option.some.injEq] at hi
    subst hi
    rw [add_at, show o + (j * (Kd.int IntKind.u8).sz + 0) = o + j by show o + (j * 1 + 0) = o + j; omega, e, hv]
  · simp at hi
def inB (xs : List Int) : Prop := ∀ x ∈ xs, 0 ≤ x ∧ x ≤ 255
theorem inB.getD {xs : List Int} (h : inB xs) (i : Nat) : 0 ≤ xs.getD i 0 ∧ xs.getD i 0 ≤ 255 := by
  by_cases hi : i < xs.length
  · have := h xs[i] (List.getElem_mem hi)
    simpa [List.getD, hi] using this
  · simp [List.getD, hi]
theorem Byts.ran {w : World} {g o n : Nat} {l : List Int} (h : Byts w g o n l) : inB l := by
  intro x hx
  obtain ⟨i, hi, rfl⟩ := List.getElem_of_mem hx
  have h1 := h.lo i
  have h2 := h.hi i
  simp only [List.getD, List.getElem?_eq_getElem hi, Option.getD_some] at h1 h2
  exact ⟨h1, h2⟩
theorem inB.drop {xs : List Int} (h : inB xs) (k : Nat) : inB (xs.drop k) := fun x hx => h x (List.mem_of_mem_drop hx)
theorem inB.app {xs ys : List Int} (h : inB xs) (k : inB ys) : inB (xs ++ ys) := fun x hx => (List.mem_append.1 hx).elim (h x) (k x)
theorem inB_be8 (v : Int) : inB (be8 v) := by
  intro x hx
  simp only [be8, List.mem_cons, List.not_mem_nil, or_false] at hx
  omega
theorem Byts.of_R {w : World} {b G cap : Nat} {ok : Nat → Prop} {xs : List Int} (h : Kd.R (Kd.int .u8) 5 w b ok (.slice (some ⟨G, 0, none⟩) xs.length cap) xs) (hx : inB xs) : Byts w G 0 xs.length xs := by
  refine ⟨rfl, fun i hi => ?_, fun i => (hx.getD i).1, fun i => (hx.getD i).2⟩
  obtain ⟨ad, he, hc⟩ := Kd.at_int (Kd.R_reads' h).2.2 (i : Int) (by omega) (by omega)
  cases he
  rw [add_plain, Int.toNat_natCast] at hc
  rw [Nat.zero_add]
  exact hc
end Go.Proofs.YtdehcojmgmjcmaaDoor
