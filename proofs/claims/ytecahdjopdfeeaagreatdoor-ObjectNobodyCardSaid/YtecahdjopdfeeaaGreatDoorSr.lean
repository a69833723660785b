/- Rows of 32-bit words in memory. -/
import Derived.Test.YtecahdjopdfeeaaGreatDoorSn
import Derived.WalkLawsBesides
import Derived.KernelRfl
import Derived.Deep.QuietTactic
import Derived.BigQuiet
import Derived.RegionTactic
import Derived.ChangeAlike
import Derived.Laws.CopyOwn
namespace Go.Proofs.YtecahdjopdfeeaaGreatDoor
open Go.RowKit
/-- the words of a function -/
def arr (n : Nat) (f : Nat → Int) : Array Value := ((List.range n).map fun i => .int .u32 (f i)).toArray
theorem arr_size (n : Nat) (f : Nat → Int) : (arr n f).size = n := by simp [arr]
theorem arr_at {n : Nat} (f : Nat → Int) {k : Nat} (h : k < n) : (arr n f)[k]? = some (.int .u32 (f k)) := by simp [arr, h]
theorem arr_ext {n : Nat} {f f' : Nat → Int} (h : ∀ j, j < n → f j = f' j) : arr n f = arr n f' := by
  unfold arr
  congr 1
  exact List.map_congr_left fun j hj => by rw [h j (List.mem_range.1 hj)]
theorem arr_upd {n : Nat} {f f' : Nat → Int} {k : Nat} {v : Int} (hk : k < n) (hv : v = f' k) (ho : ∀ j, j < n → j ≠ k → f' j = f j) : (arr n f).setIfInBounds k (.int .u32 v) = arr n f' := by
  apply Array.ext_getElem?
  intro i
  rw [Array.getElem?_setIfInBounds]
  by_cases h : k = i
  · subst h
    rw [if_pos rfl, if_pos (by rw [arr_size]; omega), arr_at f' hk, hv]
  · rw [if_neg h]
    by_cases hi : i < n
    · rw [arr_at f hi, arr_at f' hi, ho i hi (by omega)]
    · rw [Array.getElem?_eq_none (by rw [arr_size]; omega), Array.getElem?_eq_none (by rw [arr_size]; omega)]
theorem arr_one (n : Nat) (f : Nat → Int) : (arr n f).all (·.oneCell') = true := by
  apply Array.all_eq_true_iff_forall_mem.2
  intro v hv
  simp only [arr, List.mem_toArray, List.mem_map] at hv
  obtain ⟨k, _, rfl⟩ := hv
  rfl
/-- block b holds the n words of f -/
def RowAt (w : World) (b T n : Nat) (f : Nat → Int) : Prop := w.heap[b]? = some (.cells (arr n f) T (0, 0))
theorem RowAt.cell {w : World} {b T n : Nat} {f : Nat → Int} (h : RowAt w b T n f) {k : Nat} (hk : k < n) : w.cell? ⟨b, k, none⟩ = some (.int .u32 (f k)) := (cell_of_row w b k _ _ _ h).trans (arr_at f hk)
theorem RowAt.free {w : World} {b T n : Nat} {f : Nat → Int} (h : RowAt w b T n f) (j : Nat) : w.frozen? ⟨b, j, none⟩ = false := frozen_of_row w b j _ _ h
theorem RowAt.lt {w : World} {b T n : Nat} {f : Nat → Int} (h : RowAt w b T n f) : b < w.heap.size := (Array.getElem?_eq_some_iff.1 h).1
theorem RowAt.set {w : World} {b T n : Nat} {f f' : Nat → Int} {k : Nat} {v : Int} (h : RowAt w b T n f) (hk : k < n) (hv : v = f' k) (ho : ∀ j, j < n → j ≠ k → f' j = f j) : RowAt (w.setCell ⟨b, k, none⟩ (.int .u32 v)) b T n f' := by
  unfold RowAt
  rw [heap_setCell_same w b k _ _ _ h, arr_upd hk hv ho]
theorem RowAt.ext {w : World} {b T n : Nat} {f f' : Nat → Int} (h : RowAt w b T n f) (ho : ∀ j, j < n → f j = f' j) : RowAt w b T n f' := by
  unfold RowAt; rw [← arr_ext ho]; exact h
theorem RowAt.drew {w : World} {b T n : Nat} {f : Nat → Int} (h : RowAt w b T n f) : RowAt w.drew b T n f := h
theorem RowAt.drewN {w : World} {b T n : Nat} {f : Nat → Int} (h : RowAt w b T n f) (k : Nat) : RowAt (w.drewN k) b T n f := by unfold RowAt; rw [World.heap_drewN]; exact h
theorem RowAt.below {w w' : World} {b T n B : Nat} {f : Nat → Int} (h : RowAt w b T n f) (hb : Below B w w') (hB : b < B) : RowAt w' b T n f := (hb.block b hB).trans h
theorem RowAt.new (w : World) (T n : Nat) (f : Nat → Int) : RowAt (w.alloc (.cells (arr n f) T (0, 0))) w.heap.size T n f := heap_alloc_new _ _
theorem results_cell {P : Program} {fn : Func} {tmps : Array Value} {a : Nat} {t : TypeId} {p : Addr} {v : Value} {w : World} (hr : fn.results = #[.cell a t]) (hp : tmps.getD a undef = .pointer (some p)) (hl : (loadVar t p).run P w = .ok v w) : (results fn tmps).run P w = .ok v w := by
  have e : results fn tmps = loadVar t p := by
    unfold results
    rw [hr]
    have hp' : tmps[a]?.getD undef = .pointer (some p) := by simpa using hp
    simp [hp', asAddr, Array.mapM_eq_foldlM]
  rw [e]
  exact hl
end Go.Proofs.YtecahdjopdfeeaaGreatDoor
