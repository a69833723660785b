/- Rows of bytes in memory; what a digest's Sum keeps from block to block. -/
import Derived.Test.YtecahdjopdfeeaaGreatDoorSg
namespace Go.Proofs.YtecahdjopdfeeaaGreatDoor
open Go.RowKit QObjectNobody Go.Proofs.YtecahdjopdfeeaaGreatDoorW.PrintWords Go.Proofs.YtecahdjopdfeeaaGreatDoorW.PrintLast Go.Proofs.YtecahdjopdfeeaaGreatDoorW.PrintMore
/-- the bytes of a function -/
def brr (n : Nat) (f : Nat → Int) : Array Value := ((List.range n).map fun i => .int .u8 (f i)).toArray
theorem brr_size (n : Nat) (f : Nat → Int) : (brr n f).size = n := by simp [brr]
theorem brr_at {n : Nat} (f : Nat → Int) {k : Nat} (h : k < n) : (brr n f)[k]? = some (.int .u8 (f k)) := by simp [brr, h]
theorem brr_ext {n : Nat} {f f' : Nat → Int} (h : ∀ j, j < n → f j = f' j) : brr n f = brr n f' := by
  unfold brr
  congr 1
  exact List.map_congr_left fun j hj => by rw [h j (List.mem_range.1 hj)]
theorem brr_upd {n : Nat} {f f' : Nat → Int} {k : Nat} {v : Int} (hk : k < n) (hv : v = f' k) (ho : ∀ j, j < n → j ≠ k → f' j = f j) : (brr n f).setIfInBounds k (.int .u8 v) = brr n f' := by
  apply Array.ext_getElem?
  intro i
  rw [Array.getElem?_setIfInBounds]
  by_cases h : k = i
  · subst h
    rw [if_pos rfl, if_pos (by rw [brr_size]; omega), brr_at f' hk, hv]
  · rw [if_neg h]
    by_cases hi : i < n
    · rw [brr_at f hi, brr_at f' hi, ho i hi (by omega)]
    · rw [Array.getElem?_eq_none (by rw [brr_size]; omega), Array.getElem?_eq_none (by rw [brr_size]; omega)]
theorem brr_one (n : Nat) (f : Nat → Int) : (brr n f).all (·.oneCell') = true := by
  apply Array.all_eq_true_iff_forall_mem.2
  intro v hv
  simp only [brr, List.mem_toArray, List.mem_map] at hv
  obtain ⟨k, _, rfl⟩ := hv
  rfl
/-- block b holds the n bytes of f -/
def BRow (w : World) (b T n : Nat) (f : Nat → Int) : Prop := w.heap[b]? = some (.cells (brr n f) T (0, 0))
theorem BRow.cell {w : World} {b T n : Nat} {f : Nat → Int} (h : BRow w b T n f) {k : Nat} (hk : k < n) : w.cell? ⟨b, k, none⟩ = some (.int .u8 (f k)) := (cell_of_row w b k _ _ _ h).trans (brr_at f hk)
theorem BRow.free {w : World} {b T n : Nat} {f : Nat → Int} (h : BRow w b T n f) (j : Nat) : w.frozen? ⟨b, j, none⟩ = false := frozen_of_row w b j _ _ h
theorem BRow.lt {w : World} {b T n : Nat} {f : Nat → Int} (h : BRow w b T n f) : b < w.heap.size := (Array.getElem?_eq_some_iff.1 h).1
theorem BRow.set {w : World} {b T n : Nat} {f f' : Nat → Int} {k : Nat} {v : Int} (h : BRow w b T n f) (hk : k < n) (hv : v = f' k) (ho : ∀ j, j < n → j ≠ k → f' j = f j) : BRow (w.setCell ⟨b, k, none⟩ (.int .u8 v)) b T n f' := by
  unfold BRow
  rw [heap_setCell_same w b k _ _ _ h, brr_upd hk hv ho]
theorem BRow.ext {w : World} {b T n : Nat} {f f' : Nat → Int} (h : BRow w b T n f) (ho : ∀ j, j < n → f j = f' j) : BRow w b T n f' := by
  unfold BRow; rw [← brr_ext ho]; exact h
theorem BRow.drew {w : World} {b T n : Nat} {f : Nat → Int} (h : BRow w b T n f) : BRow w.drew b T n f := h
theorem BRow.drewN {w : World} {b T n : Nat} {f : Nat → Int} (h : BRow w b T n f) (k : Nat) : BRow (w.drewN k) b T n f := by unfold BRow; rw [World.heap_drewN]; exact h
theorem BRow.below {w w' : World} {b T n B : Nat} {f : Nat → Int} (h : BRow w b T n f) (hb : Below B w w') (hB : b < B) : BRow w' b T n f := (hb.block b hB).trans h
theorem BRow.new (w : World) (T n : Nat) (f : Nat → Int) : BRow (w.alloc (.cells (brr n f) T (0, 0))) w.heap.size T n f := heap_alloc_new _ _

theorem BRow.setRow {w : World} {b b' T n : Nat} {f : Nat → Int} (h : BRow w b T n f) (hne : b ≠ b') (cs : Array Value) : BRow (w.setRow b' cs) b T n f := (setRow_other w b' b cs hne).trans h
theorem Byts.setRow {w : World} {g o n b' : Nat} {l : List Int} (h : Byts w g o n l) (hne : g ≠ b') (cs : Array Value) : Byts (w.setRow b' cs) g o n l :=
  ⟨h.len, fun i hi => by
    have := h.at_ i hi
    unfold World.cell? at this ⊢
    rw [setRow_other w b' g cs hne]
    exact this, h.lo, h.hi⟩
theorem Byts.drew {w : World} {g o n : Nat} {l : List Int} (h : Byts w g o n l) : Byts w.drew g o n l := ⟨h.len, h.at_, h.lo, h.hi⟩
theorem Byts.kept {w w' : World} {g o n B : Nat} {l : List Int} (h : Byts w g o n l) (hb : Below B w w') (hg : g < B) : Byts w' g o n l :=
  ⟨h.len, fun i hi => (hb.cell (p := ⟨g, o + i, none⟩) hg).trans (h.at_ i hi), h.lo, h.hi⟩
/-- the bytes that the digest's words are -/
def dgs (S : Nat → Int) (j : Nat) : Int := (be4 (S (j / 4))).getD (j % 4) 0
theorem Byts.to_C {w : World} {g o n : Nat} {l : List Int} (h : Byts w g o n l) (hn : n ≤ 9223372036854775807) : Kd.C (Kd.int .u8) w (some ⟨g, o, none⟩) n l := by
  refine ⟨h.len, hn, fun _ => ⟨⟨g, o, none⟩, rfl, fun j p hp => ?_⟩⟩
  refine ⟨[.int .u8 p], rfl, rfl, fun i u hi => ?_⟩
  have hj : j < n := by have := (List.getElem?_eq_some_iff.1 hp).1; rw [h.len] at this; exact this
  have e := h.at_ j hj
  have hv : l.getD j 0 = p := by simp [List.getD, hp]
  rcases i with _ | i
  · simp only [List.getElem?_cons_zero, Option.some.injEq] at hi
    subst hi
    rw [add_at, show o + (j * (Kd.int IntKind.u8).sz + 0) = o + j by show o + (j * 1 + 0) = o + j; omega, e, hv]
  · simp at hi
theorem part_C {w : World} {g k m cc N : Nat} {l : List Int} {A : Option Addr} (h : Byts w g 0 N l) (hN : N = 64 * k + m) (hA : 0 < cc → A = some ⟨g, 64 * k, none⟩) (hc : m ≤ cc) (hm : m ≤ 9223372036854775807) : Kd.C (Kd.int .u8) w A m (l.drop (64 * k)) := by
  by_cases h0 : 0 < m
  · obtain rfl := hA (by omega)
    have := h.part (64 * k) m (by omega)
    rw [Nat.zero_add, List.take_of_length_le (by rw [List.length_drop, h.len]; omega)] at this
    exact this.to_C hm
  · exact ⟨by rw [List.length_drop, h.len]; omega, hm, fun hp => absurd hp h0⟩
def inB (xs : List Int) : Prop := ∀ x ∈ xs, 0 ≤ x ∧ x ≤ 255
theorem inB.getD {xs : List Int} (h : inB xs) (i : Nat) : 0 ≤ xs.getD i 0 ∧ xs.getD i 0 ≤ 255 := by
  by_cases hi : i < xs.length
  · have := h xs[i] (List.getElem_mem hi)
    simpa [List.getD, hi] using this
  · simp [List.getD, hi]
theorem Byts.ran {w : World} {g o n : Nat} {l : List Int} (h : Byts w g o n l) : inB l := by
  intro x hx
  obtain ⟨i, hi, rfl⟩ := List.getElem_of_mem hx
  have h1 := h.lo i
  have h2 := h.hi i
  simp only [List.getD, List.getElem?_eq_getElem hi, Option.getD_some] at h1 h2
  exact ⟨h1, h2⟩
theorem inB.drop {xs : List Int} (h : inB xs) (k : Nat) : inB (xs.drop k) := fun x hx => h x (List.mem_of_mem_drop hx)
theorem inB.app {xs ys : List Int} (h : inB xs) (k : inB ys) : inB (xs ++ ys) := fun x hx => (List.mem_append.1 hx).elim (h x) (k x)
theorem inB_be8 (v : Int) : inB (be8 v) := by
  intro x hx
  simp only [be8, List.mem_cons, List.not_mem_nil, or_false] at hx
  omega
theorem inB_tail {l : List Int} (h : inB l) (n : Nat) : inB (tailOf l n) :=
  ((h.app (fun x hx => by simp only [List.mem_cons, List.not_mem_nil, or_false] at hx; omega)).app (fun x hx => by have := List.eq_of_mem_replicate hx; omega)).app (inB_be8 _)
theorem Byts.of_R {w : World} {b G cap : Nat} {ok : Nat → Prop} {xs : List Int} (h : Kd.R (Kd.int .u8) 5 w b ok (.slice (some ⟨G, 0, none⟩) xs.length cap) xs) (hx : inB xs) : Byts w G 0 xs.length xs := by
  refine ⟨rfl, fun i hi => ?_, fun i => (hx.getD i).1, fun i => (hx.getD i).2⟩
  obtain ⟨ad, he, hc⟩ := Kd.at_int (Kd.R_reads' h).2.2 (i : Int) (by omega) (by omega)
  cases he
  rw [add_plain, Int.toNat_natCast] at hc
  rw [Nat.zero_add]
  exact hc
theorem R_slice' {e : Nat} {w : World} {b : Nat} {ok : Nat → Prop} {v : Value} {xs : List Int} {L : Nat} (h : Kd.R (Kd.int .u8) e w b ok v xs) (hL : xs.length = L) : ∃ A c, v = .slice A L c := by
  subst hL; exact Kd.R_slice h
/-- the address behind 64 more cells -/
def nxt (g o c : Nat) : Option Addr := if c = 64 then some ⟨g, o, none⟩ else some ⟨g, o + 64, none⟩
theorem nxt_at (g o c : Nat) (h : 64 < c) : nxt g o c = some ⟨g, o + 64, none⟩ := if_neg (by omega)
theorem cut_next (g o m c : Nat) (h : 64 ≤ m) : ∀ W, (Instr.slice 29 (.slice (some ⟨g, o, none⟩) m c) (some (.int .i64 64)) none none).run Tryz.prog W = .ok (.slice (nxt g o c) (m - 64) (c - 64)) W := by
  intro W
  have he : Tryz.prog.elem 29 = 5 := by kernel_rfl
  rw [run_slice_l W 29 _ m c (by rw [he]; exact Tryz.underlying29) .i64 64 (by omega) (by omega), he, Tryz.sizeOf5]
  simp [sliced, Addr.add, nxt]
theorem index_arr (S : Nat → Int) (i : Nat) (hi : i < 8) : ∀ W, (Instr.index 109 (.agg (arr 8 S)) (.int .i64 i)).run Tryz.prog W = .ok (.int .u32 (S i)) W := by
  intro W
  have hv := arr_at S hi
  have h0 : (0 : Int) ≤ i ∧ (i : Int) < 8 := by omega
  unfold Instr.index
  simp [go_sem, asIntOf, Tryz.sizeOf108, h0, part]
  rw [if_pos hi, hv]
  simp
theorem comp_def (K s : Nat → Int) (l : List Int) : comp K s l = sm s (rnds K (wod l) s 64) 8 := rfl
theorem add_comp (w : World) (g o c : Nat) (l : List Int) (s : Nat → Int) (K : Nat → Int) (hc : 64 ≤ c) (h : Byts w g o 64 l) (hq : RowAt w 1 169 64 K) (hx : ∀ j, 0 ≤ s j ∧ s j < 4294967296) :
    Calls Tryz.prog 85 #[.agg (arr 8 s), .slice (some ⟨g, o, none⟩) 64 c] w fun e w' => e = .returned (.agg (arr 8 (comp K s l))) ∧ Below w.heap.size w w' := add_of w g o c l s K hc h hq hx
theorem slice_run (ρ : Operand → Value) (o : Oper) (w : World) (x : Operand) (g p : Nat) (m c : Nat) (ho : o.op = .slice 29 x none (some (.const (.int .i64 64))) none) (hx : ρ x = .slice (some ⟨g, p, none⟩) m c) (hk : ρ (.const (.int .i64 64)) = .int .i64 64) (hc : 64 ≤ c) : (execOp ρ o).run Tryz.prog w = .ok (.value (.slice (some ⟨g, p, none⟩) 64 c)) w := by
  have he : Tryz.prog.elem 29 = 5 := by kernel_rfl
  have HL : (Instr.slice 29 (.slice (some ⟨g, p, none⟩) m c) none (some (.int .i64 64)) none).run Tryz.prog w = .ok (.slice (some ⟨g, p, none⟩) 64 c) w := by
    rw [run_slice_h w 29 _ m c (by rw [he]; exact Tryz.underlying29) .i64 64 (by omega) (by omega), he, Tryz.sizeOf5]
    simp [sliced, Addr.add]
  unfold execOp
  simp [ho, hx, hk, Instr.sliceAt, HL, Result.andThen]
theorem dgs_row (S : Nat → Int) (i : Nat) (hi : i < 8) :
    ((brr 32 (upto (dgs S) (4 * i))).toList.take (4 * i) ++ ((be4 (S i)).map (Value.int .u8) ++ (brr 32 (upto (dgs S) (4 * i))).toList.drop (4 * i + 4))).toArray = brr 32 (upto (dgs S) (4 * (i + 1))) := by
  have hl : (brr 32 (upto (dgs S) (4 * i))).toList.length = 32 := by rw [Array.length_toList, brr_size]
  apply Array.ext_getElem?
  intro j
  rw [List.getElem?_toArray]
  by_cases hj : j < 32
  · rw [brr_at _ hj]
    by_cases h1 : j < 4 * i
    · rw [List.getElem?_append_left (by rw [List.length_take]; omega), List.getElem?_take_of_lt h1, Array.getElem?_toList, brr_at _ hj, upto_lt _ h1, upto_lt _ (by omega)]
    · rw [List.getElem?_append_right (by rw [List.length_take]; omega), List.length_take, hl, show min (4 * i) 32 = 4 * i by omega]
      by_cases h2 : j < 4 * i + 4
      · rw [List.getElem?_append_left (by rw [List.length_map]; show _ < 4; omega), upto_lt _ (by omega)]
        have e1 : j / 4 = i := by omega
        have e2 : j % 4 = j - 4 * i := by omega
        unfold dgs
        rw [e1, e2]
        obtain ⟨d, hd⟩ : ∃ d, j - 4 * i = d := ⟨_, rfl⟩
        have hd4 : d < 4 := by omega
        rw [hd]
        rcases d with _ | _ | _ | _ | d
        · rfl
        · rfl
        · rfl
        · rfl
        · omega
      · rw [List.getElem?_append_right (by rw [List.length_map]; show 4 ≤ _; omega), List.length_map, List.getElem?_drop, Array.getElem?_toList, show 4 * i + 4 + (j - 4 * i - (be4 (S i)).length) = j by show 4 * i + 4 + (j - 4 * i - 4) = j; omega, brr_at _ hj]
        unfold upto
        rw [if_neg (by omega), if_neg (by omega)]
  · rw [Array.getElem?_eq_none (by rw [brr_size]; omega), List.getElem?_eq_none]
    simp only [List.length_append, List.length_take, List.length_map, List.length_drop, hl]
    show min (4 * i) 32 + (4 + (32 - (4 * i + 4))) ≤ j
    omega
theorem cut_digest (n i : Nat) (hi : i < 8) : ∀ W, (Instr.sliceAt 57 (.pointer (some ⟨n, 0, none⟩)) (some (.int .i64 (4 * (i : Int)))) none none).run Tryz.prog W = .ok (.slice (some ⟨n, 4 * i, none⟩) (32 - 4 * i) (32 - 4 * i)) W := by
  intro W
  have h0 : (0 : Int) ≤ 4 * (i : Int) := by omega
  have h1 : 4 * (i : Int) ≤ 32 := by omega
  have h2 : ¬ (32 : Nat) = 4 * i := by omega
  have h3 : (4 * (i : Int)).toNat = 4 * i := by omega
  unfold Instr.sliceAt
  simp [go_sem, Instr.sureAddr, Instr.sliceBounds, Tryz.sizeOf5, h0, h1, h2, h3]
theorem Byts.cs {w : World} {g n : Nat} {l : List Int} (h : Byts w g 0 n l) : ∀ j v, (l.map (Value.int .u8))[j]? = some v → w.cell? (Addr.add ⟨g, 0, none⟩ j) = some v := by
  intro j v hv
  rw [add_plain]
  rw [List.getElem?_map] at hv
  obtain ⟨x, hx, rfl⟩ := Option.map_eq_some_iff.1 hv
  have hj : j < n := by have := (List.getElem?_eq_some_iff.1 hx).1; rw [h.len] at this; exact this
  have e := h.at_ j hj
  rw [Nat.zero_add] at e
  rw [e]
  simp [List.getD, hx]
end Go.Proofs.YtecahdjopdfeeaaGreatDoor
