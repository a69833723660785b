/- add: a block is taken in. -/
import Derived.Test.YtecahdjopdfeeaaGreatDoorSw
import Derived.Test.YtecahdjopdfeeaaGreatDoorSh
import Derived.Deep.RegionHeld3
import Derived.Deep.DeepCutAuto
namespace Go.Proofs.YtecahdjopdfeeaaGreatDoor
open Go.RowKit
def chv (e f g : Int) : Int := xor (bits .and .u32 e f) (bits .andNot .u32 g e)
def majv (a b c : Int) : Int := bits .or .u32 (bits .and .u32 a b) (bits .and .u32 c (bits .or .u32 a b))
/-- the first sum of a round -/
def tsum (K W : Nat → Int) (i : Nat) (x : Nat → Int) : Int := (x 7 + tri (x 4) 6 11 25 + chv (x 4) (x 5) (x 6) + K i + W i) % 4294967296
def usum (x : Nat → Int) : Int := (tri (x 0) 2 13 22 + majv (x 0) (x 1) (x 2)) % 4294967296
/-- a round -/
def rnd (K W : Nat → Int) (i : Nat) (x : Nat → Int) : Nat → Int := fun j => if j = 0 then (tsum K W i x + usum x) % 4294967296 else if j = 4 then (x 3 + tsum K W i x) % 4294967296 else x (j - 1)
/-- i rounds -/
def rnds (K W : Nat → Int) (x : Nat → Int) : Nat → Nat → Int
  | 0 => x
  | i + 1 => rnd K W i (rnds K W x i)
theorem rnds_ok (K W x : Nat → Int) (hx : ∀ j, 0 ≤ x j ∧ x j < 4294967296) : ∀ i j, 0 ≤ rnds K W x i j ∧ rnds K W x i j < 4294967296
  | 0, j => hx j
  | i + 1, j => by
    have ih := rnds_ok K W x hx i
    unfold rnds rnd
    split
    · omega
    · split
      · omega
      · exact ih _
def sh (x : Nat → Int) (j : Nat) : Int := if j = 0 then x 0 else x (j - 1)
theorem copy_src {w : World} {b T : Nat} {f : Nat → Int} (h : w.heap[b]? = some (.cells (arr 8 f) T (0, 0))) : ∀ j v, ((List.range 7).map fun i => Value.int .u32 (f i))[j]? = some v → w.cell? (Addr.add ⟨b, 0, none⟩ j) = some v := by
  intro j v hv
  have hr : RowAt w b T 8 f := h
  by_cases hj : j < 7
  · simp only [List.getElem?_map, List.getElem?_range hj, Option.map_some, Option.some.injEq] at hv
    subst hv
    have hcj := hr.cell (k := j) (by omega)
    by_cases h0 : j = 0
    · subst h0; exact hcj
    · simpa [Addr.add, h0] using hcj
  · simp [hj] at hv
theorem RowAt.other {w : World} {b b' T n j : Nat} {f : Nat → Int} {v : Value} (h : RowAt w b T n f) (hne : b ≠ b') : RowAt (w.setCell ⟨b', j, none⟩ v) b T n f := (heap_setCell_other w ⟨b', j, none⟩ b v hne).trans h
def mid (K W : Nat → Int) (i : Nat) (x : Nat → Int) (j : Nat) : Int := if j = 0 then (tsum K W i x + usum x) % 4294967296 else sh x j
theorem mid_ne (K W : Nat → Int) (i : Nat) (x : Nat → Int) : ∀ j, j < 8 → j ≠ 0 → mid K W i x j = sh x j := fun _ _ h => if_neg h
theorem rnd_ne (K W : Nat → Int) (i : Nat) (x : Nat → Int) : ∀ j, j < 8 → j ≠ 4 → rnd K W i x j = mid K W i x j := by
  intro j _ h
  unfold rnd mid sh
  split
  · rfl
  · first | rfl | rw [if_neg h]
def sm (s r : Nat → Int) (k j : Nat) : Int := if j < k then (s j + r j) % 4294967296 else s j
theorem sm_step (s r : Nat → Int) (k : Nat) : ∀ j, j < 8 → j ≠ k → sm s r (k + 1) j = sm s r k j := by
  intro j _ hj
  unfold sm
  by_cases h : j < k
  · rw [if_pos h, if_pos (by omega)]
  · rw [if_neg h, if_neg (by omega)]
theorem sm_at (s r : Nat → Int) (k : Nat) : sm s r (k + 1) k = (s k + r k) % 4294967296 := if_pos (Nat.lt_succ_self k)
theorem sm_old (s r : Nat → Int) (k : Nat) : sm s r k k = s k := if_neg (Nat.lt_irrefl k)
theorem load_run8 (ρ : Operand → Value) (o : Oper) (w : World) (b : Nat) (s : Nat → Int) (x : Operand) (ho : o.op = .load 109 x) (hx : ρ x = .pointer (some ⟨b, 0, none⟩)) (hr : RowAt w b 109 8 s) : (execOp ρ o).run Tryz.prog w = .ok (.value (.agg (arr 8 s))) w := by
  have HL := run_loadVar_row (P := Tryz.prog) w b 109 109 _ (0, 0) _ hr Tryz.underlying109 rfl (by rw [arr_size]; kernel_rfl)
  unfold execOp
  simp only [ho, hx, Instr.loadAt, Instr.sureAddr, Sem.run_bind, Sem.run_pure, Result.andThen_ok, HL]
theorem keepS {n : Nat} {w1 w w' : World} {T : Nat} {s : Nat → Int} (h4 : w1.heap.size = n + 2) (hb : Below w.heap.size w w') (h : RowAt w n T 8 s ∧ Below (n + 2) w1 w) : RowAt w' n T 8 s ∧ Below (n + 2) w1 w' :=
  ⟨h.1.below hb h.1.lt, h.2.trans (hb.mono (by have := h.2.size; omega))⟩
theorem byts_of {w1 w : World} {g o n m : Nat} {l : List Int} (h : Byts w1 g o n l) (h4 : w1.heap.size = m) (hb : Below m w1 w) : Byts w g o n l := by subst h4; exact h.below hb
theorem setRow_row {w : World} {b b' T n : Nat} {f : Nat → Int} (h : RowAt w b T n f) (hne : b ≠ b') (cs : Array Value) : RowAt (w.setRow b' cs) b T n f := (setRow_other w b' b cs hne).trans h
theorem setRow_new {w : World} {b T n : Nat} {f : Nat → Int} (h : RowAt w b T n f) (f' : Nat → Int) : RowAt (w.setRow b (arr n f')) b T n f' := setRow_heap w b _ (arr n f') _ _ h
set_option maxRecDepth 8000 in
set_option maxHeartbeats 2000000 in
theorem add_of (w : World) (g o c : Nat) (l : List Int) (s : Nat → Int) (K : Nat → Int) (hc : 64 ≤ c) (h : Byts w g o 64 l) (hq : RowAt w 1 169 64 K) (hx : ∀ j, 0 ≤ s j ∧ s j < 4294967296) :
    Calls Tryz.prog 85 #[.agg (arr 8 s), .slice (some ⟨g, o, none⟩) 64 c] w fun e w' => e = .returned (.agg (arr 8 (sm s (rnds K (wod l) s 64) 8))) ∧ Below w.heap.size w w' := by
  have H := Lib.hid h
  have HQ := Lib.hid hq
  have HX := Lib.hid hx
  clear h hq hx
  go_enter Tryz.func85, Tryz.ntmps85
  go_upto_region 1 with fail
  have h1 : RowAt ((w.alloc (.cells (arr 8 s) 109 (0, 0))).alloc (.cells (arr 8 fun _ => 0) 109 (0, 0))) w.heap.size 109 8 s := (RowAt.new w _ 8 s).below (((Below.refl (w.heap.size + 1) _).alloc (by simp) _)) (by omega)
  have h2 : RowAt ((w.alloc (.cells (arr 8 s) 109 (0, 0))).alloc (.cells (arr 8 fun _ => 0) 109 (0, 0))) (w.heap.size + 1) 109 8 (fun _ => 0) := by
    have := RowAt.new (w.alloc (.cells (arr 8 s) 109 (0, 0))) 109 8 (fun _ => 0)
    simpa using this
  have h3 : Below w.heap.size w ((w.alloc (.cells (arr 8 s) 109 (0, 0))).alloc (.cells (arr 8 fun _ => 0) 109 (0, 0))) := ((Below.refl _ _).alloc (Nat.le_refl _) _).alloc (by simp) _
  have h4 : ((w.alloc (.cells (arr 8 s) 109 (0, 0))).alloc (.cells (arr 8 fun _ => 0) 109 (0, 0))).heap.size = w.heap.size + 2 := by simp
  have h5 : arr 8 (fun _ => 0) = #[.int .u32 0, .int .u32 0, .int .u32 0, .int .u32 0, .int .u32 0, .int .u32 0, .int .u32 0, .int .u32 0] := rfl
  rw [h5] at h1 h2 h3 h4
  clear h5
  generalize ((w.alloc (.cells (arr 8 s) 109 (0, 0))).alloc (.cells _ 109 (0, 0))) = w1 at h1 h2 h3 h4 ⊢
  generalize hn : w.heap.size = n at h1 h2 h3 h4 ⊢
  have H1 := Lib.hid (H.out.below (hn ▸ h3))
  have HQ1 := Lib.hid (HQ.out.below (hn ▸ h3) (hn ▸ HQ.out.lt))
  have HQN := Lib.hid (hn ▸ HQ.out.lt : 1 < n)
  have HN := Lib.hid hn
  have H4 := Lib.hid h4
  clear H hn h4
  go_cut [5, 6] (fun p q wc => ∃ b5 b6 : Nat, p = .pointer (some ⟨b5, 0, none⟩) ∧ q = .pointer (some ⟨b6, 0, none⟩) ∧ RowAt wc b5 169 64 (wod l) ∧ RowAt wc b6 109 8 s ∧ n + 2 ≤ b5 ∧ n + 2 ≤ b6 ∧ b5 ≠ b6 ∧ Below (n + 2) w1 wc)
  case first =>
    have L1 : Below (n + 2) w1 w1.drew := ⟨rfl, rfl, rfl, Nat.le_refl _, fun _ _ => rfl⟩
    have HS : RowAt w1.drew n 109 8 s ∧ Below (n + 2) w1 w1.drew := ⟨h1.drew, L1⟩
    refine wp_region_held (S := fun w' => RowAt w' n 109 8 s ∧ Below (n + 2) w1 w') (by kernel_rfl) ?_
    change wpAnyH _ _ _ _ _ 7 _ _ w1.drew
    generalize w1.drew = w2 at HS ⊢
    refine wpAnyH_take (i := 0) rfl (by kernel_rfl) (by kernel_rfl) (by kernel_rfl) (fun _ _ _ h => h) (Or.inl ⟨rfl, fun w _ => rfl⟩) HS ?_
    refine wpAnyH_take (i := 2) rfl (by kernel_rfl) (by kernel_rfl) (by kernel_rfl) (fun _ _ _ h => h) (Or.inl ⟨rfl, fun w hS => load_run8 _ _ w n s _ rfl rfl hS.1⟩) HS ?_
    refine wpAnyH_all (rs := [1, 3, 4]) (by kernel_rfl) (by simp) ?_
    intro i hi
    simp only [List.mem_cons, List.not_mem_nil, or_false] at hi
    rcases hi with rfl | rfl | rfl
    · skip
      refine step_call (some 12) rfl rfl rfl 128 #[.slice (some ⟨g, o, none⟩) 64 c] (by first | rfl | (simp [execOp, go_sem]; done)) ?_
      refine (words_of _ _ _ _ _ hc (byts_of H1.out H4.out HS.2)).mono ?_
      rintro e w3 ⟨rfl, hb⟩
      refine ⟨_, rfl, ?_⟩
      replace HS := keepS H4.out hb HS
      clear hb
      refine ⟨HS, ?_⟩
      refine wpAnyH_all (rs := [3, 4]) (by kernel_rfl) (by simp) ?_
      intro i hi
      simp only [List.mem_cons, List.not_mem_nil, or_false] at hi
      rcases hi with rfl | rfl
      · skip
        refine step_val (some 5) rfl rfl rfl _ _ (alloc_run64 _ _ _ rfl) ?_
        have l5 : n + 2 ≤ (w3).heap.size := Nat.le_trans (Nat.le_of_eq H4.out.symm) HS.2.size
        have r50 := RowAt.new (w3) 169 64 (fun _ => 0)
        have hb := (Below.refl (w3).heap.size (w3)).alloc (Nat.le_refl _) (.cells (arr 64 fun _ => 0) 169 (0, 0))
        generalize (w3).alloc (.cells (arr 64 fun _ => 0) 169 (0, 0)) = w4 at hb r50 ⊢
        replace HS := keepS H4.out hb HS
        clear hb
        refine ⟨HS, ?_⟩
        have r5 := r50
        clear r50
        refine wpAnyH_all (rs := [4]) (by kernel_rfl) (by simp) ?_
        intro i hi
        obtain rfl := List.mem_singleton.1 hi
        refine step_val (some 6) rfl rfl rfl _ _ (alloc_run8 _ _ _ rfl) ?_
        have l6 : n + 2 ≤ (w4).heap.size := Nat.le_trans (Nat.le_of_eq H4.out.symm) HS.2.size
        have h56 := Nat.ne_of_lt r5.lt
        have r60 := RowAt.new (w4) 109 8 (fun _ => 0)
        have hb := (Below.refl (w4).heap.size (w4)).alloc (Nat.le_refl _) (.cells (arr 8 fun _ => 0) 109 (0, 0))
        generalize (w4).alloc (.cells (arr 8 fun _ => 0) 109 (0, 0)) = w5 at hb r60 ⊢
        replace HS := keepS H4.out hb HS
        replace r5 := r5.below hb r5.lt
        clear hb
        refine ⟨HS, ?_⟩
        have r6 := r60
        clear r60
        refine wpAnyH_all (rs := [5]) (by kernel_rfl) (by simp) ?_
        intro i hi
        obtain rfl := List.mem_singleton.1 hi
        refine step_store rfl rfl rfl 169 (.tmp 5) (.tmp 12) rfl w3.heap.size (arr 64 (wod l)) (by kernel_rfl) (by kernel_rfl) 169 _ r5 (by rw [arr_size]; kernel_rfl) rfl (arr_one 64 (wod l)) ?_
        refine ⟨⟨setRow_row HS.1 (by omega) _, below_setRow HS.2 l5 _⟩, ?_⟩
        refine wpAnyH_all (rs := [6]) (by kernel_rfl) (by simp) ?_
        intro i hi
        obtain rfl := List.mem_singleton.1 hi
        refine step_store rfl rfl rfl 109 (.tmp 6) (.tmp 13) rfl w4.heap.size (arr 8 s) (by kernel_rfl) (by kernel_rfl) 109 _ (setRow_row r6 (Ne.symm h56) _) (by rw [arr_size]; kernel_rfl) rfl (arr_one 8 s) ?_
        refine ⟨⟨setRow_row (setRow_row HS.1 (by omega) _) (by omega) _, below_setRow (below_setRow HS.2 l5 _) l6 _⟩, ?_⟩
        refine wpAnyH_done (by kernel_rfl) ?_ _
        go_wp2_with fail
        go_meet
        exact ⟨_, _, rfl, rfl, setRow_row (setRow_new r5 _) h56 _, setRow_new (setRow_row r6 (Ne.symm h56) _) _, l5, l6, h56, below_setRow (below_setRow HS.2 l5 _) l6 _⟩
      · skip
        refine step_val (some 6) rfl rfl rfl _ _ (alloc_run8 _ _ _ rfl) ?_
        have l6 : n + 2 ≤ (w3).heap.size := Nat.le_trans (Nat.le_of_eq H4.out.symm) HS.2.size
        have r60 := RowAt.new (w3) 109 8 (fun _ => 0)
        have hb := (Below.refl (w3).heap.size (w3)).alloc (Nat.le_refl _) (.cells (arr 8 fun _ => 0) 109 (0, 0))
        generalize (w3).alloc (.cells (arr 8 fun _ => 0) 109 (0, 0)) = w4 at hb r60 ⊢
        replace HS := keepS H4.out hb HS
        clear hb
        refine ⟨HS, ?_⟩
        have r6 := r60
        clear r60
        refine wpAnyH_all (rs := [3]) (by kernel_rfl) (by simp) ?_
        intro i hi
        obtain rfl := List.mem_singleton.1 hi
        refine step_val (some 5) rfl rfl rfl _ _ (alloc_run64 _ _ _ rfl) ?_
        have l5 : n + 2 ≤ (w4).heap.size := Nat.le_trans (Nat.le_of_eq H4.out.symm) HS.2.size
        have h56 : (w4).heap.size ≠ _ := Nat.ne_of_gt r6.lt
        have r50 := RowAt.new (w4) 169 64 (fun _ => 0)
        have hb := (Below.refl (w4).heap.size (w4)).alloc (Nat.le_refl _) (.cells (arr 64 fun _ => 0) 169 (0, 0))
        generalize (w4).alloc (.cells (arr 64 fun _ => 0) 169 (0, 0)) = w5 at hb r50 ⊢
        replace HS := keepS H4.out hb HS
        replace r6 := r6.below hb r6.lt
        clear hb
        refine ⟨HS, ?_⟩
        have r5 := r50
        clear r50
        refine wpAnyH_all (rs := [5]) (by kernel_rfl) (by simp) ?_
        intro i hi
        obtain rfl := List.mem_singleton.1 hi
        refine step_store rfl rfl rfl 169 (.tmp 5) (.tmp 12) rfl w4.heap.size (arr 64 (wod l)) (by kernel_rfl) (by kernel_rfl) 169 _ r5 (by rw [arr_size]; kernel_rfl) rfl (arr_one 64 (wod l)) ?_
        refine ⟨⟨setRow_row HS.1 (by omega) _, below_setRow HS.2 l5 _⟩, ?_⟩
        refine wpAnyH_all (rs := [6]) (by kernel_rfl) (by simp) ?_
        intro i hi
        obtain rfl := List.mem_singleton.1 hi
        refine step_store rfl rfl rfl 109 (.tmp 6) (.tmp 13) rfl w3.heap.size (arr 8 s) (by kernel_rfl) (by kernel_rfl) 109 _ (setRow_row r6 (Ne.symm h56) _) (by rw [arr_size]; kernel_rfl) rfl (arr_one 8 s) ?_
        refine ⟨⟨setRow_row (setRow_row HS.1 (by omega) _) (by omega) _, below_setRow (below_setRow HS.2 l5 _) l6 _⟩, ?_⟩
        refine wpAnyH_done (by kernel_rfl) ?_ _
        go_wp2_with fail
        go_meet
        exact ⟨_, _, rfl, rfl, setRow_row (setRow_new r5 _) h56 _, setRow_new (setRow_row r6 (Ne.symm h56) _) _, l5, l6, h56, below_setRow (below_setRow HS.2 l5 _) l6 _⟩
    · skip
      refine step_val (some 5) rfl rfl rfl _ _ (alloc_run64 _ _ _ rfl) ?_
      have l5 : n + 2 ≤ (w2).heap.size := Nat.le_trans (Nat.le_of_eq H4.out.symm) HS.2.size
      have r50 := RowAt.new (w2) 169 64 (fun _ => 0)
      have hb := (Below.refl (w2).heap.size (w2)).alloc (Nat.le_refl _) (.cells (arr 64 fun _ => 0) 169 (0, 0))
      generalize (w2).alloc (.cells (arr 64 fun _ => 0) 169 (0, 0)) = w3 at hb r50 ⊢
      replace HS := keepS H4.out hb HS
      clear hb
      refine ⟨HS, ?_⟩
      have r5 := r50
      clear r50
      refine wpAnyH_all (rs := [1, 4]) (by kernel_rfl) (by simp) ?_
      intro i hi
      simp only [List.mem_cons, List.not_mem_nil, or_false] at hi
      rcases hi with rfl | rfl
      · skip
        refine step_call (some 12) rfl rfl rfl 128 #[.slice (some ⟨g, o, none⟩) 64 c] (by first | rfl | (simp [execOp, go_sem]; done)) ?_
        refine (words_of _ _ _ _ _ hc (byts_of H1.out H4.out HS.2)).mono ?_
        rintro e w4 ⟨rfl, hb⟩
        refine ⟨_, rfl, ?_⟩
        replace HS := keepS H4.out hb HS
        replace r5 := r5.below hb r5.lt
        clear hb
        refine ⟨HS, ?_⟩
        refine wpAnyH_all (rs := [4]) (by kernel_rfl) (by simp) ?_
        intro i hi
        obtain rfl := List.mem_singleton.1 hi
        refine step_val (some 6) rfl rfl rfl _ _ (alloc_run8 _ _ _ rfl) ?_
        have l6 : n + 2 ≤ (w4).heap.size := Nat.le_trans (Nat.le_of_eq H4.out.symm) HS.2.size
        have h56 := Nat.ne_of_lt r5.lt
        have r60 := RowAt.new (w4) 109 8 (fun _ => 0)
        have hb := (Below.refl (w4).heap.size (w4)).alloc (Nat.le_refl _) (.cells (arr 8 fun _ => 0) 109 (0, 0))
        generalize (w4).alloc (.cells (arr 8 fun _ => 0) 109 (0, 0)) = w5 at hb r60 ⊢
        replace HS := keepS H4.out hb HS
        replace r5 := r5.below hb r5.lt
        clear hb
        refine ⟨HS, ?_⟩
        have r6 := r60
        clear r60
        refine wpAnyH_all (rs := [5]) (by kernel_rfl) (by simp) ?_
        intro i hi
        obtain rfl := List.mem_singleton.1 hi
        refine step_store rfl rfl rfl 169 (.tmp 5) (.tmp 12) rfl w2.heap.size (arr 64 (wod l)) (by kernel_rfl) (by kernel_rfl) 169 _ r5 (by rw [arr_size]; kernel_rfl) rfl (arr_one 64 (wod l)) ?_
        refine ⟨⟨setRow_row HS.1 (by omega) _, below_setRow HS.2 l5 _⟩, ?_⟩
        refine wpAnyH_all (rs := [6]) (by kernel_rfl) (by simp) ?_
        intro i hi
        obtain rfl := List.mem_singleton.1 hi
        refine step_store rfl rfl rfl 109 (.tmp 6) (.tmp 13) rfl w4.heap.size (arr 8 s) (by kernel_rfl) (by kernel_rfl) 109 _ (setRow_row r6 (Ne.symm h56) _) (by rw [arr_size]; kernel_rfl) rfl (arr_one 8 s) ?_
        refine ⟨⟨setRow_row (setRow_row HS.1 (by omega) _) (by omega) _, below_setRow (below_setRow HS.2 l5 _) l6 _⟩, ?_⟩
        refine wpAnyH_done (by kernel_rfl) ?_ _
        go_wp2_with fail
        go_meet
        exact ⟨_, _, rfl, rfl, setRow_row (setRow_new r5 _) h56 _, setRow_new (setRow_row r6 (Ne.symm h56) _) _, l5, l6, h56, below_setRow (below_setRow HS.2 l5 _) l6 _⟩
      · skip
        refine step_val (some 6) rfl rfl rfl _ _ (alloc_run8 _ _ _ rfl) ?_
        have l6 : n + 2 ≤ (w3).heap.size := Nat.le_trans (Nat.le_of_eq H4.out.symm) HS.2.size
        have h56 := Nat.ne_of_lt r5.lt
        have r60 := RowAt.new (w3) 109 8 (fun _ => 0)
        have hb := (Below.refl (w3).heap.size (w3)).alloc (Nat.le_refl _) (.cells (arr 8 fun _ => 0) 109 (0, 0))
        generalize (w3).alloc (.cells (arr 8 fun _ => 0) 109 (0, 0)) = w4 at hb r60 ⊢
        replace HS := keepS H4.out hb HS
        replace r5 := r5.below hb r5.lt
        clear hb
        refine ⟨HS, ?_⟩
        have r6 := r60
        clear r60
        refine wpAnyH_all (rs := [1]) (by kernel_rfl) (by simp) ?_
        intro i hi
        obtain rfl := List.mem_singleton.1 hi
        refine step_call (some 12) rfl rfl rfl 128 #[.slice (some ⟨g, o, none⟩) 64 c] (by first | rfl | (simp [execOp, go_sem]; done)) ?_
        refine (words_of _ _ _ _ _ hc (byts_of H1.out H4.out HS.2)).mono ?_
        rintro e w5 ⟨rfl, hb⟩
        refine ⟨_, rfl, ?_⟩
        replace HS := keepS H4.out hb HS
        replace r5 := r5.below hb r5.lt
        replace r6 := r6.below hb r6.lt
        clear hb
        refine ⟨HS, ?_⟩
        refine wpAnyH_all (rs := [5]) (by kernel_rfl) (by simp) ?_
        intro i hi
        obtain rfl := List.mem_singleton.1 hi
        refine step_store rfl rfl rfl 169 (.tmp 5) (.tmp 12) rfl w2.heap.size (arr 64 (wod l)) (by kernel_rfl) (by kernel_rfl) 169 _ r5 (by rw [arr_size]; kernel_rfl) rfl (arr_one 64 (wod l)) ?_
        refine ⟨⟨setRow_row HS.1 (by omega) _, below_setRow HS.2 l5 _⟩, ?_⟩
        refine wpAnyH_all (rs := [6]) (by kernel_rfl) (by simp) ?_
        intro i hi
        obtain rfl := List.mem_singleton.1 hi
        refine step_store rfl rfl rfl 109 (.tmp 6) (.tmp 13) rfl w3.heap.size (arr 8 s) (by kernel_rfl) (by kernel_rfl) 109 _ (setRow_row r6 (Ne.symm h56) _) (by rw [arr_size]; kernel_rfl) rfl (arr_one 8 s) ?_
        refine ⟨⟨setRow_row (setRow_row HS.1 (by omega) _) (by omega) _, below_setRow (below_setRow HS.2 l5 _) l6 _⟩, ?_⟩
        refine wpAnyH_done (by kernel_rfl) ?_ _
        go_wp2_with fail
        go_meet
        exact ⟨_, _, rfl, rfl, setRow_row (setRow_new r5 _) h56 _, setRow_new (setRow_row r6 (Ne.symm h56) _) _, l5, l6, h56, below_setRow (below_setRow HS.2 l5 _) l6 _⟩
    · skip
      refine step_val (some 6) rfl rfl rfl _ _ (alloc_run8 _ _ _ rfl) ?_
      have l6 : n + 2 ≤ (w2).heap.size := Nat.le_trans (Nat.le_of_eq H4.out.symm) HS.2.size
      have r60 := RowAt.new (w2) 109 8 (fun _ => 0)
      have hb := (Below.refl (w2).heap.size (w2)).alloc (Nat.le_refl _) (.cells (arr 8 fun _ => 0) 109 (0, 0))
      generalize (w2).alloc (.cells (arr 8 fun _ => 0) 109 (0, 0)) = w3 at hb r60 ⊢
      replace HS := keepS H4.out hb HS
      clear hb
      refine ⟨HS, ?_⟩
      have r6 := r60
      clear r60
      refine wpAnyH_all (rs := [1, 3]) (by kernel_rfl) (by simp) ?_
      intro i hi
      simp only [List.mem_cons, List.not_mem_nil, or_false] at hi
      rcases hi with rfl | rfl
      · skip
        refine step_call (some 12) rfl rfl rfl 128 #[.slice (some ⟨g, o, none⟩) 64 c] (by first | rfl | (simp [execOp, go_sem]; done)) ?_
        refine (words_of _ _ _ _ _ hc (byts_of H1.out H4.out HS.2)).mono ?_
        rintro e w4 ⟨rfl, hb⟩
        refine ⟨_, rfl, ?_⟩
        replace HS := keepS H4.out hb HS
        replace r6 := r6.below hb r6.lt
        clear hb
        refine ⟨HS, ?_⟩
        refine wpAnyH_all (rs := [3]) (by kernel_rfl) (by simp) ?_
        intro i hi
        obtain rfl := List.mem_singleton.1 hi
        refine step_val (some 5) rfl rfl rfl _ _ (alloc_run64 _ _ _ rfl) ?_
        have l5 : n + 2 ≤ (w4).heap.size := Nat.le_trans (Nat.le_of_eq H4.out.symm) HS.2.size
        have h56 : (w4).heap.size ≠ _ := Nat.ne_of_gt r6.lt
        have r50 := RowAt.new (w4) 169 64 (fun _ => 0)
        have hb := (Below.refl (w4).heap.size (w4)).alloc (Nat.le_refl _) (.cells (arr 64 fun _ => 0) 169 (0, 0))
        generalize (w4).alloc (.cells (arr 64 fun _ => 0) 169 (0, 0)) = w5 at hb r50 ⊢
        replace HS := keepS H4.out hb HS
        replace r6 := r6.below hb r6.lt
        clear hb
        refine ⟨HS, ?_⟩
        have r5 := r50
        clear r50
        refine wpAnyH_all (rs := [5]) (by kernel_rfl) (by simp) ?_
        intro i hi
        obtain rfl := List.mem_singleton.1 hi
        refine step_store rfl rfl rfl 169 (.tmp 5) (.tmp 12) rfl w4.heap.size (arr 64 (wod l)) (by kernel_rfl) (by kernel_rfl) 169 _ r5 (by rw [arr_size]; kernel_rfl) rfl (arr_one 64 (wod l)) ?_
        refine ⟨⟨setRow_row HS.1 (by omega) _, below_setRow HS.2 l5 _⟩, ?_⟩
        refine wpAnyH_all (rs := [6]) (by kernel_rfl) (by simp) ?_
        intro i hi
        obtain rfl := List.mem_singleton.1 hi
        refine step_store rfl rfl rfl 109 (.tmp 6) (.tmp 13) rfl w2.heap.size (arr 8 s) (by kernel_rfl) (by kernel_rfl) 109 _ (setRow_row r6 (Ne.symm h56) _) (by rw [arr_size]; kernel_rfl) rfl (arr_one 8 s) ?_
        refine ⟨⟨setRow_row (setRow_row HS.1 (by omega) _) (by omega) _, below_setRow (below_setRow HS.2 l5 _) l6 _⟩, ?_⟩
        refine wpAnyH_done (by kernel_rfl) ?_ _
        go_wp2_with fail
        go_meet
        exact ⟨_, _, rfl, rfl, setRow_row (setRow_new r5 _) h56 _, setRow_new (setRow_row r6 (Ne.symm h56) _) _, l5, l6, h56, below_setRow (below_setRow HS.2 l5 _) l6 _⟩
      · skip
        refine step_val (some 5) rfl rfl rfl _ _ (alloc_run64 _ _ _ rfl) ?_
        have l5 : n + 2 ≤ (w3).heap.size := Nat.le_trans (Nat.le_of_eq H4.out.symm) HS.2.size
        have h56 : (w3).heap.size ≠ _ := Nat.ne_of_gt r6.lt
        have r50 := RowAt.new (w3) 169 64 (fun _ => 0)
        have hb := (Below.refl (w3).heap.size (w3)).alloc (Nat.le_refl _) (.cells (arr 64 fun _ => 0) 169 (0, 0))
        generalize (w3).alloc (.cells (arr 64 fun _ => 0) 169 (0, 0)) = w4 at hb r50 ⊢
        replace HS := keepS H4.out hb HS
        replace r6 := r6.below hb r6.lt
        clear hb
        refine ⟨HS, ?_⟩
        have r5 := r50
        clear r50
        refine wpAnyH_all (rs := [1]) (by kernel_rfl) (by simp) ?_
        intro i hi
        obtain rfl := List.mem_singleton.1 hi
        refine step_call (some 12) rfl rfl rfl 128 #[.slice (some ⟨g, o, none⟩) 64 c] (by first | rfl | (simp [execOp, go_sem]; done)) ?_
        refine (words_of _ _ _ _ _ hc (byts_of H1.out H4.out HS.2)).mono ?_
        rintro e w5 ⟨rfl, hb⟩
        refine ⟨_, rfl, ?_⟩
        replace HS := keepS H4.out hb HS
        replace r5 := r5.below hb r5.lt
        replace r6 := r6.below hb r6.lt
        clear hb
        refine ⟨HS, ?_⟩
        refine wpAnyH_all (rs := [5]) (by kernel_rfl) (by simp) ?_
        intro i hi
        obtain rfl := List.mem_singleton.1 hi
        refine step_store rfl rfl rfl 169 (.tmp 5) (.tmp 12) rfl w3.heap.size (arr 64 (wod l)) (by kernel_rfl) (by kernel_rfl) 169 _ r5 (by rw [arr_size]; kernel_rfl) rfl (arr_one 64 (wod l)) ?_
        refine ⟨⟨setRow_row HS.1 (by omega) _, below_setRow HS.2 l5 _⟩, ?_⟩
        refine wpAnyH_all (rs := [6]) (by kernel_rfl) (by simp) ?_
        intro i hi
        obtain rfl := List.mem_singleton.1 hi
        refine step_store rfl rfl rfl 109 (.tmp 6) (.tmp 13) rfl w2.heap.size (arr 8 s) (by kernel_rfl) (by kernel_rfl) 109 _ (setRow_row r6 (Ne.symm h56) _) (by rw [arr_size]; kernel_rfl) rfl (arr_one 8 s) ?_
        refine ⟨⟨setRow_row (setRow_row HS.1 (by omega) _) (by omega) _, below_setRow (below_setRow HS.2 l5 _) l6 _⟩, ?_⟩
        refine wpAnyH_done (by kernel_rfl) ?_ _
        go_wp2_with fail
        go_meet
        exact ⟨_, _, rfl, rfl, setRow_row (setRow_new r5 _) h56 _, setRow_new (setRow_row r6 (Ne.symm h56) _) _, l5, l6, h56, below_setRow (below_setRow HS.2 l5 _) l6 _⟩
  case rest =>
    obtain ⟨b5, b6, rfl, rfl, r5, r6, l5, l6, h56, hB⟩ := hcut
    have HR2 := Lib.hid h2
    have HR1 := Lib.hid h1
    have H3 := Lib.hid h3
    clear h1 h2 h3
    go_wp2_with fail
    go_loopw [14] (fun i wr => ∃ k : Nat, k ≤ 64 ∧ i = .int .i64 k ∧ Below (n + 2) w1 wr ∧ RowAt wr b5 169 64 (wod l) ∧ RowAt wr b6 109 8 (rnds K (wod l) s k)) (fun i _ => 64 - (intOf i).toNat)
    case atStart => exact ⟨0, by omega, rfl, hB, r5, r6⟩
    case round =>
      obtain ⟨k, hk, rfl, hb, q5, q6⟩ := hrel
      by_cases hlt : k < 64
      · have hq := HQ1.out.below hb (Nat.lt_of_lt_of_le HQN.out (Nat.le_add_right _ _))
        have hcu := hq.cell (k := k) hlt
        have hwo := q5.cell (k := k) hlt
        have X := Lib.hid (rnds_ok K (wod l) s HX.out k)
        have x0 := q6.cell (k := 0) (by omega)
        have x1 := q6.cell (k := 1) (by omega)
        have x2 := q6.cell (k := 2) (by omega)
        have x4 := q6.cell (k := 4) (by omega)
        have x5 := q6.cell (k := 5) (by omega)
        have x6 := q6.cell (k := 6) (by omega)
        have x7 := q6.cell (k := 7) (by omega)
        obtain ⟨a0, a1⟩ := X.out 0
        obtain ⟨e0, e1⟩ := X.out 4
        clear hq
        go_wp2_with fail
        go_quiet ((go_at_call 129; exact Calls.quiet_of_same ((three_any _ 6 11 25 _ e0 e1 (by decide) (by decide) (by decide) (by decide) (by decide) (by decide)).mono fun e w' h => ⟨h.1, h.2.symm⟩)))
        go_wp2_with fail
        clear x0 x1 x2 x4 x5 x6 x7 hcu hwo
        replace q5 := q5.drewN nq
        replace q6 := q6.drewN nq
        replace hb := below_drewN hb nq
        generalize wr.drewN nq = w4 at q5 q6 hb ⊢
        have x0 := q6.cell (k := 0) (by omega)
        have x1 := q6.cell (k := 1) (by omega)
        have x2 := q6.cell (k := 2) (by omega)
        go_quiet ((go_at_call 129; exact Calls.quiet_of_same ((three_any _ 2 13 22 _ a0 a1 (by decide) (by decide) (by decide) (by decide) (by decide) (by decide)).mono fun e w' h => ⟨h.1, h.2.symm⟩)))
        clear x0 x1 x2
        replace q5 := q5.drewN nq
        replace q6 := q6.drewN nq
        replace hb := below_drewN hb nq
        generalize w4.drewN nq = w5 at q5 q6 hb ⊢
        go_wp2_with fail
        have Q6 := Lib.hid (show w5.drew.heap[b6]? = some (.cells (arr 8 (rnds K (wod l) s k)) 109 (0, 0)) from q6)
        go_region_law (refine step_copy_own rfl (.tmp 61) (.tmp 62) 110 110 rfl 108 Tryz.underlying110 (by kernel_rfl) b6 1 7 7 ⟨b6, 0, none⟩ 7 8 (by rfl) (by rfl) (arr 8 (rnds K (wod l) s k)) 109 Q6.out ((List.range 7).map fun i => .int .u32 (rnds K (wod l) s k i)) rfl (copy_src Q6.out) (by rw [arr_size]; simp) (by simp [Value.oneCell']) (arr 8 (sh (rnds K (wod l) s k))) rfl ?_)
        have hbd : Below (n + 2) w1 w5.drew := below_drewN hb 1
        have q50 : RowAt (w5.drew.setRow b6 (arr 8 (sh (rnds K (wod l) s k)))) b5 169 64 (wod l) := setRow_row q5.drew h56 _
        have q60 : RowAt (w5.drew.setRow b6 (arr 8 (sh (rnds K (wod l) s k)))) b6 109 8 (sh (rnds K (wod l) s k)) := setRow_new q6.drew _
        have hb0 : Below (n + 2) w1 (w5.drew.setRow b6 (arr 8 (sh (rnds K (wod l) s k)))) := below_setRow hbd l6 _
        clear q5 q6 hb hbd Q6
        generalize w5.drew.setRow b6 (arr 8 (sh (rnds K (wod l) s k))) = w6 at q50 q60 hb0 ⊢
        have x0 := q60.cell (k := 0) (by omega)
        have x4 := q60.cell (k := 4) (by omega)
        have f0 := q60.free 0
        have f4 := q60.free 4
        go_wp2_with fail
        go_roundw
        case rel =>
          refine ⟨k + 1, by omega, by go_num, (hb0.setCell l6 _).setCell l6 _, (q50.other h56).other h56, (q60.set (f' := mid K (wod l) k (rnds K (wod l) s k)) (by omega) ?_ (mid_ne _ _ _ _)).set (f' := rnds K (wod l) s (k + 1)) (by omega) ?_ (rnd_ne _ _ _ _)⟩
          · show _ = (tsum K (wod l) k (rnds K (wod l) s k) + usum (rnds K (wod l) s k)) % 4294967296
            unfold tsum usum chv majv xor
            omega
          · show _ = (rnds K (wod l) s k 3 + tsum K (wod l) k (rnds K (wod l) s k)) % 4294967296
            unfold tsum chv xor
            show (rnds K (wod l) s k 3 + _) % _ = _
            omega
        case measure => simp [intOf]; omega
      · obtain rfl : k = 64 := by omega
        go_wp2_with fail
        have t1 := HR1.out.below hb (by omega)
        have t2 := HR2.out.below hb (by omega)
        have hb' := hb.mono (show n ≤ n + 2 by omega)
        clear hb q5
        go_loopw [74] (fun i wr => ∃ k : Nat, k ≤ 8 ∧ i = .int .i64 k ∧ Below n w1 wr ∧ RowAt wr n 109 8 (sm s (rnds K (wod l) s 64) k) ∧ RowAt wr b6 109 8 (rnds K (wod l) s 64) ∧ RowAt wr (n + 1) 109 8 (fun _ => 0)) (fun i _ => 8 - (intOf i).toNat)
        case atStart => exact ⟨0, by omega, rfl, hb', t1, q6, t2⟩
        case round =>
          obtain ⟨k, hk, rfl, hb, q1, q6, q2⟩ := hrel
          by_cases hlt : k < 8
          · go_wp2_with fail
            refine wp_region_still_tail 8 (by kernel_rfl) (by kernel_rfl) ?_
            simp only [List.take_succ_cons, List.take_zero, List.drop_succ_cons, List.drop_zero]
            change wpStill _ _ wr.drew (fun _ => wpList _ _ _ _ _ wr.drew) _ _
            replace q1 := q1.drew
            replace q2 := q2.drew
            replace q6 := q6.drew
            replace hb := below_drewN hb 1
            change Below n w1 wr.drew at hb
            generalize wr.drew = w7 at q1 q2 q6 hb ⊢
            have c1 := (q1.cell hlt).trans (by rw [sm_old])
            have c6 := q6.cell hlt
            have f1 := q1.free k
            have g0 : (0 : Int) ≤ k := by omega
            have g1 : (k : Int) < 8 := by omega
            repeat still_step
            try refine wpStill_nil ?_
            go_wp2_with fail
            refine ⟨?_, ?measure⟩
            (repeat apply Exists.intro)
            refine ⟨?rel, rfl⟩
            case rel => exact ⟨k + 1, by omega, by go_num, hb.setCell (Nat.le_refl _) _, q1.set hlt (by rw [sm_at]) (sm_step _ _ _), q6.other (by omega), q2.other (by omega)⟩
            case measure => simp [intOf]; omega
          · obtain rfl : k = 8 := by omega
            go_wp2_with (first
              | (refine wpList_load_row rfl 109 _ rfl n rfl 109 (arr 8 (sm s (rnds K (wod l) s 64) 8)) (0, 0) _ q1 Tryz.underlying109 rfl (by rw [arr_size]; kernel_rfl) ?_)
              | (refine wpList_store_row rfl 109 _ _ rfl (n + 1) (arr 8 (sm s (rnds K (wod l) s 64) 8)) rfl rfl 109 _ q2 (by rw [arr_size]; kernel_rfl) rfl (arr_one 8 _) ?_))
            have HL := run_loadVar_row (P := Tryz.prog) (wr.setRow (n + 1) (arr 8 (sm s (rnds K (wod l) s 64) 8))) (n + 1) 109 109 _ (0, 0) _ (setRow_heap wr (n + 1) _ (arr 8 (sm s (rnds K (wod l) s 64) 8)) _ _ q2) Tryz.underlying109 rfl (by rw [arr_size]; kernel_rfl)
            refine bodyPost_ret (v := .agg (arr 8 (sm s (rnds K (wod l) s 64) 8))) (results_cell Tryz.results85 rfl HL) rfl ⟨rfl, ?_⟩
            rw [HN.out]
            exact H3.out.trans (below_setRow hb (by omega) _)
end Go.Proofs.YtecahdjopdfeeaaGreatDoor
