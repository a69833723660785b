/- words: the sixty-four of a block, as both programs have them. -/
import Derived.Test.YtecahdjopdfeeaaGreatDoorSr
import Derived.StillTailTactics
import Derived.IntWalk
namespace Go.Proofs.YtecahdjopdfeeaaGreatDoor
open Go.RowKit
def xor (x y : Int) : Int := bits .xor .u32 x y
def sg0 (x : Int) : Int := xor (xor (rot x 7) (rot x 18)) (x / 8)
def sg1 (x : Int) : Int := xor (xor (rot x 17) (rot x 19)) (x / 1024)
/-- the schedule's word i -/
def wod (l : List Int) (i : Nat) : Int :=
  if i < 16 then nm (l.drop (4 * i)) 4 else
  (wod l (i - 16) + sg0 (wod l (i - 15)) + wod l (i - 7) + sg1 (wod l (i - 2))) % 4294967296
  termination_by i
def upto (f : Nat → Int) (k i : Nat) : Int := if i < k then f i else 0
theorem upto_step (f : Nat → Int) (k : Nat) : ∀ j, j < 64 → j ≠ k → upto f (k + 1) j = upto f k j := by
  intro j _ hj
  unfold upto
  by_cases h : j < k
  · rw [if_pos h, if_pos (by omega)]
  · rw [if_neg h, if_neg (by omega)]
theorem upto_lt (f : Nat → Int) {k i : Nat} (h : i < k) : upto f k i = f i := if_pos h
theorem Byts.part {w : World} {g o n : Nat} {l : List Int} (h : Byts w g o n l) (i m : Nat) (hm : i + m ≤ n) : Byts w g (o + i) m ((l.drop i).take m) := by
  have hl := h.len
  have e : ∀ j, ((l.drop i).take m).getD j 0 = if j < m then l.getD (i + j) 0 else 0 := by
    intro j
    by_cases hj : j < m
    · rw [if_pos hj]; simp [List.getD, hj, List.getElem?_drop]
    · rw [if_neg hj]; simp [List.getD, List.getElem?_take, hj]
  refine ⟨by simp [hl]; omega, fun j hj => ?_, fun j => ?_, fun j => ?_⟩
  · rw [Nat.add_assoc, h.at_ (i + j) (by omega), e, if_pos hj]
  · rw [e]; split
    · exact h.lo _
    · exact Int.le_refl _
  · rw [e]; split
    · exact h.hi _
    · omega
theorem nm_part (l : List Int) (i m : Nat) : ∀ k, k ≤ m → nm ((l.drop i).take m) k = nm (l.drop i) k
  | 0, _ => rfl
  | k + 1, h => by
    rw [nm, nm, nm_part l i m k (by omega)]
    congr 1
    have : k < m := by omega
    simp [List.getD, this]
theorem nm4_bound (l : List Int) (lo : ∀ i, 0 ≤ l.getD i 0) (hi : ∀ i, l.getD i 0 ≤ 255) : 0 ≤ nm l 4 ∧ nm l 4 < 4294967296 := by
  have := nm_bound l lo hi 4
  simpa using this
theorem Byts.four {w : World} {g o : Nat} {l : List Int} (h : Byts w g o 64 l) {k : Nat} (hk : k < 16) : Byts w g (o + 4 * k) 4 ((l.drop (4 * k)).take 4) := h.part (4 * k) 4 (by omega)
theorem Byts.wd {w : World} {g o : Nat} {l : List Int} (h : Byts w g o 64 l) {k : Nat} (hk : k < 16) : nm ((l.drop (4 * k)).take 4) 4 = wod l k ∧ 0 ≤ wod l k ∧ wod l k < 4294967296 := by
  have h4 := h.four hk
  have := nm4_bound _ h4.lo h4.hi
  have e : nm ((l.drop (4 * k)).take 4) 4 = wod l k := by
    rw [wod, if_pos hk, nm_part l (4 * k) 4 4 (Nat.le_refl _)]
  rw [e] at this
  exact ⟨e, this⟩
theorem Byts.wdb {w : World} {g o : Nat} {l : List Int} (h : Byts w g o 64 l) (k : Nat) : 0 ≤ wod l k ∧ wod l k < 4294967296 := by
  by_cases hk : k < 16
  · exact (h.wd hk).2
  · rw [wod, if_neg hk]; omega
theorem wd_step (l : List Int) (j : Nat) : wod l (j + 16) = (wod l j + sg0 (wod l (j + 1)) + wod l (j + 9) + sg1 (wod l (j + 14))) % 4294967296 := by
  rw [wod, if_neg (by omega), show j + 16 - 16 = j by omega, show j + 16 - 15 = j + 1 by omega, show j + 16 - 7 = j + 9 by omega, show j + 16 - 2 = j + 14 by omega]
set_option maxRecDepth 8000 in
set_option maxHeartbeats 2000000 in
theorem words_of (w : World) (g o c : Nat) (l : List Int) (hc : 64 ≤ c) (h : Byts w g o 64 l) :
    Calls Tryz.prog 128 #[.slice (some ⟨g, o, none⟩) 64 c] w fun e w' => e = .returned (.agg (arr 64 (wod l))) ∧ Below w.heap.size w w' := by
  have H := Lib.hid h
  clear h
  go_enter Tryz.func128, Tryz.ntmps128
  go_wp2
  go_loopw [9] (fun i wr => ∃ k : Nat, k ≤ 16 ∧ i = .int .i64 k ∧ Below w.heap.size w wr ∧ RowAt wr w.heap.size 169 64 (upto (wod l) k)) (fun i _ => 16 - (intOf i).toNat)
  case atStart => exact ⟨0, Nat.zero_le _, rfl, (Below.refl _ _).alloc (Nat.le_refl _) _, RowAt.new w _ 64 (upto (wod l) 0)⟩
  case round =>
    obtain ⟨k, hk, rfl, hb, hr⟩ := hrel
    by_cases hlt : k < 16
    · have HB := Lib.hid (H.out.below hb)
      obtain ⟨e1, e2, e3⟩ := HB.out.wd hlt
      have E1 := Lib.hid e1
      clear e1
      have hx := hr.cell (k := k) (by omega)
      have hf := hr.free k
      go_wp2_with (go_at_call 154; refine (number4 _ _ _ _ _ (HB.out.four hlt)).mono ?_; rintro e w' ⟨rfl, rfl⟩; rw [E1.out])
      all_goals
        go_roundw
        case rel => exact ⟨k + 1, by omega, by go_num, hb.setCell (Nat.le_refl _) _, hr.set (by omega) (by rw [upto_lt _ (by omega)]) (upto_step _ _)⟩
        case measure => simp [intOf]; omega
    · obtain rfl : k = 16 := by omega
      go_wp2
      go_loopw [6] (fun i wr => ∃ k : Nat, 16 ≤ k ∧ k ≤ 64 ∧ i = .int .i64 k ∧ Below w.heap.size w wr ∧ RowAt wr w.heap.size 169 64 (upto (wod l) k)) (fun i _ => 64 - (intOf i).toNat)
      case atStart => exact ⟨16, by omega, by omega, rfl, hb, hr⟩
      case round =>
        obtain ⟨k, hk0, hk, rfl, hb, hr⟩ := hrel
        by_cases hlt : k < 64
        · obtain ⟨j, rfl⟩ : ∃ j, k = j + 16 := ⟨k - 16, by omega⟩
          have r16 := (hr.cell (k := j) (by omega)).trans (by rw [upto_lt _ (by omega)])
          have r15 := (hr.cell (k := j + 1) (by omega)).trans (by rw [upto_lt _ (by omega)])
          have r7 := (hr.cell (k := j + 9) (by omega)).trans (by rw [upto_lt _ (by omega)])
          have r2 := (hr.cell (k := j + 14) (by omega)).trans (by rw [upto_lt _ (by omega)])
          have hx := hr.cell (k := j + 16) (by omega)
          have hf := hr.free (j + 16)
          have i15 : ((j : Int) + 16 - 15).toNat = j + 1 := by omega
          have i2 : ((j : Int) + 16 - 2).toNat = j + 14 := by omega
          have w15 : IntKind.i64.wrap ((j : Int) + 16 - 15) = (j : Int) + 16 - 15 := IntWalk.i64_in _ (by omega)
          have w2 : IntKind.i64.wrap ((j : Int) + 16 - 2) = (j : Int) + 16 - 2 := IntWalk.i64_in _ (by omega)
          go_wp2_with fail
          go_quiet (fail)
          go_wp2_with fail
          obtain ⟨b10, b11⟩ := H.out.wdb (j + 1)
          obtain ⟨b20, b21⟩ := H.out.wdb (j + 14)
          have hb2 : Below w.heap.size w (wr.drewN nq).drew := below_drewN hb (nq + 1)
          have hr2 : RowAt (wr.drewN nq).drew w.heap.size 169 64 (upto (wod l) (j + 16)) := hr.drewN (nq + 1)
          clear r16 r15 r7 r2 hx hf w15 w2 i15 i2
          refine wp_region_still_tail 29 (by kernel_rfl) (by kernel_rfl) ?_
          simp only [List.take_succ_cons, List.take_zero, List.drop_succ_cons, List.drop_zero]
          change wpStill _ _ (wr.drewN nq).drew (fun _ => wpList _ _ _ _ _ (wr.drewN nq).drew) _ _
          generalize (wr.drewN nq).drew = w2 at hb2 hr2 ⊢
          have r16 := (hr2.cell (k := j) (by omega)).trans (by rw [upto_lt _ (by omega)])
          have r7 := (hr2.cell (k := j + 9) (by omega)).trans (by rw [upto_lt _ (by omega)])
          have hx := hr2.cell (k := j + 16) (by omega)
          have hf := hr2.free (j + 16)
          have i16 : ((j : Int) + 16).toNat = j + 16 := by omega
          have i7 : ((j : Int) + 16 - 7).toNat = j + 9 := by omega
          have w16 : IntKind.i64.wrap (j : Int) = (j : Int) := IntWalk.i64_in _ (by omega)
          have w7 : IntKind.i64.wrap ((j : Int) + 16 - 7) = (j : Int) + 16 - 7 := IntWalk.i64_in _ (by omega)
          have g0 : (0 : Int) ≤ j := by omega
          have g1 : (j : Int) < 64 := by omega
          have g2 : (0 : Int) ≤ (j : Int) + 16 - 7 := by omega
          have g3 : (j : Int) + 16 - 7 < 64 := by omega
          have g6 : (7 : Int) ≤ (j : Int) + 16 := by omega
          have g4 : (0 : Int) ≤ (j : Int) + 16 := by omega
          have g5 : (j : Int) + 16 < 64 := by omega
          repeat still_step
          still_call ((rotate_any _ 7 _ b10 b11 (by decide) (by decide)).mono fun e w' h => ⟨h.1, h.2.symm⟩)
          repeat still_step
          still_call ((rotate_any _ 18 _ b10 b11 (by decide) (by decide)).mono fun e w' h => ⟨h.1, h.2.symm⟩)
          repeat still_step
          still_call ((rotate_any _ 17 _ b20 b21 (by decide) (by decide)).mono fun e w' h => ⟨h.1, h.2.symm⟩)
          repeat still_step
          still_call ((rotate_any _ 19 _ b20 b21 (by decide) (by decide)).mono fun e w' h => ⟨h.1, h.2.symm⟩)
          repeat still_step
          try refine wpStill_nil ?_
          go_wp2_with fail
          refine ⟨?_, ?measure⟩
          (repeat apply Exists.intro)
          refine ⟨?rel, rfl⟩
          case rel => exact ⟨j + 17, by omega, by omega, by go_num, hb2.setCell (Nat.le_refl _) _, hr2.set (by omega) (by rw [upto_lt _ (by omega), wd_step]; rfl) (upto_step _ _)⟩
          case measure => simp [intOf]; omega
        · obtain rfl : k = 64 := by omega
          have hrf := hr.ext (f' := wod l) fun j hj => upto_lt _ hj
          go_wp2_with (first
            | (refine wpList_load_row rfl 169 _ rfl w.heap.size rfl 169 (arr 64 (wod l)) (0, 0) _ hrf Tryz.underlying169 rfl (by rw [arr_size]; kernel_rfl) ?_)
            | (refine wpList_store_row rfl 169 _ _ rfl w.heap.size (arr 64 (wod l)) rfl rfl 169 _ hrf (by rw [arr_size]; kernel_rfl) rfl (arr_one 64 (wod l)) ?_))
          have HL := run_loadVar_row (P := Tryz.prog) (wr.setRow w.heap.size (arr 64 (wod l))) w.heap.size 169 169 _ (0, 0) _ (setRow_heap wr w.heap.size _ (arr 64 (wod l)) _ _ hrf) Tryz.underlying169 rfl (by rw [arr_size]; kernel_rfl)
          exact bodyPost_ret (v := .agg (arr 64 (wod l))) (results_cell Tryz.results128 rfl HL) rfl ⟨rfl, below_setRow hb (Nat.le_refl _) _⟩
end Go.Proofs.YtecahdjopdfeeaaGreatDoor
