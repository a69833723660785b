/- The walk of AllocNobody: sets that no call made have nothing. -/
import Derived.Test.YtaadbikaeofnoaaDoorAm
import Derived.LaidHandle
namespace Go.Proofs.YtaadbikaeofnoaaDoor
open Go.RowKit

/-- nil, or a set that no call made -/
def NoSet (w : World) (v : Value) : Prop := v = .pointer none ∨ ∃ b, v = .pointer (some ⟨b, 0, none⟩) ∧ w.cell? ⟨b, 0, none⟩ = some (.int .i64 0)
theorem NoSet.grown {w w' : World} {v : Value} (h : NoSet w v) (hg : w.grownBy w' none) : NoSet w' v := by
  rcases h with rfl | ⟨b, rfl, hc⟩
  · exact .inl rfl
  · exact .inr ⟨b, rfl, hg.cell hc (by simp)⟩
theorem none_any (w : World) (v : Value) (h : NoSet w v) : Calls Tryd.prog 22 #[v] w fun e w' => e = .returned (.bool true) ∧ w = w' := by
  rcases h with rfl | ⟨b, rfl, hc⟩
  · exact none_nil w
  · exact none_zero b w hc
set_option maxHeartbeats 400000 in
theorem wrong_any (w : World) (v : Value) (n : Int) (h : NoSet w v) : Calls Tryd.prog 21 #[v, .int .i64 n] w fun e w' => e = .returned (.int .i64 1) ∧ w = w' := by
  have H := Lib.hid h; clear h
  go_enter Tryd.func21, Tryd.ntmps21
  go_wp2_with (go_at_call 22; refine (none_any _ _ H.out).mono ?_; rintro e w' ⟨rfl, rfl⟩)
  go_ret
  exact ⟨rfl, rfl⟩
set_option maxHeartbeats 400000 in
theorem put_any (w : World) (v : Value) (n : Int) (h : NoSet w v) : Calls Tryd.prog 7 #[v, .int .i64 n] w fun e w' => e = .returned (.int .i64 1) ∧ w = w' := by
  have H := Lib.hid h; clear h
  go_enter Tryd.func7, Tryd.ntmps7
  go_wp2_with (go_at_call 21; refine (wrong_any _ _ _ H.out).mono ?_; rintro e w' ⟨rfl, rfl⟩)
  go_ret
  exact ⟨rfl, rfl⟩
set_option maxHeartbeats 400000 in
theorem drop_any (w : World) (v : Value) (n : Int) (h : NoSet w v) : Calls Tryd.prog 10 #[v, .int .i64 n] w fun e w' => e = .returned (.int .i64 1) ∧ w = w' := by
  have H := Lib.hid h; clear h
  go_enter Tryd.func10, Tryd.ntmps10
  go_wp2_with (go_at_call 21; refine (wrong_any _ _ _ H.out).mono ?_; rintro e w' ⟨rfl, rfl⟩)
  go_ret
  exact ⟨rfl, rfl⟩
set_option maxHeartbeats 400000 in
theorem has_any (w : World) (v : Value) (n : Int) (h : NoSet w v) : Calls Tryd.prog 11 #[v, .int .i64 n] w fun e w' => e = .returned (.bool false) ∧ w = w' := by
  have H := Lib.hid h; clear h
  go_enter Tryd.func11, Tryd.ntmps11
  go_wp2_with (go_at_call 21; refine (wrong_any _ _ _ H.out).mono ?_; rintro e w' ⟨rfl, rfl⟩)
  go_ret
  exact ⟨rfl, rfl⟩
set_option maxHeartbeats 400000 in
theorem take_any (w : World) (v : Value) (h : NoSet w v) : Calls Tryd.prog 8 #[v] w fun e w' => e = .returned (.tuple #[.int .i64 0, .int .i64 1]) ∧ w = w' := by
  have H := Lib.hid h; clear h
  go_enter Tryd.func8, Tryd.ntmps8
  go_wp2_with (go_at_call 22; refine (none_any _ _ H.out).mono ?_; rintro e w' ⟨rfl, rfl⟩)
  go_ret2
  exact ⟨rfl, rfl⟩
set_option maxHeartbeats 400000 in
theorem count_any (w : World) (v : Value) (h : NoSet w v) : Calls Tryd.prog 9 #[v] w fun e w' => e = .returned (.tuple #[.int .i64 0, .int .i64 0]) ∧ w = w' := by
  have H := Lib.hid h; clear h
  go_enter Tryd.func9, Tryd.ntmps9
  go_wp2_with (go_at_call 22; refine (none_any _ _ H.out).mono ?_; rintro e w' ⟨rfl, rfl⟩)
  go_ret2
  exact ⟨rfl, rfl⟩
set_option maxHeartbeats 400000 in
theorem bytes_any (w : World) (v : Value) (h : NoSet w v) : Calls Tryd.prog 12 #[v] w fun e w' => e = .returned (.slice none 0 0) ∧ w = w' := by
  have H := Lib.hid h; clear h
  go_enter Tryd.func12, Tryd.ntmps12
  go_wp2_with (go_at_call 22; refine (none_any _ _ H.out).mono ?_; rintro e w' ⟨rfl, rfl⟩)
  go_ret
  exact ⟨rfl, rfl⟩
set_option maxHeartbeats 400000 in
theorem clone_any (w : World) (v : Value) (h : NoSet w v) : Calls Tryd.prog 13 #[v] w fun e w' => e = .returned (.pointer none) ∧ w = w' := by
  have H := Lib.hid h; clear h
  go_enter Tryd.func13, Tryd.ntmps13
  go_wp2_with (go_at_call 22; refine (none_any _ _ H.out).mono ?_; rintro e w' ⟨rfl, rfl⟩)
  go_ret
  exact ⟨rfl, rfl⟩
set_option maxHeartbeats 400000 in
theorem same_nn (w : World) (u v : Value) (h : NoSet w u) (h' : NoSet w v) : Calls Tryd.prog 14 #[u, v] w fun e w' => e = .returned (.bool true) ∧ w = w' := by
  have H := Lib.hid h; clear h
  have H' := Lib.hid h'; clear h'
  go_enter Tryd.func14, Tryd.ntmps14
  go_wp2_with fail
  refine (none_any _ _ H.out).mono ?_
  rintro e w' ⟨rfl, rfl⟩
  go_wp2_with fail
  refine (none_any _ _ H.out).mono ?_
  rintro e w' ⟨rfl, rfl⟩
  go_wp2_with fail
  refine (none_any _ _ H'.out).mono ?_
  rintro e w' ⟨rfl, rfl⟩
  go_wp2_with fail
  go_ret
  exact ⟨rfl, rfl⟩
set_option maxHeartbeats 400000 in
theorem same_ns (w : World) (u : Value) (b : Nat) (n : Int) (h : NoSet w u) (hc : w.cell? ⟨b, 0, none⟩ = some (.int .i64 n)) (hn : 1 ≤ n) : Calls Tryd.prog 14 #[u, .pointer (some ⟨b, 0, none⟩)] w fun e w' => e = .returned (.bool false) ∧ w = w' := by
  have H := Lib.hid h; clear h
  go_enter Tryd.func14, Tryd.ntmps14
  go_wp2_with fail
  refine (none_any _ _ H.out).mono ?_
  rintro e w' ⟨rfl, rfl⟩
  go_wp2_with fail
  refine (none_any _ _ H.out).mono ?_
  rintro e w' ⟨rfl, rfl⟩
  go_wp2_with fail
  refine (none_no _ _ _ hc hn).mono ?_
  rintro e w' ⟨rfl, rfl⟩
  go_wp2_with fail
  go_ret
  exact ⟨rfl, rfl⟩
set_option maxHeartbeats 400000 in
theorem same_sn (w : World) (u : Value) (b : Nat) (n : Int) (h : NoSet w u) (hc : w.cell? ⟨b, 0, none⟩ = some (.int .i64 n)) (hn : 1 ≤ n) : Calls Tryd.prog 14 #[.pointer (some ⟨b, 0, none⟩), u] w fun e w' => e = .returned (.bool false) ∧ w = w' := by
  have H := Lib.hid h; clear h
  go_enter Tryd.func14, Tryd.ntmps14
  go_wp2_with fail
  refine (none_no _ _ _ hc hn).mono ?_
  rintro e w' ⟨rfl, rfl⟩
  go_wp2_with fail
  refine (none_any _ _ H.out).mono ?_
  rintro e w' ⟨rfl, rfl⟩
  go_wp2_with fail
  refine (none_no _ _ _ hc hn).mono ?_
  rintro e w' ⟨rfl, rfl⟩
  go_wp2_with fail
  go_ret
  exact ⟨rfl, rfl⟩

set_option maxHeartbeats 1000000 in
set_option maxRecDepth 100000 in
theorem nobody_ok (n : Int) (w : World) : Calls Tryd.prog 4 #[.int .i64 n] w fun e w' => e = .returned (.bool true) ∧ w.grownBy w' none := by
  go_enter Tryd.func4, Tryd.ntmps4
  go_wp2_with fail
  refine (new_ok 1 w (by omega) (by omega)).mono ?_
  rintro e w1 ⟨rfl, hg1, hs1, _⟩
  go_wp2_with fail
  generalize hW : ((w1.alloc (.cells #[.int .i64 0, .int .u64 0, .int .u64 0, .int .u64 0, .int .u64 0, .int .u64 0, .int .u64 0, .int .u64 0, .int .u64 0, .int .u64 0, .int .u64 0, .int .u64 0, .int .u64 0, .int .u64 0, .int .u64 0, .int .u64 0, .int .u64 0, .int .u64 0, .int .u64 0, .int .u64 0, .int .u64 0, .int .u64 0, .int .u64 0, .int .u64 0, .int .u64 0, .int .u64 0, .int .u64 0, .int .u64 0, .int .u64 0, .int .u64 0, .int .u64 0, .int .u64 0, .int .u64 0] 35)).alloc (.cells #[.pointer none, .pointer (some ⟨w1.heap.size, 0, none⟩)] 23)) = W
  have hgW : w.grownBy W none := by subst hW; exact grown_trans hg1 (grown_trans (grown_alloc _ _) (grown_alloc _ _))
  have hone : W.cell? ⟨w.heap.size, 0, none⟩ = some (.int .i64 1) := by
    subst hW
    exact (hs1.grown (grown_trans (grown_alloc _ _) (grown_alloc _ _)) (by simp)).head
  have h0 : ∀ k : Int, 0 ≤ k → k < 2 → ∃ v, W.cell? ⟨w1.heap.size + 1, k.toNat, none⟩ = some v ∧ Hid (NoSet W v) := by
    intro k hk0 hk1
    have hb : W.heap[w1.heap.size + 1]? = some (.cells #[.pointer none, .pointer (some ⟨w1.heap.size, 0, none⟩)] 23 (0, 0)) := by subst hW; exact heap_alloc2_new _ _ _
    have hc : k = 0 ∨ k = 1 := by omega
    rcases hc with rfl | rfl
    · exact ⟨_, cell_of_row W _ 0 _ _ _ hb, Lib.hid (.inl rfl)⟩
    · refine ⟨_, cell_of_row W _ 1 _ _ _ hb, Lib.hid (.inr ⟨w1.heap.size, rfl, ?_⟩)⟩
      have hc := heap_alloc2_old w1 (.cells #[.int .i64 0, .int .u64 0, .int .u64 0, .int .u64 0, .int .u64 0, .int .u64 0, .int .u64 0, .int .u64 0, .int .u64 0, .int .u64 0, .int .u64 0, .int .u64 0, .int .u64 0, .int .u64 0, .int .u64 0, .int .u64 0, .int .u64 0, .int .u64 0, .int .u64 0, .int .u64 0, .int .u64 0, .int .u64 0, .int .u64 0, .int .u64 0, .int .u64 0, .int .u64 0, .int .u64 0, .int .u64 0, .int .u64 0, .int .u64 0, .int .u64 0, .int .u64 0, .int .u64 0] 35) (.cells #[.pointer none, .pointer (some ⟨w1.heap.size, 0, none⟩)] 23)
      rw [hW] at hc
      rw [cell_of_row W _ 0 _ _ _ hc]
      rfl
  have H0 := Lib.hid h0
  have HG := Lib.hid hgW
  clear hW hgW h0 hs1 hg1
  go_loop [6, 7, 8, 9, 10, 19] (fun _ _ _ _ _ i => ∃ k : Int, 0 ≤ k ∧ k ≤ 2 ∧ i = .int .i64 k) (fun _ _ _ _ _ i => (2 - intOf i).toNat)
  case atStart => exact ⟨0, by omega, by omega, rfl⟩
  case round =>
    obtain ⟨k, hk0, hk1, rfl⟩ := hrel
    by_cases hlt : k < 2
    · obtain ⟨v, hv, HN⟩ := H0.out k hk0 hlt
      go_wp2_with (first
        | (go_at_call 8; refine (take_any _ _ HN.out).mono ?_; rintro e w' ⟨rfl, rfl⟩)
        | (go_at_call 9; refine (count_any _ _ HN.out).mono ?_; rintro e w' ⟨rfl, rfl⟩)
        | (go_at_call 7; refine (put_any _ _ _ HN.out).mono ?_; rintro e w' ⟨rfl, rfl⟩)
        | (go_at_call 10; refine (drop_any _ _ _ HN.out).mono ?_; rintro e w' ⟨rfl, rfl⟩)
        | (go_at_call 11; refine (has_any _ _ _ HN.out).mono ?_; rintro e w' ⟨rfl, rfl⟩)
        | (go_at_call 12; refine (bytes_any _ _ HN.out).mono ?_; rintro e w' ⟨rfl, rfl⟩)
        | (go_at_call 13; refine (clone_any _ _ HN.out).mono ?_; rintro e w' ⟨rfl, rfl⟩))
      refine (same_nn _ _ _ HN.out (.inl rfl)).mono ?_
      rintro e w' ⟨rfl, rfl⟩
      go_wp2_with fail
      refine (same_ns _ _ _ 1 HN.out hone (by omega)).mono ?_
      rintro e w' ⟨rfl, rfl⟩
      go_wp2_with fail
      refine (same_sn _ _ _ 1 HN.out hone (by omega)).mono ?_
      rintro e w' ⟨rfl, rfl⟩
      go_wp2_with fail
      exact ⟨⟨k + 1, by omega, by omega, rfl⟩, by simp [intOf]; omega⟩
    · go_wp2_with fail
      go_ret
      exact ⟨rfl, HG.out⟩
theorem alloc_nobody {L : List (String × DataW Unit)} (w : World) (_hL : laidMetH Tryd.prog L w) (n : Int) (_w0 : (Lit.int .i64 n).wf = true) :
    Calls Tryd.prog 4 #[.int .i64 n] w fun e w' => e = .returned (.bool true) ∧ Below w.heap.size w w' :=
  (nobody_ok n w).mono fun _ _ ⟨h1, h2⟩ => ⟨h1, below_of_grown h2⟩
end Go.Proofs.YtaadbikaeofnoaaDoor
