/- The walk of AllocReads: whatever the bytes and the number are, the law returns true and writes nothing that was there. -/
import Derived.Test.YtaadbikaeofnoaaAs
import Derived.Deep.RegionWith
namespace Go.Proofs.Ytaadbikaeofnoaa
open Go.RowKit

theorem add_any (b off i : Nat) : (⟨b, off, none⟩ : Addr).add i = ⟨b, off + i, none⟩ := by
  unfold Addr.add
  split <;> simp_all
def IsRow (k : IntKind) (w : World) (a : Option Addr) (len cap : Nat) (zs : List Int) : Prop :=
  (a = none ∧ len = 0 ∧ cap = 0 ∧ zs = []) ∨
  ∃ x, a = some x ∧ len ≤ cap ∧ cap ≤ maxLen ∧ zs.length = cap ∧ (∀ i, i < zs.length → w.cell? (x.add i) = some (.int k (zs.getD i 0))) ∧ ∀ n ∈ zs, (Lit.int k n).wf = true
theorem getD_take (z : List Int) {i n : Nat} (h : i < n) : (z.take n).getD i 0 = z.getD i 0 := by
  rw [List.getD_eq_getElem?_getD, List.getElem?_take, if_pos h, ← List.getD_eq_getElem?_getD]
/-- a row of 256 bytes -/
theorem IsRow.bytes {w : World} {a : Option Addr} {cap : Nat} {zs : List Int} (h : IsRow .u8 w a 256 cap zs) : ∃ ab off, a = some ⟨ab, off, none⟩ ∧ Bytes256 w ab off (zs.take 256) := by
  rcases h with ⟨_, h, _⟩ | ⟨x, rfl, hl, hm, hz, hcell, hwz⟩
  · omega
  · obtain ⟨b, off, spot⟩ := x
    have hspot : spot = none := by simpa [Addr.add] using World.cell?_spot (hcell 0 (by omega))
    subst hspot
    refine ⟨b, off, rfl, by rw [List.length_take]; omega, fun y hy => ?_, fun i hi => ?_⟩
    · have := hwz y (List.mem_of_mem_take hy)
      simp [Lit.wf, IntKind.min, IntKind.max, IntKind.bits, IntKind.signed] at this
      omega
    · rw [getD_take _ hi]
      have := hcell i (by omega)
      rwa [add_any] at this
theorem below_of_grown {w w' : World} (h : w.grownBy w' none) : Below w.heap.size w w' := (Below.refl w.heap.size w).grown h (Nat.le_refl _) (by simp)

set_option maxHeartbeats 400000 in
theorem names_true (w : World) : Calls Try.prog 8 #[] w fun e w' => e = .returned (.bool true) ∧ w = w' := by
  go_enter Try.func8, Try.ntmps8
  go_wp2
  go_ret
  exact ⟨rfl, rfl⟩

set_option maxHeartbeats 400000 in
theorem reads_err (v0 v1 : Value) (c : Int) (w : World) 
    (h1 : Calls Try.prog 6 #[v0, v1] w fun e w' => e = .returned (.tuple #[.pointer none, .int .i64 c]) ∧ w.grownBy w' none)
    (h2 : ∀ w1, w.grownBy w1 none → Calls Try.prog 7 #[v0, v1] w1 fun e w' => e = .returned (.tuple #[.pointer none, .int .i64 c]) ∧ w1.grownBy w' none) :
    Calls Try.prog 3 #[v0, v1] w fun e w' => e = .returned (.bool true) ∧ w.grownBy w' none := by
  have H1 := Lib.hid h1; clear h1
  have H2 := Lib.hid h2; clear h2
  go_enter Try.func3, Try.ntmps3
  go_wp2_with (first
    | (go_at_call 6; refine H1.out.mono ?_; rintro e w1 ⟨rfl, hg1⟩)
    | (go_at_call 7; refine (H2.out _ hg1).mono ?_; rintro e w2 ⟨rfl, hg2⟩)
    | (go_at_call 8; refine (names_true _).mono ?_; rintro e w3 ⟨rfl, rfl⟩))
  go_region
  all_goals
    go_wp2
    go_ret
    exact ⟨rfl, grown_drew (grown_trans hg1 hg2)⟩

theorem Bytes256.text {w : World} {ab off : Nat} {z : List Int} (h : Bytes256 w ab off z) (cap : Nat) : (convert 22 9 (.slice (some ⟨ab, off, none⟩) 256 cap)).run Try.prog w = .ok (.string (strOfNums z)) w :=
  run_convert_bytes_arg w 22 5 Try.underlying22 Try.underlying5 ab off 256 cap z h.1 h.2.2 9 Try.underlying9
theorem rread_ok (ab off cap : Nat) (n : Int) (z : List Int) (w : World) (h : 1 ≤ n) (h2 : n ≤ 2048) (hz : Bytes256 w ab off z) (hS : toS z < 2 ^ n.toNat) :
    Calls Try.prog 7 #[.slice (some ⟨ab, off, none⟩) 256 cap, .int .i64 n] w fun e w' => e = .returned (.tuple #[.pointer (some ⟨w.heap.size + 1, 0, none⟩), .int .i64 0]) ∧ w.grownBy w' none ∧ RefAt w' (w.heap.size + 1) w.heap.size n.toNat (toS z) :=
  (rread_any ab off cap n z w h h2 hz).mono fun _ _ ⟨h1, _, h3⟩ => ⟨(h1 hS).1, h3, (h1 hS).2⟩
theorem rread_form (ab off cap : Nat) (n : Int) (z : List Int) (w : World) (h : 1 ≤ n) (h2 : n ≤ 2048) (hz : Bytes256 w ab off z) (hS : ¬ toS z < 2 ^ n.toNat) :
    Calls Try.prog 7 #[.slice (some ⟨ab, off, none⟩) 256 cap, .int .i64 n] w fun e w' => e = .returned (.tuple #[.pointer none, .int .i64 10]) ∧ w.grownBy w' none :=
  (rread_any ab off cap n z w h h2 hz).mono fun _ _ ⟨_, h2, h3⟩ => ⟨h2 hS, h3⟩
set_option maxHeartbeats 1600000 in
theorem reads_ok (ab off cap : Nat) (n : Int) (z : List Int) (w : World) (h : 1 ≤ n) (h2 : n ≤ 2048) (hz : Bytes256 w ab off z) (hS : toS z < 2 ^ n.toNat) :
    Calls Try.prog 3 #[.slice (some ⟨ab, off, none⟩) 256 cap, .int .i64 n] w fun e w' => e = .returned (.bool true) ∧ w.grownBy w' none := by
  have HZ := Lib.hid hz; clear hz
  have HS := Lib.hid hS; clear hS
  have HL : Hid (toS z < 2 ^ (8 * 256)) := Lib.hid HZ.out.lt
  obtain ⟨T, hT⟩ : ∃ T, T = strOfNums z := ⟨_, rfl⟩
  have HT1 : Hid (∀ W c cap, BytAt W c (toS z) → (convert 22 9 (.slice (some ⟨c, 0, none⟩) 256 cap)).run Try.prog W = .ok (.string T) W) := Lib.hid fun W c cap hB => by have h := hB.text cap; rwa [bytl_toS z HZ.out.2.1 HZ.out.1, ← hT] at h
  have HT2 : Hid (∀ W, w.grownBy W none → (convert 22 9 (.slice (some ⟨ab, off, none⟩) 256 cap)).run Try.prog W = .ok (.string T) W) := Lib.hid fun W hg => by rw [hT]; exact (HZ.out.grown hg).text cap
  clear hT
  go_enter Try.func3, Try.ntmps3
  go_wp2_with (first
    | (go_at_call 6; refine (read_ok _ _ _ _ _ _ h h2 HZ.out HS.out).mono ?_; rintro e w1 ⟨rfl, hg1, hs1⟩)
    | (go_at_call 7; refine (rread_ok _ _ _ _ _ _ h h2 (HZ.out.grown hg1) HS.out).mono ?_; rintro e w2 ⟨rfl, hg2, hr2⟩)
    | (go_at_call 8; refine (names_true _).mono ?_; rintro e w3 ⟨rfl, rfl⟩))
  replace hg2 := grown_drew hg2
  replace hr2 : RefAt w2.drew (w1.heap.size + 1) w1.heap.size n.toNat (toS z) := hr2.grown (grown_drew (grown_refl _ none)) (by simp) (by simp)
  have ht2 := HT2.out _ (grown_trans hg1 hg2)
  go_region_with (first
    | (go_at_call 9; refine (bytes_ok _ _ _ _ (hs1.grown hg2 (by simp)) h HL.out).mono ?_; rintro e w3 ⟨rfl, hg3, hb3⟩; replace hb3 : BytAt w3 w2.heap.size (toS z) := hb3; have ht3 := HT1.out _ _ 256 hb3; have ht2 := HT2.out _ (grown_trans (grown_trans hg1 hg2) hg3))
    | (go_at_call 10; refine (rbytes_ok _ _ _ _ _ (hr2.grown (grown_trans hg3 hg4) (by simp) (by simp)) (by omega) HS.out).mono ?_; rintro e w5 ⟨rfl, hg5, hb5⟩; have ht5 := HT1.out _ _ 256 hb5; have ht3 := HT1.out _ _ 256 (hb3.grown (grown_trans hg4 hg5) (by simp)); have ht4 := HT1.out _ _ 256 (hb4.grown hg5 (by simp)); have ht2 := HT2.out _ (grown_trans (grown_trans (grown_trans (grown_trans hg1 hg2) hg3) hg4) hg5))
    | (go_at_call 10; refine (rbytes_ok _ _ _ _ _ (hr2.grown hg3 (by simp) (by simp)) (by omega) HS.out).mono ?_; rintro e w4 ⟨rfl, hg4, hb4⟩; have ht4 := HT1.out _ _ 256 hb4; have ht3 := HT1.out _ _ 256 (hb3.grown hg4 (by simp)); have ht2 := HT2.out _ (grown_trans (grown_trans (grown_trans hg1 hg2) hg3) hg4)))
  all_goals
    go_wp2
    go_ret
    exact ⟨rfl, grown_trans (grown_trans (grown_trans (grown_trans hg1 hg2) hg3) hg4) hg5⟩
theorem alloc_reads (w : World) (a0 : Option Addr) (len0 cap0 : Nat) (z0 : List Int) (w0 : IsRow .u8 w a0 len0 cap0 z0) (a1 : Int) (_w1 : (Lit.int .i64 a1).wf = true) :
    Calls Try.prog 3 #[.slice a0 len0 cap0, .int .i64 a1] w fun e w' => e = .returned (.bool true) ∧ Below w.heap.size w w' := by
  suffices h : Calls Try.prog 3 #[.slice a0 len0 cap0, .int .i64 a1] w fun e w' => e = .returned (.bool true) ∧ w.grownBy w' none from h.mono fun _ _ ⟨h1, h2⟩ => ⟨h1, below_of_grown h2⟩
  by_cases hn : 1 ≤ a1 ∧ a1 ≤ 2048
  · by_cases hl : len0 = 256
    · subst hl
      obtain ⟨ab, off, rfl, hz⟩ := w0.bytes
      by_cases hS : toS (z0.take 256) < 2 ^ a1.toNat
      · exact reads_ok ab off cap0 a1 _ w hn.1 hn.2 hz hS
      · exact reads_err _ _ 10 w (read_form ab off cap0 a1 _ w hn.1 hn.2 hz hS) fun w1 hg => rread_form ab off cap0 a1 _ w1 hn.1 hn.2 (hz.grown hg) hS
    · exact reads_err _ _ 2 w (read_len a0 len0 cap0 a1 w hn.1 hn.2 hl) fun w1 _ => rread_len a0 len0 cap0 a1 w1 hn.1 hn.2 hl
  · have hb : a1 < 1 ∨ 2048 < a1 := by omega
    exact reads_err _ _ 2 w ((read_arg a0 len0 cap0 a1 w hb).mono fun _ _ ⟨h1, h2⟩ => ⟨h1, h2 ▸ grown_refl _ _⟩) fun w1 _ => (rread_arg a0 len0 cap0 a1 w1 hb).mono fun _ _ ⟨h1, h2⟩ => ⟨h1, h2 ▸ grown_refl _ _⟩
end Go.Proofs.Ytaadbikaeofnoaa
