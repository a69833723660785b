/- The walks of package alloc: what New, none, wrong, Has, Put, Drop do, said of a set that lies in a block of its own. -/
import Derived.Test.YtaadbikaeofnoaaDoorProg
import Derived.Test.YtaadbikaeofnoaaDoorAp
import Derived.WalkKit
import Derived.WalkSpells
import Derived.WalkLawsBesides
import Derived.KernelRfl
import Derived.Deep.QuietTactic
import Derived.BigQuiet
import Derived.RegionTactic
import Derived.ChangeAlike
import Derived.Lib.Hide
namespace Go.Proofs.YtaadbikaeofnoaaDoor
open Go.RowKit

/-- block b holds a set: n may be in it, S are -/
def SetAt (w : World) (b : Nat) (n : Int) (S : Nat) : Prop := w.heap[b]? = some (.cells (setc n S) 35 (0, 0))
theorem SetAt.cell {w : World} {b : Nat} {n : Int} {S : Nat} (h : SetAt w b n S) (j : Nat) : w.cell? ⟨b, j, none⟩ = (setc n S)[j]? := cell_of_row w b j _ _ _ h
theorem SetAt.head {w : World} {b : Nat} {n : Int} {S : Nat} (h : SetAt w b n S) : w.cell? ⟨b, 0, none⟩ = some (.int .i64 n) := (h.cell 0).trans (setc_head n S)
theorem SetAt.word {w : World} {b : Nat} {n : Int} {S : Nat} (h : SetAt w b n S) {k : Nat} (hk : k < 32) : w.cell? ⟨b, 1 + k, none⟩ = some (.int .u64 (wd S k)) := (h.cell (1 + k)).trans (setc_word n S hk)
theorem SetAt.free {w : World} {b : Nat} {n : Int} {S : Nat} (h : SetAt w b n S) (j : Nat) : w.frozen? ⟨b, j, none⟩ = false := frozen_of_row w b j _ _ h
theorem SetAt.lt {w : World} {b : Nat} {n : Int} {S : Nat} (h : SetAt w b n S) : b < w.heap.size := (Array.getElem?_eq_some_iff.1 h).1
theorem SetAt.grown {w w' : World} {b : Nat} {n : Int} {S : Nat} (h : SetAt w b n S) {r : Option Nat} (hg : w.grownBy w' r) (hr : some b ≠ r) : SetAt w' b n S := (hg.block b h.lt hr).trans h
theorem SetAt.set {w : World} {b : Nat} {n : Int} {S S' k : Nat} {v : Int} (h : SetAt w b n S) (hk : k < 32) (hv : v = wd S' k) (ho : ∀ j, j < 32 → j ≠ k → wd S' j = wd S j) : SetAt (w.setCell ⟨b, 1 + k, none⟩ (.int .u64 v)) b n S' := by
  unfold SetAt
  rw [heap_setCell_same w b (1 + k) _ _ _ h, setc_upd hk hv ho]
theorem SetAt.drew {w : World} {b : Nat} {n : Int} {S : Nat} (h : SetAt w b n S) : SetAt w.drew b n S := h

theorem grown_refl (w : World) (r : Option Nat) : w.grownBy w r := ⟨rfl, rfl, rfl, Nat.le_refl _, fun _ _ _ => rfl⟩
theorem grown_trans {a b c : World} {r : Option Nat} (h : a.grownBy b r) (k : b.grownBy c r) : a.grownBy c r :=
  ⟨k.os.trans h.os, k.tape.trans h.tape, k.output.trans h.output, Nat.le_trans h.size k.size, fun i hi hr => (k.block i (Nat.lt_of_lt_of_le hi h.size) hr).trans (h.block i hi hr)⟩
theorem grown_any {a b : World} (r : Option Nat) (h : a.grownBy b none) : a.grownBy b r := ⟨h.os, h.tape, h.output, h.size, fun i hi _ => h.block i hi (by simp)⟩
theorem grown_set (w : World) (p : Addr) (v : Value) : w.grownBy (w.setCell p v) (some p.block) := by
  refine ⟨rfl, rfl, rfl, by simp [World.setCell], fun i _ hr => heap_setCell_other w p i v ?_⟩
  rintro rfl
  exact hr rfl
theorem grown_drew {a b : World} {r : Option Nat} (h : a.grownBy b r) : a.grownBy b.drew r := ⟨h.os, h.tape, h.output, h.size, h.block⟩
theorem grown_alloc (w : World) (o : Obj) : w.grownBy (w.alloc o) none := World.grownBy_alloc w o none
theorem below_grown {B : Nat} {a b c : World} {r : Option Nat} (h : Below B a b) (hg : b.grownBy c r) (hB : B ≤ b.heap.size) (hr : ∀ k, r = some k → B ≤ k) : Below B a c := h.grown hg hB hr
theorem ret_i {a b : Int} {k : IntKind} (h : a = b) : Ending.returned (.int k a) = .returned (.int k b) := by rw [h]
theorem ret_b {a b : Bool} (h : a = b) : Ending.returned (.bool a) = .returned (.bool b) := by rw [h]

set_option maxHeartbeats 400000 in
theorem new_bad (n : Int) (w : World) (h : n < 1 ∨ 2048 < n) : Calls Tryd.prog 6 #[.int .i64 n] w fun e w' => e = .returned (.tuple #[.pointer none, .int .i64 2]) ∧ w = w' := by
  rcases h with h | h
  · go_enter Tryd.func6, Tryd.ntmps6
    go_wp2
    go_ret2
    exact ⟨rfl, rfl⟩
  · have h' : ¬ n < 1 := by omega
    go_enter Tryd.func6, Tryd.ntmps6
    go_wp2
    go_ret2
    exact ⟨rfl, rfl⟩
set_option maxHeartbeats 400000 in
theorem new_okw (n : Int) (w : World) (h : 1 ≤ n) (h2 : n ≤ 2048) : Calls Tryd.prog 6 #[.int .i64 n] w fun e w' => e = .returned (.tuple #[.pointer (some ⟨w.heap.size, 0, none⟩), .int .i64 0]) ∧ w' = w.alloc (.cells (setc n 0) 35) := by
  rw [setc_zero]
  go_enter Tryd.func6, Tryd.ntmps6
  go_wp2
  go_ret2
  exact ⟨rfl, rfl⟩
theorem new_ok (n : Int) (w : World) (h : 1 ≤ n) (h2 : n ≤ 2048) : Calls Tryd.prog 6 #[.int .i64 n] w fun e w' => e = .returned (.tuple #[.pointer (some ⟨w.heap.size, 0, none⟩), .int .i64 0]) ∧ w.grownBy w' none ∧ SetAt w' w.heap.size n 0 ∧ w.heap.size < w'.heap.size :=
  (new_okw n w h h2).mono fun e w' ⟨he, hw⟩ => by
    subst hw
    exact ⟨he, grown_alloc _ _, heap_alloc_new _ _, by show w.heap.size < (w.heap.push _).size; simp⟩

set_option maxHeartbeats 400000 in
theorem none_nil (w : World) : Calls Tryd.prog 22 #[.pointer none] w fun e w' => e = .returned (.bool true) ∧ w = w' := by
  go_enter Tryd.func22, Tryd.ntmps22
  go_wp2
  go_ret
  exact ⟨rfl, rfl⟩
set_option maxHeartbeats 400000 in
theorem none_zero (b : Nat) (w : World) (hc : w.cell? ⟨b, 0, none⟩ = some (.int .i64 0)) : Calls Tryd.prog 22 #[.pointer (some ⟨b, 0, none⟩)] w fun e w' => e = .returned (.bool true) ∧ w = w' := by
  go_enter Tryd.func22, Tryd.ntmps22
  go_wp2
  go_ret
  exact ⟨rfl, rfl⟩
set_option maxHeartbeats 400000 in
theorem none_no (b : Nat) (n : Int) (w : World) (hc : w.cell? ⟨b, 0, none⟩ = some (.int .i64 n)) (hn : 1 ≤ n) : Calls Tryd.prog 22 #[.pointer (some ⟨b, 0, none⟩)] w fun e w' => e = .returned (.bool false) ∧ w = w' := by
  have hn0 : (n == 0) = false := by simp; omega
  go_enter Tryd.func22, Tryd.ntmps22
  go_wp2
  go_ret
  exact ⟨rfl, rfl⟩
set_option maxHeartbeats 400000 in
theorem wrong_ok (b : Nat) (n i : Int) (w : World) (hc : w.cell? ⟨b, 0, none⟩ = some (.int .i64 n)) (h0 : 0 ≤ i) (h1 : i < n) : Calls Tryd.prog 21 #[.pointer (some ⟨b, 0, none⟩), .int .i64 i] w fun e w' => e = .returned (.int .i64 0) ∧ w = w' := by
  have hn : 1 ≤ n := by omega
  go_enter Tryd.func21, Tryd.ntmps21
  go_wp2_with (go_at_call 22; refine (none_no _ _ _ hc hn).mono ?_; rintro e w' ⟨rfl, rfl⟩)
  go_ret
  exact ⟨rfl, rfl⟩
set_option maxHeartbeats 400000 in
theorem wrong_arg (b : Nat) (n i : Int) (w : World) (hc : w.cell? ⟨b, 0, none⟩ = some (.int .i64 n)) (hn : 1 ≤ n) (h : i < 0 ∨ n ≤ i) : Calls Tryd.prog 21 #[.pointer (some ⟨b, 0, none⟩), .int .i64 i] w fun e w' => e = .returned (.int .i64 2) ∧ w = w' := by
  by_cases h0 : i < 0
  · clear h
    go_enter Tryd.func21, Tryd.ntmps21
    go_wp2_with (go_at_call 22; refine (none_no _ _ _ hc hn).mono ?_; rintro e w' ⟨rfl, rfl⟩)
    go_ret
    exact ⟨rfl, rfl⟩
  · have h1 : n ≤ i := by omega
    clear h
    go_enter Tryd.func21, Tryd.ntmps21
    go_wp2_with (go_at_call 22; refine (none_no _ _ _ hc hn).mono ?_; rintro e w' ⟨rfl, rfl⟩)
    go_ret
    exact ⟨rfl, rfl⟩
set_option maxHeartbeats 400000 in
theorem has_arg (b : Nat) (n i : Int) (S : Nat) (w : World) (hs : SetAt w b n S) (hn : 1 ≤ n) (h : i < 0 ∨ n ≤ i) : Calls Tryd.prog 11 #[.pointer (some ⟨b, 0, none⟩), .int .i64 i] w fun e w' => e = .returned (.bool false) ∧ w = w' := by
  have hc := hs.head
  go_enter Tryd.func11, Tryd.ntmps11
  go_wp2_with (go_at_call 21; refine (wrong_arg _ _ _ _ hc hn h).mono ?_; rintro e w' ⟨rfl, rfl⟩)
  go_ret
  exact ⟨rfl, rfl⟩
set_option maxHeartbeats 400000 in
theorem has_ok (b : Nat) (n i : Int) (S : Nat) (w : World) (hs : SetAt w b n S) (hn : n ≤ 2048) (h0 : 0 ≤ i) (h1 : i < n) : Calls Tryd.prog 11 #[.pointer (some ⟨b, 0, none⟩), .int .i64 i] w fun e w' => e = .returned (.bool (S.testBit i.toNat)) ∧ w = w' := by
  have hc := hs.head
  have hv := hs.word (k := (i / 64).toNat) (by omega)
  have HB := Lib.hid (wd_bit S i h0)
  have v0 := wd_nonneg S (i / 64).toNat
  obtain ⟨v, hve⟩ : ∃ v, v = wd S (i / 64).toNat := ⟨_, rfl⟩
  rw [← hve] at hv v0
  have HV := Lib.hid hve; clear hve
  go_enter Tryd.func11, Tryd.ntmps11
  go_wp2_with (go_at_call 21; refine (wrong_ok _ _ _ _ hc h0 h1).mono ?_; rintro e w' ⟨rfl, rfl⟩)
  go_ret
  exact ⟨ret_b (by rw [HV.out]; exact HB.out), rfl⟩
set_option maxHeartbeats 400000 in
theorem put_arg (b : Nat) (n i : Int) (S : Nat) (w : World) (hs : SetAt w b n S) (hn : 1 ≤ n) (h : i < 0 ∨ n ≤ i) : Calls Tryd.prog 7 #[.pointer (some ⟨b, 0, none⟩), .int .i64 i] w fun e w' => e = .returned (.int .i64 2) ∧ w = w' := by
  have hc := hs.head
  go_enter Tryd.func7, Tryd.ntmps7
  go_wp2_with (go_at_call 21; refine (wrong_arg _ _ _ _ hc hn h).mono ?_; rintro e w' ⟨rfl, rfl⟩)
  go_ret
  exact ⟨rfl, rfl⟩
set_option maxHeartbeats 400000 in
theorem put_there (b : Nat) (n i : Int) (S : Nat) (w : World) (hs : SetAt w b n S) (hn : n ≤ 2048) (h0 : 0 ≤ i) (h1 : i < n) (hb : S.testBit i.toNat = true) : Calls Tryd.prog 7 #[.pointer (some ⟨b, 0, none⟩), .int .i64 i] w fun e w' => e = .returned (.int .i64 13) ∧ w = w' := by
  have hc := hs.head
  have H1 := Lib.hid (has_ok b n i S w hs hn h0 h1)
  rw [hb] at H1; clear hb
  go_enter Tryd.func7, Tryd.ntmps7
  go_wp2_with (first
    | (go_at_call 21; refine (wrong_ok _ _ _ _ hc h0 h1).mono ?_; rintro e w' ⟨rfl, rfl⟩)
    | (go_at_call 11; refine H1.out.mono ?_; rintro e w' ⟨rfl, rfl⟩))
  go_ret
  exact ⟨rfl, rfl⟩
set_option maxHeartbeats 400000 in
theorem drop_arg (b : Nat) (n i : Int) (S : Nat) (w : World) (hs : SetAt w b n S) (hn : 1 ≤ n) (h : i < 0 ∨ n ≤ i) : Calls Tryd.prog 10 #[.pointer (some ⟨b, 0, none⟩), .int .i64 i] w fun e w' => e = .returned (.int .i64 2) ∧ w = w' := by
  have hc := hs.head
  go_enter Tryd.func10, Tryd.ntmps10
  go_wp2_with (go_at_call 21; refine (wrong_arg _ _ _ _ hc hn h).mono ?_; rintro e w' ⟨rfl, rfl⟩)
  go_ret
  exact ⟨rfl, rfl⟩
set_option maxHeartbeats 400000 in
theorem drop_none (b : Nat) (n i : Int) (S : Nat) (w : World) (hs : SetAt w b n S) (hn : n ≤ 2048) (h0 : 0 ≤ i) (h1 : i < n) (hb : S.testBit i.toNat = false) : Calls Tryd.prog 10 #[.pointer (some ⟨b, 0, none⟩), .int .i64 i] w fun e w' => e = .returned (.int .i64 14) ∧ w = w' := by
  have hc := hs.head
  have H1 := Lib.hid (has_ok b n i S w hs hn h0 h1)
  rw [hb] at H1; clear hb
  go_enter Tryd.func10, Tryd.ntmps10
  go_wp2_with (first
    | (go_at_call 21; refine (wrong_ok _ _ _ _ hc h0 h1).mono ?_; rintro e w' ⟨rfl, rfl⟩)
    | (go_at_call 11; refine H1.out.mono ?_; rintro e w' ⟨rfl, rfl⟩))
  go_ret
  exact ⟨rfl, rfl⟩
theorem two_pow_cast (k : Nat) : ((2 ^ k : Nat) : Int) = (2 : Int) ^ k := by
  induction k with
  | zero => rfl
  | succ k ih => rw [Nat.pow_succ, Int.pow_succ, Int.natCast_mul, ih]; rfl
theorem wrap_u64 (x : Int) (h0 : 0 ≤ x) (h : x < 18446744073709551616) : IntKind.u64.wrap x = x := by
  simp only [IntKind.wrap, IntKind.bits, IntKind.signed]
  simp
  exact Int.emod_eq_of_lt h0 h
theorem wrap_pow (i : Int) : IntKind.u64.wrap (2 ^ (i % 64).toNat) = 2 ^ (i % 64).toNat := by
  have hk : (i % 64).toNat < 64 := by omega
  generalize (i % 64).toNat = k at hk
  have h : 2 ^ k < 2 ^ 64 := Nat.pow_lt_pow_right (by omega) hk
  have e := two_pow_cast k
  refine wrap_u64 _ ?_ ?_ <;> rw [← e]
  · exact Int.natCast_nonneg _
  · exact Int.ofNat_lt.2 h
theorem put_word (S : Nat) (i : Int) (h0 : 0 ≤ i) : bits BinOp.or IntKind.u64 (wd S (i / 64).toNat) (2 ^ (i % 64).toNat) = wd (S ||| 2 ^ i.toNat) (i / 64).toNat := by
  obtain ⟨i, rfl⟩ := Int.eq_ofNat_of_zero_le h0
  have e1 : ((i : Int) / 64).toNat = i / 64 := by omega
  have e2 : ((i : Int) % 64).toNat = i % 64 := by omega
  rw [e1, e2, Int.toNat_natCast, wd_or_same]
  unfold wd
  rw [← two_pow_cast]
  exact u64_or_nat _ _ (dg_lt 64 _ _) (Nat.lt_of_lt_of_le (Nat.pow_lt_pow_right (by omega) (show i % 64 < 64 by omega)) (by decide))
theorem drop_word (S : Nat) (i : Int) (h0 : 0 ≤ i) (hb : S.testBit i.toNat = true) : bits BinOp.andNot IntKind.u64 (wd S (i / 64).toNat) (2 ^ (i % 64).toNat) = wd (S ^^^ 2 ^ i.toNat) (i / 64).toNat := by
  obtain ⟨i, rfl⟩ := Int.eq_ofNat_of_zero_le h0
  have e1 : ((i : Int) / 64).toNat = i / 64 := by omega
  have e2 : ((i : Int) % 64).toNat = i % 64 := by omega
  rw [Int.toNat_natCast] at hb
  rw [e1, e2, Int.toNat_natCast, wd_xor_same S i hb]
  unfold wd
  rw [← two_pow_cast]
  exact u64_andNot_nat _ _ (dg_lt 64 _ _) (Nat.lt_of_lt_of_le (Nat.pow_lt_pow_right (by omega) (show i % 64 < 64 by omega)) (by decide))
theorem put_end (b : Nat) (n i : Int) (S : Nat) (w : World) (hs : SetAt w b n S) (hn : n ≤ 2048) (h0 : 0 ≤ i) (h1 : i < n) {v : Int} (hv : v = wd S (i / 64).toNat) :
    SetAt (w.setCell ⟨b, 1 + (i / 64).toNat, none⟩ (.int .u64 (bits BinOp.or IntKind.u64 v (IntKind.u64.wrap (2 ^ (i % 64).toNat))))).drew b n (S ||| 2 ^ i.toNat) := by
  subst hv
  rw [wrap_pow]
  exact (hs.set (by omega) (put_word S i h0) fun j _ hj => wd_or_other S _ j (by omega)).drew
theorem drop_end (b : Nat) (n i : Int) (S : Nat) (w : World) (hs : SetAt w b n S) (hn : n ≤ 2048) (h0 : 0 ≤ i) (h1 : i < n) (hb : S.testBit i.toNat = true) {v : Int} (hv : v = wd S (i / 64).toNat) :
    SetAt (w.setCell ⟨b, 1 + (i / 64).toNat, none⟩ (.int .u64 (bits BinOp.andNot IntKind.u64 v (IntKind.u64.wrap (2 ^ (i % 64).toNat))))).drew b n (S ^^^ 2 ^ i.toNat) := by
  subst hv
  rw [wrap_pow]
  exact (hs.set (by omega) (drop_word S i h0 hb) fun j _ hj => wd_xor_other S _ j (by omega)).drew
set_option maxHeartbeats 800000 in
theorem put_ok (b : Nat) (n i : Int) (S : Nat) (w : World) (hs : SetAt w b n S) (hn : n ≤ 2048) (h0 : 0 ≤ i) (h1 : i < n) (hb : S.testBit i.toNat = false) : Calls Tryd.prog 7 #[.pointer (some ⟨b, 0, none⟩), .int .i64 i] w fun e w' => e = .returned (.int .i64 0) ∧ w.grownBy w' (some b) ∧ SetAt w' b n (S ||| 2 ^ i.toNat) := by
  have hc := hs.head
  have H1 := Lib.hid (has_ok b n i S w hs hn h0 h1)
  rw [hb] at H1; clear hb
  have hcv := hs.word (k := (i / 64).toNat) (by omega)
  have hf := hs.free (1 + (i / 64).toNat)
  have v0 := wd_nonneg S (i / 64).toNat
  obtain ⟨v, hve⟩ : ∃ v, v = wd S (i / 64).toNat := ⟨_, rfl⟩
  have HE := Lib.hid (put_end b n i S w hs hn h0 h1 hve)
  rw [← hve] at hcv v0
  clear hve
  go_enter Tryd.func7, Tryd.ntmps7
  go_wp2_with (first
    | (go_at_call 21; refine (wrong_ok _ _ _ _ hc h0 h1).mono ?_; rintro e w' ⟨rfl, rfl⟩)
    | (go_at_call 11; refine H1.out.mono ?_; rintro e w' ⟨rfl, rfl⟩))
  go_region
  all_goals
    go_wp2
    go_ret
    exact ⟨rfl, grown_drew (grown_set _ _ _), HE.out⟩
set_option maxHeartbeats 800000 in
theorem drop_ok (b : Nat) (n i : Int) (S : Nat) (w : World) (hs : SetAt w b n S) (hn : n ≤ 2048) (h0 : 0 ≤ i) (h1 : i < n) (hb : S.testBit i.toNat = true) : Calls Tryd.prog 10 #[.pointer (some ⟨b, 0, none⟩), .int .i64 i] w fun e w' => e = .returned (.int .i64 0) ∧ w.grownBy w' (some b) ∧ SetAt w' b n (S ^^^ 2 ^ i.toNat) := by
  have hc := hs.head
  have H1 := Lib.hid (has_ok b n i S w hs hn h0 h1)
  have hcv := hs.word (k := (i / 64).toNat) (by omega)
  have hf := hs.free (1 + (i / 64).toNat)
  have v0 := wd_nonneg S (i / 64).toNat
  obtain ⟨v, hve⟩ : ∃ v, v = wd S (i / 64).toNat := ⟨_, rfl⟩
  have HE := Lib.hid (drop_end b n i S w hs hn h0 h1 hb hve)
  rw [hb] at H1; clear hb
  rw [← hve] at hcv v0
  clear hve
  go_enter Tryd.func10, Tryd.ntmps10
  go_wp2_with (first
    | (go_at_call 21; refine (wrong_ok _ _ _ _ hc h0 h1).mono ?_; rintro e w' ⟨rfl, rfl⟩)
    | (go_at_call 11; refine H1.out.mono ?_; rintro e w' ⟨rfl, rfl⟩))
  go_region
  all_goals
    go_wp2
    go_ret
    exact ⟨rfl, grown_drew (grown_set _ _ _), HE.out⟩
end Go.Proofs.YtaadbikaeofnoaaDoor
