/- The walks of alloc.Read and (*alloc.Set).Bytes: what is read of 256 bytes is the set of that number, or its error; what Bytes tells are the set's 256 bytes in new memory. -/
import Derived.Test.YtaadbikaeofnoaaDoorAw
import Derived.Test.YtaadbikaeofnoaaDoorAq
namespace Go.Proofs.YtaadbikaeofnoaaDoor
open Go.RowKit

theorem grown_set_new {w wr : World} (h : w.grownBy wr none) {b : Nat} (hb : w.heap.size ≤ b) (j : Nat) (v : Value) : w.grownBy (wr.setCell ⟨b, j, none⟩ v) none :=
  ⟨h.os, h.tape, h.output, by have := h.size; simpa [World.setCell] using this, fun i hi hr => (heap_setCell_other wr ⟨b, j, none⟩ i v (by show i ≠ b; omega)).trans (h.block i hi hr)⟩

/-- 256 bytes that came in -/
def Bytes256 (w : World) (ab off : Nat) (z : List Int) : Prop := z.length = 256 ∧ (∀ x ∈ z, 0 ≤ x ∧ x ≤ 255) ∧ ∀ i, i < 256 → w.cell? ⟨ab, off + i, none⟩ = some (.int .u8 (z.getD i 0))
theorem Bytes256.at {w : World} {ab off : Nat} {z : List Int} (h : Bytes256 w ab off z) (i : Nat) (hi : i < 256) : w.cell? ⟨ab, off + i, none⟩ = some (.int .u8 (z.getD i 0)) ∧ 0 ≤ z.getD i 0 ∧ z.getD i 0 ≤ 255 := by
  refine ⟨h.2.2 i hi, ?_⟩
  have hl : i < z.length := by have := h.1; omega
  rw [List.getD_eq_getElem?_getD, List.getElem?_eq_getElem hl, Option.getD_some]
  exact h.2.1 _ (List.getElem_mem hl)
theorem Bytes256.grown {w w' : World} {ab off : Nat} {z : List Int} (h : Bytes256 w ab off z) (hg : w.grownBy w' none) : Bytes256 w' ab off z :=
  ⟨h.1, h.2.1, fun i hi => hg.cell (h.2.2 i hi) (by simp)⟩
theorem Bytes256.lt {w : World} {ab off : Nat} {z : List Int} (h : Bytes256 w ab off z) : toS z < 2 ^ (8 * 256) := by
  have := toS_lt z h.2.1
  rw [h.1] at this
  exact this

def ReadRel (w : World) (b : Nat) (n : Int) (z : List Int) (k : Int) (wr : World) : Prop := w.grownBy wr none ∧ SetAt wr b n (toS (z.take k.toNat))
theorem take_next (z : List Int) (k : Nat) (h : k < z.length) : z.take (k + 1) = z.take k ++ [z.getD k 0] := by
  rw [List.take_succ_eq_append_getElem h, List.getD_eq_getElem?_getD, List.getElem?_eq_getElem h, Option.getD_some]
theorem lay_word {T k : Nat} {x : Int} (hT : T < 2 ^ (8 * k)) (h0 : 0 ≤ x) (h1 : x ≤ 255) : bits BinOp.or IntKind.u64 (wd T (k / 8)) (IntKind.u64.wrap (x * 2 ^ (8 * (k % 8)))) = wd (2 ^ (8 * k) * x.toNat + T) (k / 8) := by
  obtain ⟨y, rfl⟩ := Int.eq_ofNat_of_zero_le h0
  rw [Int.toNat_natCast, wd_lay_same hT (by omega)]
  have hp : 2 ^ (8 * (k % 8)) ≤ 2 ^ 56 := Nat.pow_le_pow_right (by omega) (by omega)
  have hlt : y * 2 ^ (8 * (k % 8)) < 18446744073709551616 := Nat.lt_of_le_of_lt (Nat.mul_le_mul (show y ≤ 255 by omega) hp) (by decide)
  have e : (y : Int) * 2 ^ (8 * (k % 8)) = ((y * 2 ^ (8 * (k % 8)) : Nat) : Int) := by rw [Int.natCast_mul, two_pow_cast]
  rw [e, wrap_u64 _ (by omega) (by omega)]
  exact u64_or_nat _ _ (dg_lt 64 _ _) hlt
theorem ReadRel.next {w wr : World} {b : Nat} {n : Int} {z : List Int} {k : Int} (h : ReadRel w b n z k wr) (hb : w.heap.size ≤ b) (h0 : 0 ≤ k) (h1 : k < 256) (hz : z.length = 256) (hx : ∀ x ∈ z, 0 ≤ x ∧ x ≤ 255) {v x : Int}
    (hv : v = wd (toS (z.take k.toNat)) (k / 8).toNat) (hxe : x = z.getD k.toNat 0) :
    ReadRel w b n z (k + 1) (wr.setCell ⟨b, 1 + (k / 8).toNat, none⟩ (.int .u64 (bits BinOp.or IntKind.u64 v (IntKind.u64.wrap (x * 2 ^ (8 * (k % 8)).toNat))))).drew := by
  obtain ⟨k, rfl⟩ := Int.eq_ofNat_of_zero_le h0
  have e1 : ((k : Int) / 8).toNat = k / 8 := by omega
  have e2 : (8 * ((k : Int) % 8)).toNat = 8 * (k % 8) := by omega
  have e3 : ((k : Int) + 1).toNat = k + 1 := by omega
  have hkl : k < z.length := by omega
  have hT := toS_lt (z.take k) fun y hy => hx y (List.mem_of_mem_take hy)
  have hl : (z.take k).length = k := by rw [List.length_take]; omega
  rw [hl] at hT
  have hx2 : 0 ≤ z.getD k 0 ∧ z.getD k 0 ≤ 255 := by
    rw [List.getD_eq_getElem?_getD, List.getElem?_eq_getElem hkl, Option.getD_some]
    exact hx _ (List.getElem_mem hkl)
  rw [Int.toNat_natCast] at hv hxe
  rw [e1] at hv
  subst hv hxe
  rw [e1, e2]
  refine ⟨grown_drew (grown_set_new h.1 hb _ _), SetAt.drew ?_⟩
  have hs := h.2
  rw [Int.toNat_natCast] at hs
  rw [e3, take_next z k hkl, toS_snoc, hl]
  exact hs.set (by omega) (lay_word hT hx2.1 hx2.2) fun j _ hj => wd_lay_other hT (by omega) hj
theorem ReadRel.full {w wr : World} {b : Nat} {n : Int} {z : List Int} {k : Int} (h : ReadRel w b n z k wr) (hk : 256 ≤ k) (hz : z.length = 256) : SetAt wr b n (toS z) := by
  have := h.2
  rwa [List.take_of_length_le (by omega)] at this

set_option maxHeartbeats 400000 in
theorem read_arg (a : Option Addr) (len cap : Nat) (n : Int) (w : World) (h : n < 1 ∨ 2048 < n) :
    Calls Tryd.prog 19 #[.slice a len cap, .int .i64 n] w fun e w' => e = .returned (.tuple #[.pointer none, .int .i64 2]) ∧ w = w' := by
  go_enter Tryd.func19, Tryd.ntmps19
  go_wp2_with (go_at_call 6; refine (new_bad _ _ h).mono ?_; rintro e w' ⟨rfl, rfl⟩)
  go_ret2
  exact ⟨rfl, rfl⟩
set_option maxHeartbeats 400000 in
theorem read_len (a : Option Addr) (len cap : Nat) (n : Int) (w : World) (h : 1 ≤ n) (h2 : n ≤ 2048) (hl : len ≠ 256) :
    Calls Tryd.prog 19 #[.slice a len cap, .int .i64 n] w fun e w' => e = .returned (.tuple #[.pointer none, .int .i64 2]) ∧ w.grownBy w' none := by
  have hl' : ((len : Int) != 256) = true := by rw [bne_iff_ne]; omega
  go_enter Tryd.func19, Tryd.ntmps19
  go_wp2_with (go_at_call 6; refine (new_ok _ _ h h2).mono ?_; rintro e w' ⟨rfl, hg, hs, hlt⟩)
  go_ret2
  exact ⟨rfl, hg⟩
set_option maxHeartbeats 800000 in
theorem read_ok (ab off cap : Nat) (n : Int) (z : List Int) (w : World) (h : 1 ≤ n) (h2 : n ≤ 2048) (hz : Bytes256 w ab off z) (hS : toS z < 2 ^ n.toNat) :
    Calls Tryd.prog 19 #[.slice (some ⟨ab, off, none⟩) 256 cap, .int .i64 n] w fun e w' => e = .returned (.tuple #[.pointer (some ⟨w.heap.size, 0, none⟩), .int .i64 0]) ∧ w.grownBy w' none ∧ SetAt w' w.heap.size n (toS z) := by
  have HZ := Lib.hid hz; clear hz
  have HS := Lib.hid hS; clear hS
  go_enter Tryd.func19, Tryd.ntmps19
  go_wp2_with (go_at_call 6; refine (new_ok _ _ h h2).mono ?_; rintro e w1 ⟨rfl, hg, hs, hlt⟩)
  go_loopw [8, 9, 25] (fun _ _ i wr => ∃ k : Int, 0 ≤ k ∧ k ≤ 256 ∧ i = .int .i64 k ∧ ReadRel w w.heap.size n z k wr) (fun _ _ i _ => (256 - intOf i).toNat)
  case atStart => exact ⟨0, by omega, by omega, rfl, hg, hs⟩
  case round =>
    obtain ⟨k, hk0, hk1, rfl, hr⟩ := hrel
    clear hg hs hlt
    by_cases hlt : k < 256
    · obtain ⟨ha, hx0, hx1⟩ := (HZ.out.grown hr.1).at k.toNat (by omega)
      obtain ⟨x, hxe⟩ : ∃ x, x = z.getD k.toNat 0 := ⟨_, rfl⟩
      obtain ⟨v, hve⟩ : ∃ v, v = wd (toS (z.take k.toNat)) (k / 8).toNat := ⟨_, rfl⟩
      have HN := Lib.hid (hr.next (Nat.le_refl _) hk0 hlt HZ.out.1 HZ.out.2.1 hve hxe)
      have hc := hr.2.word (k := (k / 8).toNat) (by omega)
      have hf := hr.2.free (1 + (k / 8).toNat)
      rw [← hxe] at ha hx0 hx1
      rw [← hve] at hc
      clear hxe hve
      go_wp2
      go_region
      all_goals
        go_wp2
        exact ⟨⟨k + 1, by omega, by omega, rfl, HN.out⟩, by simp [intOf]; omega⟩
    · have HR := Lib.hid (hr.full (by omega) HZ.out.1)
      have HG := Lib.hid hr.1
      clear hr
      go_wp2
      go_loop [10] (fun i => ∃ j : Int, n ≤ j ∧ j ≤ 2048 ∧ i = .int .i64 j) (fun i => (2048 - intOf i).toNat)
      case atStart => exact ⟨n, by omega, by omega, rfl⟩
      case round =>
        obtain ⟨j, hj0, hj1, rfl⟩ := hrel
        by_cases hj : j < 2048
        · have hb := wd_bit (toS z) j (by omega)
          have hb2 : (toS z).testBit j.toNat = false := Nat.testBit_lt_two_pow (Nat.lt_of_lt_of_le HS.out (Nat.pow_le_pow_right (by omega) (by omega)))
          rw [hb2] at hb
          have hc := HR.out.word (k := (j / 64).toNat) (by omega)
          have v0 := wd_nonneg (toS z) (j / 64).toNat
          clear hb2
          generalize wd (toS z) (j / 64).toNat = v at hb hc v0
          go_wp2
          go_round
          case rel => exact ⟨j + 1, by omega, by omega, rfl⟩
          case measure => simp [intOf]; omega
        · go_wp2
          go_ret2
          exact ⟨rfl, HG.out, HR.out⟩
set_option maxHeartbeats 800000 in
theorem read_form (ab off cap : Nat) (n : Int) (z : List Int) (w : World) (h : 1 ≤ n) (h2 : n ≤ 2048) (hz : Bytes256 w ab off z) (hS : ¬ toS z < 2 ^ n.toNat) :
    Calls Tryd.prog 19 #[.slice (some ⟨ab, off, none⟩) 256 cap, .int .i64 n] w fun e w' => e = .returned (.tuple #[.pointer none, .int .i64 10]) ∧ w.grownBy w' none := by
  have HZ := Lib.hid hz; clear hz
  have HS := Lib.hid hS; clear hS
  go_enter Tryd.func19, Tryd.ntmps19
  go_wp2_with (go_at_call 6; refine (new_ok _ _ h h2).mono ?_; rintro e w1 ⟨rfl, hg, hs, hlt⟩)
  go_loopw [8, 9, 25] (fun _ _ i wr => ∃ k : Int, 0 ≤ k ∧ k ≤ 256 ∧ i = .int .i64 k ∧ ReadRel w w.heap.size n z k wr) (fun _ _ i _ => (256 - intOf i).toNat)
  case atStart => exact ⟨0, by omega, by omega, rfl, hg, hs⟩
  case round =>
    obtain ⟨k, hk0, hk1, rfl, hr⟩ := hrel
    clear hg hs hlt
    by_cases hlt : k < 256
    · obtain ⟨ha, hx0, hx1⟩ := (HZ.out.grown hr.1).at k.toNat (by omega)
      obtain ⟨x, hxe⟩ : ∃ x, x = z.getD k.toNat 0 := ⟨_, rfl⟩
      obtain ⟨v, hve⟩ : ∃ v, v = wd (toS (z.take k.toNat)) (k / 8).toNat := ⟨_, rfl⟩
      have HN := Lib.hid (hr.next (Nat.le_refl _) hk0 hlt HZ.out.1 HZ.out.2.1 hve hxe)
      have hc := hr.2.word (k := (k / 8).toNat) (by omega)
      have hf := hr.2.free (1 + (k / 8).toNat)
      rw [← hxe] at ha hx0 hx1
      rw [← hve] at hc
      clear hxe hve
      go_wp2
      go_region
      all_goals
        go_wp2
        exact ⟨⟨k + 1, by omega, by omega, rfl, HN.out⟩, by simp [intOf]; omega⟩
    · have HR := Lib.hid (hr.full (by omega) HZ.out.1)
      have HG := Lib.hid hr.1
      clear hr
      go_wp2
      go_loop [10] (fun i => ∃ j : Int, n ≤ j ∧ j ≤ 2048 ∧ i = .int .i64 j ∧ Hid (∀ t : Nat, n.toNat ≤ t → t < j.toNat → (toS z).testBit t = false)) (fun i => (2048 - intOf i).toNat)
      case atStart => exact ⟨n, by omega, by omega, rfl, Lib.hid fun t ht1 ht2 => by omega⟩
      case round =>
        obtain ⟨j, hj0, hj1, rfl, hno⟩ := hrel
        by_cases hj : j < 2048
        · have hb := wd_bit (toS z) j (by omega)
          have hc := HR.out.word (k := (j / 64).toNat) (by omega)
          have v0 := wd_nonneg (toS z) (j / 64).toNat
          generalize wd (toS z) (j / 64).toNat = v at hb hc v0
          by_cases ht : (toS z).testBit j.toNat = true
          · rw [ht] at hb
            clear ht
            go_wp2
            go_ret2
            exact ⟨rfl, HG.out⟩
          · have hb2 : (toS z).testBit j.toNat = false := by simpa using ht
            have HB2 := Lib.hid hb2
            rw [hb2] at hb
            clear ht hb2
            go_wp2
            go_round
            case rel =>
              refine ⟨j + 1, by omega, by omega, rfl, Lib.hid fun t ht1 ht2 => ?_⟩
              by_cases e : t = j.toNat
              · subst e; exact HB2.out
              · exact hno.out t ht1 (by omega)
            case measure => simp [intOf]; omega
        · have hbad := HS.out
          exact absurd (small_of_bits (p := 8 * 256) HZ.out.lt fun t h1 h3 => hno.out t h1 (by omega)) hbad
end Go.Proofs.YtaadbikaeofnoaaDoor
