/- Number, of the program and of the reference, of four bytes. -/
import Derived.Test.YtecahdjopdfeeaaGreatDoorSa
namespace Go.Proofs.YtecahdjopdfeeaaGreatDoor
open Go.RowKit
/-- the number of the first k bytes -/
def nm (l : List Int) : Nat → Int
  | 0 => 0
  | k + 1 => nm l k * 256 + l.getD k 0
/-- bytes that are read at an address -/
structure Byts (w : World) (g o n : Nat) (l : List Int) : Prop where
  len : l.length = n
  at_ : ∀ i, i < n → w.cell? ⟨g, o + i, none⟩ = some (.int .u8 (l.getD i 0))
  lo : ∀ i, 0 ≤ l.getD i 0
  hi : ∀ i, l.getD i 0 ≤ 255
theorem Byts.below {w w' : World} {g o n : Nat} {l : List Int} (h : Byts w g o n l) (hb : Below w.heap.size w w') : Byts w' g o n l :=
  ⟨h.len, fun i hi => (hb.cell (World.block_lt_of_cell? _ _ (h.at_ i hi))).trans (h.at_ i hi), h.lo, h.hi⟩
theorem nm_bound (l : List Int) (lo : ∀ i, 0 ≤ l.getD i 0) (hi : ∀ i, l.getD i 0 ≤ 255) : ∀ k, 0 ≤ nm l k ∧ nm l k < 256 ^ k
  | 0 => by simp [nm]
  | k + 1 => by
    have ih := nm_bound l lo hi k
    have h1 := lo k
    have h2 := hi k
    rw [nm, Int.pow_succ]
    omega
theorem nm_small (l : List Int) (lo : ∀ i, 0 ≤ l.getD i 0) (hi : ∀ i, l.getD i 0 ≤ 255) (k : Nat) (hk : k ≤ 3) : 0 ≤ nm l k ∧ nm l k < 16777216 := by
  have := nm_bound l lo hi k
  have h : (256 : Int) ^ k ≤ 16777216 := by
    match k, hk with
    | 0, _ => decide
    | 1, _ => decide
    | 2, _ => decide
    | 3, _ => decide
  omega
theorem or_byte (v x : Int) (h0 : 0 ≤ v) (h1 : v < 16777216) (h2 : 0 ≤ x) (h3 : x ≤ 255) : bits .or .u64 (v * 256) x = v * 256 + x := by
  obtain ⟨a, rfl⟩ := Int.eq_ofNat_of_zero_le h0
  obtain ⟨b, rfl⟩ := Int.eq_ofNat_of_zero_le h2
  have e : ((a : Int) * 256) = ((a * 256 : Nat) : Int) := by omega
  rw [e, u64_or_nat _ _ (by omega) (by omega), nat_join 8 (a * 256) b (by omega) (by omega)]
  omega
set_option maxHeartbeats 1000000 in
theorem number4 (w : World) (g o c : Nat) (l : List Int) (h : Byts w g o 4 l) :
    Calls Tryz.prog 154 #[.slice (some ⟨g, o, none⟩) 4 c] w fun e w' => e = .returned (.tuple #[.int .u64 (nm l 4), .int .i64 0]) ∧ w = w' := by
  have H := Lib.hid h
  clear h
  go_enter Tryz.func154, Tryz.ntmps154
  go_wp2
  go_loop [4, 17] (fun v i => ∃ k : Nat, k ≤ 4 ∧ i = .int .i64 k ∧ v = .int .u64 (nm l k)) (fun _ i => 4 - (intOf i).toNat)
  case atStart => exact ⟨0, Nat.zero_le _, rfl, rfl⟩
  case round =>
    obtain ⟨k, hk, rfl, rfl⟩ := hrel
    by_cases hlt : k < 4
    · have hx : w.cell? ⟨g, o + k, none⟩ = some (.int .u8 (l.getD k 0)) := H.out.at_ k hlt
      have hs := nm_small l H.out.lo H.out.hi k (by omega)
      have x0 := H.out.lo k
      have x1 := H.out.hi k
      have hn : Hid (nm l (k + 1) = nm l k * 256 + l.getD k 0) := rfl
      have ho := or_byte (nm l k) (l.getD k 0) hs.1 hs.2 x0 x1
      obtain ⟨s0, s1⟩ := hs
      generalize nm l k = v at s0 s1 hn ho ⊢
      generalize l.getD k 0 = x at x0 x1 hx hn ho
      go_wp2
      go_round
      case rel => exact ⟨k + 1, by omega, by go_num, by rw [hn.out]⟩
      case measure => simp [intOf]; omega
    · obtain rfl : k = 4 := by omega
      go_wp2
      go_ret2
      exact ⟨rfl, rfl⟩
set_option maxHeartbeats 1000000 in
theorem rnumber4 (w : World) (g o c : Nat) (l : List Int) (h : Byts w g o 4 l) :
    Calls Tryz.prog 116 #[.slice (some ⟨g, o, none⟩) 4 c] w fun e w' => e = .returned (.tuple #[.int .u64 (nm l 4), .int .i64 0]) ∧ w = w' := by
  have H := Lib.hid h
  clear h
  go_enter Tryz.func116, Tryz.ntmps116
  go_wp2
  go_loop [4, 5] (fun v i => ∃ k : Nat, k ≤ 4 ∧ i = .int .i64 k ∧ v = .int .u64 (nm l k)) (fun _ i => 4 - (intOf i).toNat)
  case atStart => exact ⟨0, Nat.zero_le _, rfl, rfl⟩
  case round =>
    obtain ⟨k, hk, rfl, rfl⟩ := hrel
    by_cases hlt : k < 4
    · have hx : w.cell? ⟨g, o + k, none⟩ = some (.int .u8 (l.getD k 0)) := H.out.at_ k hlt
      have hs := nm_small l H.out.lo H.out.hi k (by omega)
      have x0 := H.out.lo k
      have x1 := H.out.hi k
      have hn : Hid (nm l (k + 1) = nm l k * 256 + l.getD k 0) := rfl
      obtain ⟨s0, s1⟩ := hs
      generalize nm l k = v at s0 s1 hn ⊢
      generalize l.getD k 0 = x at x0 x1 hx hn
      go_wp2
      go_round
      case rel => exact ⟨k + 1, by omega, by go_num, by rw [hn.out]⟩
      case measure => simp [intOf]; omega
    · obtain rfl : k = 4 := by omega
      go_wp2
      go_ret2
      exact ⟨rfl, rfl⟩
end Go.Proofs.YtecahdjopdfeeaaGreatDoor
