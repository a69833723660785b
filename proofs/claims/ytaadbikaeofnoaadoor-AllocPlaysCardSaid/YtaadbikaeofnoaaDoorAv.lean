/- The walks of the reference's Take and Set (package stillroomref05). -/
import Derived.Test.YtaadbikaeofnoaaDoorAu
import Derived.Test.YtaadbikaeofnoaaDoorAm
namespace Go.Proofs.YtaadbikaeofnoaaDoor
open Go.RowKit
set_option linter.unusedVariables false

theorem RefAt.setn {w : World} {b g n S k : Nat} (h : RefAt w b g n S) (hk : k < n) (hb : S.testBit k = false) : RefAt (w.setCell ⟨g, k, none⟩ (.bool true)) b g n (S ||| 2 ^ k) :=
  h.set hk (or_at S k).symm fun j _ hj => by rw [or_bit]; simp [Ne.symm hj]
theorem RefAt.clrn {w : World} {b g n S k : Nat} (h : RefAt w b g n S) (hk : k < n) (hb : S.testBit k = true) : RefAt (w.setCell ⟨g, k, none⟩ (.bool false)) b g n (S ^^^ 2 ^ k) :=
  h.set hk (xor_at hb).symm fun j _ hj => by rw [xor_bit]; simp [Ne.symm hj]
set_option maxHeartbeats 400000 in
theorem rtake_ok (b g n S : Nat) (w : World) (hs : RefAt w b g n S) (hn : n ≤ 2048) (k : Nat) (hk : k < n) (hb : S.testBit k = false) (hlow : ∀ j, j < k → S.testBit j = true) :
    Calls Tryd.prog 17 #[.pointer (some ⟨b, 0, none⟩)] w fun e w' => e = .returned (.tuple #[.int .i64 k, .int .i64 0]) ∧ w.grownBy w' (some g) ∧ RefAt w' b g n (S ||| 2 ^ k) := by
  have hc := hs.cell0
  have HS := Lib.hid hs; clear hs
  have HL := Lib.hid hlow; clear hlow
  have HB := Lib.hid hb; clear hb
  go_enter Tryd.func17, Tryd.ntmps17
  go_wp2
  go_loop [4] (fun i => ∃ q : Int, 0 ≤ q ∧ q ≤ k ∧ i = .int .i64 q) (fun i => (2048 - intOf i).toNat)
  case atStart => exact ⟨0, by omega, by omega, rfl⟩
  case round =>
    obtain ⟨q, hq0, hq1, rfl⟩ := hrel
    have hcl := HS.out.cell (k := q.toNat) (by omega)
    by_cases hq : q < k
    · rw [HL.out q.toNat (by omega)] at hcl
      go_wp2
      go_round
      case rel => exact ⟨q + 1, by omega, by omega, rfl⟩
      case measure => simp [intOf]; omega
    · obtain rfl : q = (k : Int) := by omega
      have hfr := HS.out.free k
      have HN := Lib.hid (HS.out.setn hk HB.out)
      rw [Int.toNat_natCast, HB.out] at hcl
      go_wp2
      go_ret2
      exact ⟨rfl, grown_set _ ⟨g, k, none⟩ _, HN.out⟩
set_option maxHeartbeats 400000 in
theorem rtake_full (b g n S : Nat) (w : World) (hs : RefAt w b g n S) (hn : n ≤ 2048) (hall : ∀ j, j < n → S.testBit j = true) :
    Calls Tryd.prog 17 #[.pointer (some ⟨b, 0, none⟩)] w fun e w' => e = .returned (.tuple #[.int .i64 0, .int .i64 15]) ∧ w = w' := by
  have hc := hs.cell0
  have HS := Lib.hid hs; clear hs
  have HL := Lib.hid hall; clear hall
  go_enter Tryd.func17, Tryd.ntmps17
  go_wp2
  go_loop [4] (fun i => ∃ q : Int, 0 ≤ q ∧ q ≤ n ∧ i = .int .i64 q) (fun i => (2048 - intOf i).toNat)
  case atStart => exact ⟨0, by omega, by omega, rfl⟩
  case round =>
    obtain ⟨q, hq0, hq1, rfl⟩ := hrel
    by_cases hq : q < n
    · have hcl := HS.out.cell (k := q.toNat) (by omega)
      rw [HL.out q.toNat (by omega)] at hcl
      go_wp2
      go_round
      case rel => exact ⟨q + 1, by omega, by omega, rfl⟩
      case measure => simp [intOf]; omega
    · go_wp2
      go_ret2
      exact ⟨rfl, rfl⟩
set_option maxHeartbeats 400000 in
theorem rset_arg (b g n S : Nat) (i : Int) (t : Bool) (w : World) (hs : RefAt w b g n S) (hn : n ≤ 2048) (h : i < 0 ∨ (n : Int) ≤ i) :
    Calls Tryd.prog 18 #[.pointer (some ⟨b, 0, none⟩), .int .i64 i, .bool t] w fun e w' => e = .returned (.int .i64 2) ∧ w = w' := by
  have hc := hs.cell0
  by_cases h0 : i < 0
  · clear h hs
    go_enter Tryd.func18, Tryd.ntmps18
    go_wp2
    go_ret
    exact ⟨rfl, rfl⟩
  · have h1 : (n : Int) ≤ i := by omega
    clear h hs
    go_enter Tryd.func18, Tryd.ntmps18
    go_wp2
    go_ret
    exact ⟨rfl, rfl⟩
set_option maxHeartbeats 400000 in
theorem rset_there (b g n S : Nat) (i : Int) (w : World) (hs : RefAt w b g n S) (hn : n ≤ 2048) (h0 : 0 ≤ i) (h1 : i < n) (hb : S.testBit i.toNat = true) :
    Calls Tryd.prog 18 #[.pointer (some ⟨b, 0, none⟩), .int .i64 i, .bool true] w fun e w' => e = .returned (.int .i64 13) ∧ w = w' := by
  have hc := hs.cell0
  have hcl := hs.cell (k := i.toNat) (by omega)
  rw [hb] at hcl
  clear hs hb
  go_enter Tryd.func18, Tryd.ntmps18
  go_wp2
  go_ret
  exact ⟨rfl, rfl⟩
set_option maxHeartbeats 400000 in
theorem rset_none (b g n S : Nat) (i : Int) (w : World) (hs : RefAt w b g n S) (hn : n ≤ 2048) (h0 : 0 ≤ i) (h1 : i < n) (hb : S.testBit i.toNat = false) :
    Calls Tryd.prog 18 #[.pointer (some ⟨b, 0, none⟩), .int .i64 i, .bool false] w fun e w' => e = .returned (.int .i64 14) ∧ w = w' := by
  have hc := hs.cell0
  have hcl := hs.cell (k := i.toNat) (by omega)
  rw [hb] at hcl
  clear hs hb
  go_enter Tryd.func18, Tryd.ntmps18
  go_wp2
  go_ret
  exact ⟨rfl, rfl⟩
set_option maxHeartbeats 400000 in
theorem rset_put (b g n S : Nat) (i : Int) (w : World) (hs : RefAt w b g n S) (hn : n ≤ 2048) (h0 : 0 ≤ i) (h1 : i < n) (hb : S.testBit i.toNat = false) :
    Calls Tryd.prog 18 #[.pointer (some ⟨b, 0, none⟩), .int .i64 i, .bool true] w fun e w' => e = .returned (.int .i64 0) ∧ w.grownBy w' (some g) ∧ RefAt w' b g n (S ||| 2 ^ i.toNat) := by
  have hc := hs.cell0
  have hcl := hs.cell (k := i.toNat) (by omega)
  have hfr := hs.free i.toNat
  have HN := Lib.hid (hs.setn (k := i.toNat) (by omega) hb)
  rw [hb] at hcl
  clear hs hb
  go_enter Tryd.func18, Tryd.ntmps18
  go_wp2
  go_ret
  exact ⟨rfl, grown_set _ ⟨g, i.toNat, none⟩ _, HN.out⟩
set_option maxHeartbeats 400000 in
theorem rset_drop (b g n S : Nat) (i : Int) (w : World) (hs : RefAt w b g n S) (hn : n ≤ 2048) (h0 : 0 ≤ i) (h1 : i < n) (hb : S.testBit i.toNat = true) :
    Calls Tryd.prog 18 #[.pointer (some ⟨b, 0, none⟩), .int .i64 i, .bool false] w fun e w' => e = .returned (.int .i64 0) ∧ w.grownBy w' (some g) ∧ RefAt w' b g n (S ^^^ 2 ^ i.toNat) := by
  have hc := hs.cell0
  have hcl := hs.cell (k := i.toNat) (by omega)
  have hfr := hs.free i.toNat
  have HN := Lib.hid (hs.clrn (k := i.toNat) (by omega) hb)
  rw [hb] at hcl
  clear hs hb
  go_enter Tryd.func18, Tryd.ntmps18
  go_wp2
  go_ret
  exact ⟨rfl, grown_set _ ⟨g, i.toNat, none⟩ _, HN.out⟩
end Go.Proofs.YtaadbikaeofnoaaDoor
