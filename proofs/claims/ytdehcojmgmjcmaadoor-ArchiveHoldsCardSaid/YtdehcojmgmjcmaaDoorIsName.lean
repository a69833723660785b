/- tree.isName: not empty, at most 60 bytes, not a dot or two, and no rune outside 33 .. 126, nor '/'. -/
import Derived.Test.YtdehcojmgmjcmaaDoorShelf
import Derived.WalkKit
import Derived.ProofKit
import Derived.Below
import Derived.Deep.RegionWith
import Derived.Lib.Hide
namespace Go.Proofs.YtdehcojmgmjcmaaDoor
open Go.RowKit
/-- a rune that no name has -/
def strange (r : Nat) : Bool := decide (r < 33) || decide (126 < r) || r == 47
def nameOk (s : ByteArray) : Bool := !decide (s.toList = ([] : List UInt8)) && decide ((s.size : Int) ≤ 60) && !decide (s.toList = ([46] : List UInt8)) && !decide (s.toList = ([46, 46] : List UInt8)) && !(decide (0 ≤ Lib.idxFunc strange true s))
theorem strange_ok (w : World) : PredAt Tryd.prog 39 #[] encR strange w := fun W r _ => by
  unfold FnGives
  by_cases h1 : r < 33
  · have e1 : ((r : Int) < 33) := by omega
    go_enter Tryd.func39, Tryd.ntmps39
    go_wp2
    go_ret
    exact ⟨by simp [strange, h1], 0, rfl⟩
  · have e1 : ¬ ((r : Int) < 33) := by omega
    by_cases h2 : 126 < r
    · have e2 : ((126 : Int) < r) := by omega
      go_enter Tryd.func39, Tryd.ntmps39
      go_wp2
      go_ret
      exact ⟨by simp [strange, h1, h2], 0, rfl⟩
    · have e2 : ¬ ((126 : Int) < r) := by omega
      go_enter Tryd.func39, Tryd.ntmps39
      go_wp2
      go_ret
      refine ⟨?_, 0, rfl⟩
      have e3 : ((r : Int) == 47) = (r == 47) := by
        by_cases e : r = 47
        · subst e; rfl
        · have e' : ¬ (r : Int) = 47 := by omega
          rw [beq_eq_false_iff_ne.2 e, beq_eq_false_iff_ne.2 e']
      simp [strange, h1, h2, e3]
theorem isName_ok (s : ByteArray) (w : World) : Calls Tryd.prog 29 #[.string s] w fun e w' => e = .returned (.bool (nameOk s)) ∧ Below w.heap.size w w' := by
  have hC := fun W => Tryd.strings_ContainsFunc 39 #[] (enters_of Tryd.func39 (by kernel_rfl) rfl) strange s W (strange_ok W)
  obtain ⟨b4, hb4⟩ : ∃ b, (decide (0 ≤ Lib.idxFunc strange true s)) = b := ⟨_, rfl⟩
  unfold nameOk
  rw [hb4]
  rw [hb4] at hC
  have HC := Lib.hid hC
  clear hC hb4
  by_cases h1 : s.toList = ([] : List UInt8)
  · rw [decide_eq_true h1]
    have h3 : ¬ s.toList = ([46] : List UInt8) := by simp [h1]
    have h4 : ¬ s.toList = ([46, 46] : List UInt8) := by simp [h1]
    go_enter Tryd.func29, Tryd.ntmps29
    go_wp2_with (go_at_call 40; refine (HC.out _).mono ?_; rintro e w' ⟨rfl, hb⟩)
    go_ret
    exact ⟨by simp, Below.refl _ _⟩
  · rw [decide_eq_false h1]
    by_cases hs : (s.size : Int) ≤ 60
    · rw [decide_eq_true hs]
      by_cases h3 : s.toList = ([46] : List UInt8)
      · rw [decide_eq_true h3]
        go_enter Tryd.func29, Tryd.ntmps29
        go_wp2_with (go_at_call 40; refine (HC.out _).mono ?_; rintro e w' ⟨rfl, hb⟩)
        go_ret
        exact ⟨by simp, Below.refl _ _⟩
      · rw [decide_eq_false h3]
        by_cases h4 : s.toList = ([46, 46] : List UInt8)
        · rw [decide_eq_true h4]
          go_enter Tryd.func29, Tryd.ntmps29
          go_wp2_with (go_at_call 40; refine (HC.out _).mono ?_; rintro e w' ⟨rfl, hb⟩)
          go_ret
          exact ⟨by simp, Below.refl _ _⟩
        · rw [decide_eq_false h4]
          go_enter Tryd.func29, Tryd.ntmps29
          go_wp2_with (go_at_call 40; refine (HC.out _).mono ?_; rintro e w' ⟨rfl, hb⟩)
          go_ret
          exact ⟨by simp [h1, h3, h4], hb⟩
    · rw [decide_eq_false hs]
      go_enter Tryd.func29, Tryd.ntmps29
      go_wp2_with (go_at_call 40; refine (HC.out _).mono ?_; rintro e w' ⟨rfl, hb⟩)
      go_ret
      exact ⟨by simp, Below.refl _ _⟩
end Go.Proofs.YtdehcojmgmjcmaaDoor
