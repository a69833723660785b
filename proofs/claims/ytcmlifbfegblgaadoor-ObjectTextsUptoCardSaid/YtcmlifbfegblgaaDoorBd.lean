/- strings.Cut at a blank; a line without its end; the words' map. -/
import Derived.Test.YtcmlifbfegblgaaDoorBc
namespace Go.Proofs.YtcmlifbfegblgaaDoor
set_option linter.unusedVariables false
set_option linter.unusedSimpArgs false
open Go.RowKit Go.Proofs.YtcmlifbfegblgaaDoorW.PrintWords Go.Proofs.YtcmlifbfegblgaaDoorW.PrintLast Go.Proofs.YtcmlifbfegblgaaDoorW.PrintMore

def blank (s : ByteArray) : Option Nat := if Lib.indexByte s.data.toList 32 < 0 then none else some (Lib.indexByte s.data.toList 32).toNat
def wordOf (s : ByteArray) : ByteArray := match blank s with | some k => s.extract 0 k | none => s
def restOf (s : ByteArray) : ByteArray := match blank s with | some k => s.extract (k + 1) s.size | none => ⟨#[]⟩

theorem scut_of (s : ByteArray) (w : World) (hs : s.size ≤ 140737488355328) :
    Calls Tryd.prog 47 #[.string s, .string ⟨#[32]⟩] w fun e w' => e = .returned (.tuple #[.string (wordOf s), .string (restOf s), .bool (blank s).isSome]) ∧ ∃ q, w' = w.drewN q := by
  have hcall := Tryd.stringslite_Index_one s 32 w
  obtain ⟨ix, hix⟩ : ∃ ix, Lib.indexByte s.data.toList 32 = ix := ⟨_, rfl⟩
  rw [hix] at hcall
  unfold wordOf restOf blank
  rw [hix]
  by_cases h : ix < 0
  · rw [if_pos h]
    go_enter Tryd.func47, Tryd.ntmps47
    go_wp2_with (go_at_call 66; refine hcall.mono ?_; rintro e w' ⟨rfl, rfl⟩)
    all_goals first | (exfalso; omega) | skip
    go_ret3
    exact ⟨rfl, 0, rfl⟩
  · rw [if_neg h]
    obtain ⟨k, rfl⟩ := Int.eq_ofNat_of_zero_le (show 0 ≤ ix by omega)
    have hlt : k < s.size := by
      have h2 := (List.getElem?_eq_some_iff.1 (Lib.indexByte_some hix).1).1
      rwa [Array.length_toList] at h2
    have hw1 : wrap64 ((k : Int) + 1) = ((k + 1 : Nat) : Int) := by unfold wrap64; omega
    go_enter Tryd.func47, Tryd.ntmps47
    go_wp2_with (go_at_call 66; refine hcall.mono ?_; rintro e w' ⟨rfl, rfl⟩)
    have hmix : Tryd.prog.follows .mixedOrders = true := by kernel_rfl
    go_region
    all_goals go_wp2
    all_goals go_ret3
    all_goals exact ⟨rfl, 1, rfl⟩
theorem cut_of (s : ByteArray) (w : World) (hs : s.size ≤ 140737488355328) :
    Calls Tryd.prog 24 #[.string s, .string ⟨#[32]⟩] w fun e w' => e = .returned (.tuple #[.string (wordOf s), .string (restOf s), .bool (blank s).isSome]) ∧ ∃ q, w' = w.drewN q := by
  have hcall := scut_of s w hs
  go_enter Tryd.func24, Tryd.ntmps24
  go_wp2_with (go_at_call 47; refine hcall.mono ?_; rintro e w' ⟨rfl, q, rfl⟩)
  go_ret3
  exact ⟨rfl, _, rfl⟩
end Go.Proofs.YtcmlifbfegblgaaDoor
