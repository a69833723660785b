/- Trees that no call made: what their methods tell: nothing, and error 1. -/
import Derived.Test.YtecahdjopdfeeaaGreatDoorShelf
import Derived.Test.YtecahdjopdfeeaaGreatDoorIsName
import Derived.WalkKit
import Derived.WalkSpells
import Derived.ProofKit
import Derived.Below
import Derived.Deep.RegionWith
import Derived.Lib.Hide
import Derived.Handy
namespace Go.Proofs.YtecahdjopdfeeaaGreatDoor
open Go.RowKit
/-- a tree that no call made -/
inductive NoTree (w : World) : Value → Prop
  | nil : NoTree w (.pointer none)
  | zero (b : Nat) (h : w.cell? ⟨b, 1, none⟩ = some (.pointer none)) : NoTree w (.pointer (some ⟨b, 0, none⟩))
theorem NoTree.below {w w' : World} {v : Value} (h : NoTree w v) (hb : Below w.heap.size w w') : NoTree w' v := by
  cases h with
  | nil => exact .nil
  | zero b h => exact .zero b ((hb.cell (World.block_lt_of_cell? _ _ h)).trans h)
theorem tnone_nil (w : World) : Calls Tryz.prog 38 #[.pointer none] w fun e w' => e = .returned (.bool true) ∧ w = w' := by
  go_enter Tryz.func38, Tryz.ntmps38
  go_wp2
  go_ret
  exact ⟨rfl, rfl⟩
theorem tnone_zero (b : Nat) (w : World) (h : w.cell? ⟨b, 1, none⟩ = some (.pointer none)) : Calls Tryz.prog 38 #[.pointer (some ⟨b, 0, none⟩)] w fun e w' => e = .returned (.bool true) ∧ w = w' := by
  go_enter Tryz.func38, Tryz.ntmps38
  go_wp2
  go_ret
  exact ⟨rfl, rfl⟩
theorem tnone_any (v : Value) (w : World) (h : NoTree w v) : Calls Tryz.prog 38 #[v] w fun e w' => e = .returned (.bool true) ∧ w = w' := by
  cases h with
  | nil => exact tnone_nil w
  | zero b h => exact tnone_zero b w h
def SplitPost (w : World) (e : Ending) (w' : World) : Prop := (∃ (v : Value) (b : Bool), e = .returned (.tuple #[v, .bool b])) ∧ Below w.heap.size w w'
structure SRel (w : World) (g n : Nat) (l : List ByteArray) (wr : World) : Prop where
  below : Below w.heap.size w wr
  len : l.length = n
  at_ : ∀ k (h : k < l.length), wr.cell? ⟨g, k, none⟩ = some (.string l[k])
theorem SRel.step {w wr w' : World} {g n : Nat} {l : List ByteArray} (h : SRel w g n l wr) (hb : Below wr.heap.size wr w') : SRel w g n l w' :=
  ⟨h.below.trans (hb.mono h.below.size), h.len, fun k hk => (hb.cell (World.block_lt_of_cell? _ _ (h.at_ k hk))).trans (h.at_ k hk)⟩
theorem trim_le (l p : List UInt8) : (Lib.trimPrefix l p).length ≤ l.length := by
  unfold Lib.trimPrefix
  split
  · simp
  · exact Nat.le_refl _
set_option maxHeartbeats 1000000 in
theorem split_any (s : ByteArray) (w : World) (hsh : w.ShapedOpen Tryz.prog) (hs : s.size < 4294967281) :
    Calls Tryz.prog 37 #[.string s] w (SplitPost w) := by
  have HS := Lib.hid hsh
  clear hsh
  go_enter Tryz.func37, Tryz.ntmps37
  go_wp2_with fail
  refine (Tryz.strings_CutPrefix _ _ _).mono ?_
  rintro e w' ⟨rfl, rfl⟩
  have hrs : (ByteArray.mk (Lib.trimPrefix s.data.toList (ByteArray.mk #[47]).data.toList).toArray).size < 4294967281 := by
    have := trim_le s.data.toList (ByteArray.mk #[47]).data.toList
    have h1 : s.data.toList.length = s.size := by rw [Array.length_toList]; rfl
    show (Lib.trimPrefix s.data.toList (ByteArray.mk #[47]).data.toList).toArray.size < _
    rw [List.size_toArray]
    omega
  generalize (ByteArray.mk (Lib.trimPrefix s.data.toList (ByteArray.mk #[47]).data.toList).toArray) = r at hrs ⊢
  generalize (Lib.hasPrefix s.data.toList (ByteArray.mk #[47]).data.toList) = b
  cases b with
  | false =>
    go_wp2
    go_ret2
    exact ⟨⟨_, _, rfl⟩, Below.refl _ _⟩
  | true =>
    by_cases h0 : r.toList = []
    · have h1 : r.toList.isEmpty = true := by rw [h0]; rfl
      go_wp2
      go_ret2
      exact ⟨⟨_, _, rfl⟩, Below.refl _ _⟩
    · have h1 : r.toList.isEmpty = false := by simpa using h0
      have hl := Lib.splitB_all ⟨#[47]⟩ (by decide) 0 _ r rfl
      have HR := Lib.hid hrs
      clear hrs
      go_wp2_with fail
      refine (Tryz.strings_Split_shaped r ⟨#[47]⟩ _ HS.out HR.out (by decide)).mono ?_
      rintro e w1 ⟨rfl, hw1⟩
      have hk : (Lib.countB r ⟨#[47]⟩) ≤ r.size := Lib.countB_le _ (by decide) _ _ (Nat.le_refl _)
      have hr2 := HR.out
      have hn : Lib.countB r ⟨#[47]⟩ + 1 ≤ 4294967281 := by omega
      clear hk hr2
      generalize Lib.splitB ⟨#[47]⟩ 0 (Lib.countB r ⟨#[47]⟩) r = l at hl hw1 ⊢
      generalize Lib.countB r ⟨#[47]⟩ + 1 = n at hl hn hw1 ⊢
      have hrel : SRel w' w'.heap.size n l w1 := by
        rw [hw1]
        refine ⟨(Below.refl _ _).alloc (Nat.le_refl _) _, hl, fun k hk => ?_⟩
        rw [cell_of_row _ _ k _ _ _ (heap_alloc_new w' _)]
        simp [hk]
      have HL := Lib.hid hrel
      obtain ⟨g, hg⟩ : ∃ g, g = w'.heap.size := ⟨_, rfl⟩
      rw [← hg] at HL ⊢
      clear hl hw1 hrel hg HR
      go_wp2_with fail
      go_loopw [25] (fun i wr => ∃ k : Nat, k ≤ n ∧ i = .int .i64 k ∧ SRel w' g n l wr) (fun i _ => n - (intOf i).toNat)
      case atStart => exact ⟨0, Nat.zero_le _, rfl, HL.out⟩
      case round =>
        obtain ⟨k, hk, rfl, hrel⟩ := hrel
        have HQ := Lib.hid hrel
        clear hrel HL
        by_cases hlt : k < n
        · have hc : wr.cell? ⟨g, k, none⟩ = some (.string (l[k]'(by rw [HQ.out.len]; exact hlt))) := HQ.out.at_ k (by rw [HQ.out.len]; exact hlt)
          generalize (l[k]'(by rw [HQ.out.len]; exact hlt)) = x at hc
          go_wp2_with fail
          refine (isName_ok x _).mono ?_
          rintro e w2 ⟨rfl, hb2⟩
          have HQ2 := Lib.hid (HQ.out.step hb2)
          clear hb2 hc HQ
          generalize nameOk x = bb
          cases bb with
          | false =>
            go_wp2
            go_ret2
            exact ⟨⟨_, _, rfl⟩, HQ2.out.below⟩
          | true =>
            go_wp2
            go_roundw
            case rel => exact ⟨k + 1, by omega, by go_num, HQ2.out⟩
            case measure => simp [intOf]; omega
        · go_wp2
          go_ret2
          exact ⟨⟨_, _, rfl⟩, HQ.out.below⟩
end Go.Proofs.YtecahdjopdfeeaaGreatDoor
