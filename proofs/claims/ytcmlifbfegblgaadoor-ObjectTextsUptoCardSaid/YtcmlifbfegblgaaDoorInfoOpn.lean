/- An info that comes in is opened; what it is made of is no longer than its bulk. -/
import Derived.Test.YtcmlifbfegblgaaDoorRows
import Derived.Test.YtcmlifbfegblgaaDoorLawOt
import Derived.ChangeArms
import Derived.DataReads
import Derived.Deep.Slices
import GoSem.ClaimJoined
namespace Go.Proofs.YtcmlifbfegblgaaDoor
set_option linter.unusedVariables false
set_option linter.unusedSimpArgs false
open Go.RowKit Go.Proofs.YtcmlifbfegblgaaDoorW.PrintWords
theorem bulk_mem {H : Type} : ∀ (l : List (DataW H)) (d : DataW H), d ∈ l → Rows.uptoBulk d ≤ Rows.uptoBulkAll l
  | [], d, h => by cases h
  | x :: r, d, h => by
    rw [Rows.uptoBulkAll]
    rcases List.mem_cons.1 h with rfl | h
    · omega
    · have := bulk_mem r d h; omega
theorem bulk_len {H : Type} : ∀ (l : List (DataW H)), (∀ d ∈ l, 1 ≤ Rows.uptoBulk d) → l.length ≤ Rows.uptoBulkAll l
  | [], _ => by simp
  | x :: r, h => by
    rw [Rows.uptoBulkAll, List.length_cons]
    have h1 := h x (by simp)
    have h2 := bulk_len r (fun d hd => h d (by simp [hd]))
    omega
theorem info_sizes : Tryd.prog.cellsOf 9 = 1 ∧ Tryd.prog.cellsOf 22 = 1 ∧ Tryd.prog.cellsOf 24 = 4 := by
  refine ⟨?_, ?_, ?_⟩ <;> kernel_rfl
set_option maxRecDepth 100000 in
theorem strs_open {H : Type} {enc : TypeId × Value → H} {w : World} {base : Nat} {spare : Nat → Bool} {held : Bool} {fuel : Nat} {cs : List Value} {y : DataW H × List MemPlace} (hy : DataW.trod enc Tryd.prog w base spare held fuel 22 cs = some y) (hb : Rows.uptoBulk y.1 ≤ 1048576) :
    ∃ (l : List ByteArray) (A : Option Addr) (c : Nat), cs = [.slice A l.length c] ∧ l.length ≤ c ∧ Kd.C Kd.string w A l.length l ∧ l.length ≤ 1048576 ∧ ∀ x ∈ l, x.size ≤ 1048576 := by
  have z1 := info_sizes.1
  rcases DataW.trod_slice Tryd.underlying22 hy with ⟨rfl, rfl⟩ | ⟨a, len, cap, elems, rest, n, rfl, rfl, rfl, hbb, hl, hm, hlen, hel, hsp, hns⟩
  · exact ⟨[], none, 0, rfl, Nat.le_refl _, ⟨rfl, by simp, fun h => by simp at h⟩, by simp, fun x hx => by cases hx⟩
  · have hb2 : Rows.uptoBulkAll (elems.map (·.1)) ≤ 1048576 := by
      have h := hb
      rw [Rows.uptoBulk] at h
      omega
    have each : ∀ i, i < len → ∃ x : ByteArray, w.cells? base (a.add (i * Tryd.prog.cellsOf 9)) (Tryd.prog.cellsOf 9) = some [.string x] ∧ (∃ d ∈ elems.map (·.1), d = .lit (.string x.data.toList)) := fun i hi => by
      have h1 := hel i hi
      have hi' : i < elems.length := by omega
      rw [List.getElem?_eq_getElem hi'] at h1
      obtain ⟨cs', hc, ht'⟩ := Option.bind_eq_some_iff.1 h1
      obtain ⟨x, rfl, he, _⟩ := DataW.trod_string Tryd.underlying9 ht'
      exact ⟨x, hc, _, List.mem_map.2 ⟨_, List.getElem_mem hi', rfl⟩, by rw [he]⟩
    have hone : ∀ d ∈ elems.map (·.1), 1 ≤ Rows.uptoBulk d := by
      intro d hd
      obtain ⟨x, hx, rfl⟩ := List.mem_map.1 hd
      obtain ⟨i, hi, rfl⟩ := List.mem_iff_getElem.1 hx
      have h1 := hel i (by omega)
      rw [List.getElem?_eq_getElem hi] at h1
      obtain ⟨cs', hc, ht'⟩ := Option.bind_eq_some_iff.1 h1
      obtain ⟨x, rfl, he, _⟩ := DataW.trod_string Tryd.underlying9 ht'
      rw [he, Rows.uptoBulk]
      omega
    have build : ∀ m, m ≤ len → ∃ xs : List ByteArray, xs.length = m ∧ ∀ (i : Nat) x, xs[i]? = some x → x.size ≤ 1048576 ∧ w.cells? base (a.add (i * Tryd.prog.cellsOf 9)) (Tryd.prog.cellsOf 9) = some [.string x] := by
      intro m
      induction m with
      | zero => exact fun _ => ⟨[], rfl, fun i x hx => by simp at hx⟩
      | succ m ih =>
        intro hm'
        obtain ⟨xs, hxl, hxs⟩ := ih (by omega)
        obtain ⟨x, hc, d, hd, hde⟩ := each m (by omega)
        refine ⟨xs ++ [x], by simp [hxl], fun i z hz => ?_⟩
        by_cases hi : i < xs.length
        · rw [List.getElem?_append_left hi] at hz
          exact hxs i z hz
        · rw [List.getElem?_append_right (by omega)] at hz
          have hi0 : i - xs.length = 0 := by
            by_cases h0 : i - xs.length = 0
            · exact h0
            · rw [List.getElem?_eq_none (by simp; omega)] at hz
              cases hz
          rw [hi0] at hz
          have hz' : x = z := by simpa using hz
          subst hz'
          obtain rfl : i = m := by omega
          refine ⟨?_, hc⟩
          have h1 := bulk_mem _ d hd
          rw [hde, Rows.uptoBulk, Array.length_toList] at h1
          show x.data.size ≤ 1048576
          omega
    obtain ⟨xs, hxl, hxs⟩ := build len (Nat.le_refl _)
    refine ⟨xs, some a, cap, by rw [hxl], by omega, ⟨rfl, by unfold maxLen at hm; omega, fun _ => ⟨a, rfl, fun j p hj => ?_⟩⟩, ?_, fun x hx => ?_⟩
    · obtain ⟨_, hc⟩ := hxs j p hj
      refine ⟨[.string p], rfl, rfl, fun i u hu => ?_⟩
      obtain ⟨_, hcl, hat⟩ := World.cells?_some hc
      have hi : i < Tryd.prog.cellsOf 9 := by
        have := (List.getElem?_eq_some_iff.1 hu).1
        rw [z1]
        simpa using this
      have := hat i hi
      rw [hu] at this
      have hs : Kd.string.sz = Tryd.prog.cellsOf 9 := z1.symm
      rw [hs, ← Go.Deep.add_add]
      exact this
    · have h1 := bulk_len _ hone
      rw [List.length_map] at h1
      omega
    · obtain ⟨i, hi⟩ := List.mem_iff_getElem?.1 hx
      exact (hxs i x hi).1
set_option maxRecDepth 100000 in
theorem info_open {H : Type} {enc : TypeId × Value → H} {w : World} {base : Nat} {spare : Nat → Bool} {held : Bool} {fuel : Nat} {cs : List Value} {y : DataW H × List MemPlace} (hy : DataW.trod enc Tryd.prog w base spare held fuel 24 cs = some y) (hb : Rows.uptoBulk y.1 ≤ 1048576) :
    ∃ (ip h d : ByteArray) (l : List ByteArray) (A : Option Addr) (c : Nat), cs = [.string ip, .string h, .string d, .slice A l.length c] ∧ l.length ≤ c ∧ Kd.C Kd.string w A l.length l ∧ l.length ≤ 1048576 ∧ (∀ x ∈ l, x.size ≤ 1048576) ∧ ip.size ≤ 1048576 ∧ h.size ≤ 1048576 ∧ d.size ≤ 1048576 := by
  obtain ⟨z1, z2, z3⟩ := info_sizes
  obtain ⟨xs, n, rfl, rfl, hl, hxl, hg⟩ := DataW.trod_struct Tryd.underlying24 hy
  rw [z3] at hl
  match xs, hxl with
  | [x0, x1, x2, x3], _ =>
    match cs, hl with
    | [v0, v1, v2, v3], _ =>
      have g0 := hg 0 _ rfl
      have g1 := hg 1 _ rfl
      have g2 := hg 2 _ rfl
      have g3 := hg 3 _ rfl
      simp only [z1, z2, List.drop_zero, List.take_succ_cons, List.take_zero, List.drop_succ_cons, List.getElem?_cons_zero, List.getElem?_cons_succ] at g0 g1 g2 g3
      obtain ⟨s0, e0, r0, _⟩ := DataW.trod_string Tryd.underlying9 g0
      obtain ⟨s1, e1, r1, _⟩ := DataW.trod_string Tryd.underlying9 g1
      obtain ⟨s2, e2, r2, _⟩ := DataW.trod_string Tryd.underlying9 g2
      have hbulk : Rows.uptoBulk x0.1 + (Rows.uptoBulk x1.1 + (Rows.uptoBulk x2.1 + (Rows.uptoBulk x3.1 + 0))) + 1 ≤ 1048576 := by
        have h := hb
        simp only [List.map_cons, List.map_nil, Rows.uptoBulk, Rows.uptoBulkAll] at h
        exact h
      obtain ⟨l, A, c, e3, hc, hC, hll, hls⟩ := strs_open g3 (by omega)
      rw [r0, r1, r2] at hbulk
      simp only [Rows.uptoBulk, Array.length_toList] at hbulk
      refine ⟨s0, s1, s2, l, A, c, ?_, hc, hC, hll, hls, ?_, ?_, ?_⟩
      · rw [(List.cons.inj e0).1, (List.cons.inj e1).1, (List.cons.inj e2).1, (List.cons.inj e3).1]
      · show s0.data.size ≤ _; omega
      · show s1.data.size ≤ _; omega
      · show s2.data.size ≤ _; omega
end Go.Proofs.YtcmlifbfegblgaaDoor
