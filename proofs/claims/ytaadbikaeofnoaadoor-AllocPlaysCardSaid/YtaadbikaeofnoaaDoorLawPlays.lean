/- The walk of AllocPlays: whatever the number and the acts are, the law returns true and writes nothing that was there. -/
import Derived.Test.YtaadbikaeofnoaaDoorAt
import Derived.Test.YtaadbikaeofnoaaDoorAv
import Derived.Test.YtaadbikaeofnoaaDoorPlaysIn
import Derived.Deep.RegionWith
import Derived.Deep.RegionHeld3
import Derived.Deep.Slices
namespace Go.Proofs.YtaadbikaeofnoaaDoor
open Go.RowKit
set_option linter.unusedVariables false

/-- the set in block b, the reference's in rb and g, the table, what was there -/
structure PRel (w : World) (b rb g : Nat) (n : Int) (S T : Nat) (wr : World) : Prop where
  grown : w.grownBy wr none
  at_ : SetAt wr b n S
  ref : RefAt wr rb g n.toNat T
  tab : TabW wr
  hb : w.heap.size ≤ b
  hrb : w.heap.size ≤ rb
  hg : w.heap.size ≤ g
  ne1 : b ≠ rb
  ne2 : b ≠ g
  tb : 0 < w.heap.size
theorem PRel.set {w wr w' : World} {b rb g : Nat} {n : Int} {S S' T : Nat} (h : PRel w b rb g n S T wr) (hg : wr.grownBy w' (some b)) (hs : SetAt w' b n S') : PRel w b rb g n S' T w' :=
  ⟨grown_own h.grown h.hb hg, hs, h.ref.grown hg (by simp; exact h.ne1.symm) (by simp; exact h.ne2.symm), h.tab.grown hg (by have := h.tb; have := h.hb; simp; omega), h.hb, h.hrb, h.hg, h.ne1, h.ne2, h.tb⟩
theorem PRel.rset {w wr w' : World} {b rb g : Nat} {n : Int} {S T T' : Nat} (h : PRel w b rb g n S T wr) (hg : wr.grownBy w' (some g)) (hs : RefAt w' rb g n.toNat T') : PRel w b rb g n S T' w' :=
  ⟨grown_own h.grown h.hg hg, h.at_.grown hg (by simp; exact h.ne2), hs, h.tab.grown hg (by have := h.tb; have := h.hg; simp; omega), h.hb, h.hrb, h.hg, h.ne1, h.ne2, h.tb⟩
theorem PRel.look {w wr w' : World} {b rb g : Nat} {n : Int} {S T : Nat} (h : PRel w b rb g n S T wr) (hg : wr.grownBy w' none) : PRel w b rb g n S T w' :=
  ⟨grown_trans h.grown hg, h.at_.grown hg (by simp), h.ref.grown hg (by simp) (by simp), h.tab.grown hg (by simp), h.hb, h.hrb, h.hg, h.ne1, h.ne2, h.tb⟩
/-- on with another set: one in a block that is new -/
theorem PRel.go {w wr : World} {b c rb g : Nat} {n : Int} {S S' T : Nat} (h : PRel w b rb g n S' T wr) (hc : SetAt wr c n S) (hw : w.heap.size ≤ c) (h1 : c ≠ rb) (h2 : c ≠ g) : PRel w c rb g n S T wr :=
  ⟨h.grown, hc, h.ref, h.tab, hw, h.hrb, h.hg, h1, h2, h.tb⟩
/-- the act of this round, in block A -/
structure ActAt (wr : World) (A : Nat) (K N T : Int) : Prop where
  row : wr.heap[A]? = some (.cells #[.int .i64 K, .int .i64 N, .int .i64 T] 50 (0, 0))
theorem ActAt.k {wr : World} {A : Nat} {K N T : Int} (h : ActAt wr A K N T) : wr.cell? ⟨A, 0, none⟩ = some (.int .i64 K) := by rw [cell_of_row wr A 0 _ _ _ h.row]; rfl
theorem ActAt.n {wr : World} {A : Nat} {K N T : Int} (h : ActAt wr A K N T) : wr.cell? ⟨A, 1, none⟩ = some (.int .i64 N) := by rw [cell_of_row wr A 1 _ _ _ h.row]; rfl
theorem ActAt.t {wr : World} {A : Nat} {K N T : Int} (h : ActAt wr A K N T) : wr.cell? ⟨A, 2, none⟩ = some (.int .i64 T) := by rw [cell_of_row wr A 2 _ _ _ h.row]; rfl
theorem ActAt.lt {wr : World} {A : Nat} {K N T : Int} (h : ActAt wr A K N T) : A < wr.heap.size := (Array.getElem?_eq_some_iff.1 h.row).1
theorem ActAt.grown {wr w' : World} {A : Nat} {K N T : Int} (h : ActAt wr A K N T) {r : Option Nat} (hg : wr.grownBy w' r) (hr : some A ≠ r) : ActAt w' A K N T := ⟨(hg.block A h.lt hr).trans h.row⟩
/-- all of it, the set wherever it lies -/
structure IRel (w : World) (A b rb g : Nat) (n K N T : Int) (S : Nat) (wr : World) : Prop where
  rel : PRel w b rb g n S S wr
  act : ActAt wr A K N T
  nb : A ≠ b
  ng : A ≠ g
  lrb : rb < A
  lg : g < A
  small : S < 2 ^ n.toNat
def IEx (w : World) (A rb g : Nat) (n K N T : Int) (v : Value) (wr : World) : Prop := ∃ b S, v = .pointer (some ⟨b, 0, none⟩) ∧ IRel w A b rb g n K N T S wr
def PEx (w : World) (rb g : Nat) (n : Int) (v : Value) (wr : World) : Prop := ∃ b S, v = .pointer (some ⟨b, 0, none⟩) ∧ PRel w b rb g n S S wr ∧ S < 2 ^ n.toNat
theorem IRel.look {w wr w' : World} {A b rb g : Nat} {n K N T : Int} {S : Nat} (h : IRel w A b rb g n K N T S wr) (hg : wr.grownBy w' none) : IRel w A b rb g n K N T S w' :=
  ⟨h.rel.look hg, h.act.grown hg (by simp), h.nb, h.ng, h.lrb, h.lg, h.small⟩
theorem wpAnyH_mono {P : Program} {md : Region.Mode} {ops : Array Oper} {Q : Exit → Act → World → Prop} {S1 S2 : World → Prop} (h : ∀ w, S2 w → S1 w) :
    ∀ (fuel : Nat) (listed : Array Bool) (a : Act) (w : World), wpAnyH P md ops Q S2 fuel listed a w → wpAnyH P md ops Q S1 fuel listed a w
  | 0, _, _, _, H => H
  | fuel + 1, _, _, _, H => ⟨H.1, fun i hi => wpOp_mono (fun a' w' H' => ⟨h _ H'.1, wpAnyH_mono h fuel _ a' w' H'.2⟩) (H.2 i hi)⟩
/-- both write the same -/
theorem IRel.both {w wr w1 w2 : World} {A b rb g : Nat} {n K N T : Int} {S S' : Nat} (h : IRel w A b rb g n K N T S wr) (h1 : wr.grownBy w1 (some b)) (s1 : SetAt w1 b n S') (h2 : w1.grownBy w2 (some g)) (s2 : RefAt w2 rb g n.toNat S') (hS : S' < 2 ^ n.toNat) : IRel w A b rb g n K N T S' w2 :=
  ⟨(h.rel.set h1 s1).rset h2 s2, (h.act.grown h1 (by simp; exact h.nb)).grown h2 (by simp; exact h.ng), h.nb, h.ng, h.lrb, h.lg, hS⟩
theorem small_up {S p k : Nat} (h : S < 2 ^ p) (hk : p ≤ 8 * k) : S < 2 ^ (8 * k) := Nat.lt_of_lt_of_le h (Nat.pow_le_pow_right (by omega) hk)
theorem small_up64 {S p k : Nat} (h : S < 2 ^ p) (hk : p ≤ 64 * k) : S < 2 ^ (64 * k) := Nat.lt_of_lt_of_le h (Nat.pow_le_pow_right (by omega) hk)
theorem full_or (S n : Nat) : (∀ j, j < n → S.testBit j = true) ∨ ∃ k, k < n ∧ S.testBit k = false ∧ ∀ j, j < k → S.testBit j = true := by
  induction n with
  | zero => exact .inl fun j hj => by omega
  | succ n ih =>
    rcases ih with h | ⟨k, h1, h2, h3⟩
    · by_cases hb : S.testBit n = true
      · exact .inl fun j hj => by
          by_cases e : j = n
          · subst e; exact hb
          · exact h j (by omega)
      · exact .inr ⟨n, by omega, by simpa using hb, h⟩
    · exact .inr ⟨k, by omega, h2, h3⟩
theorem toS_bytl {S : Nat} {p : Nat} (hp : p ≤ 8 * 256) (hS : S < 2 ^ p) : toS (bytl S) = S := by
  have hr : ∀ x ∈ bytl S, 0 ≤ x ∧ x ≤ 255 := fun x hx => by
    obtain ⟨k, _, rfl⟩ := List.mem_map.1 hx
    have := dg_lt 8 S k
    omega
  have hlt := toS_lt (bytl S) hr
  rw [bytl_length] at hlt
  apply Nat.eq_of_testBit_eq
  intro i
  by_cases hi : i < 8 * 256
  · have h1 := toS_digit (bytl S) hr (i / 8) (by rw [bytl_length]; omega)
    rw [bytl_getD S (i / 8) (by omega)] at h1
    have h2 : dg 8 (toS (bytl S)) (i / 8) = dg 8 S (i / 8) := by omega
    have h3 := dg_testBit 8 (toS (bytl S)) (i / 8) (i % 8)
    rw [h2, dg_testBit, show 8 * (i / 8) + i % 8 = i by omega] at h3
    simpa [show i % 8 < 8 by omega] using h3.symm
  · rw [hi_bit hlt (by omega), hi_bit hS (by omega)]
theorem BytAt.bytes {w : World} {c S : Nat} (h : BytAt w c S) : Bytes256 w c 0 (bytl S) := by
  refine ⟨bytl_length S, fun x hx => ?_, fun i hi => ?_⟩
  · obtain ⟨k, _, rfl⟩ := List.mem_map.1 hx
    have := dg_lt 8 S k
    omega
  · rw [bytl_getD S i hi, Nat.zero_add]
    exact h.cell hi
theorem mask63 (x : Int) : 0 ≤ bits BinOp.and IntKind.i64 x 63 ∧ bits BinOp.and IntKind.i64 x 63 ≤ 63 := by
  have h : (BitVec.ofInt 64 x &&& BitVec.ofInt 64 63).toNat ≤ 63 := by
    rw [BitVec.toNat_and]
    exact Nat.le_trans Nat.and_le_right (by decide)
  have e : bits BinOp.and IntKind.i64 x 63 = IntKind.i64.wrap ((BitVec.ofInt 64 x &&& BitVec.ofInt 64 63).toNat : Int) := rfl
  rw [e]
  generalize (BitVec.ofInt 64 x &&& BitVec.ofInt 64 63).toNat = a at h
  rw [IntKind.wrap_i64]
  omega
set_option maxHeartbeats 400000 in
theorem names_ok (w : World) : Calls Tryd.prog 16 #[] w fun e w' => e = .returned (.bool true) ∧ w = w' := by
  go_enter Tryd.func16, Tryd.ntmps16
  go_wp2
  go_ret
  exact ⟨rfl, rfl⟩
set_option maxHeartbeats 400000 in
set_option maxRecDepth 100000 in
theorem plays_bad (w : World) (n : Int) (h : n < 1 ∨ 2048 < n) (a : Option Addr) (len cap : Nat) :
    Calls Tryd.prog 5 #[.int .i64 n, .slice a len cap] w fun e w' => e = .returned (.bool true) ∧ w.grownBy w' none := by
  have hl : (0 : Int) ≤ len := by omega
  go_enter Tryd.func5, Tryd.ntmps5
  go_wp2_with (first
    | (go_at_call 6; refine (new_bad _ _ h).mono ?_; rintro e w' ⟨rfl, rfl⟩)
    | (go_at_call 15; refine (rnew_bad _ _ h).mono ?_; rintro e w' ⟨rfl, rfl⟩)
    | (go_at_call 16; refine (names_ok _).mono ?_; rintro e w' ⟨rfl, rfl⟩))
  refine wp_loop_once ?_
  by_cases hlt : (0 : Int) < len
  · go_wp2_with fail
    go_ret
    exact ⟨rfl, grown_refl _ _⟩
  · go_wp2_with fail
    go_ret
    exact ⟨rfl, grown_refl _ _⟩

set_option maxHeartbeats 40000000 in
set_option maxRecDepth 100000 in
theorem plays_ok (w : World) (hT : TabW w) (n : Int) (hn1 : 1 ≤ n) (hn2 : n ≤ 2048) (a : Option Addr) (len cap : Nat) (ha : IsActs w a len) :
    Calls Tryd.prog 5 #[.int .i64 n, .slice a len cap] w fun e w' => e = .returned (.bool true) ∧ w.grownBy w' none := by
  have HT := Lib.hid hT
  have HA := Lib.hid ha
  have hlen := ha.1
  clear hT ha
  go_enter Tryd.func5, Tryd.ntmps5
  go_wp2_with fail
  refine (new_ok _ _ hn1 hn2).mono ?_
  rintro e w1 ⟨rfl, hg1, hs1, hlt1⟩
  go_wp2_with fail
  refine (rnew_ok _ _ hn1 hn2).mono ?_
  rintro e w2 ⟨rfl, hg2, hr2⟩
  obtain ⟨b0, hb0⟩ : ∃ b0, b0 = w.heap.size := ⟨_, rfl⟩
  obtain ⟨g, hge⟩ : ∃ g, g = w1.heap.size := ⟨_, rfl⟩
  have hR : PRel w b0 (g + 1) g n 0 0 w2 := ⟨grown_trans hg1 hg2, by rw [hb0]; exact hs1.grown hg2 (by simp), by rw [hge]; exact hr2, (HT.out.grown hg1 (by simp)).grown hg2 (by simp), by omega, by omega, by omega, by omega, by omega, HT.out.lt⟩
  rw [← hb0, ← hge]
  have HR := Lib.hid hR
  clear hg1 hs1 hlt1 hg2 hr2 hR hge hb0
  go_wp2_with fail
  refine (names_ok _).mono ?_
  rintro e w' ⟨rfl, rfl⟩
  go_wp2_with fail
  go_loopw [5, 9, 10, 11, 12, 13, 14, 15, 16, 17, 18, 19, 20, 21, 22] (fun v i _ _ _ _ _ _ _ _ _ _ _ _ _ wr => ∃ k : Int, 0 ≤ k ∧ k ≤ 300 ∧ i = .int .i64 k ∧ PEx w (g + 1) g n v wr) (fun _ i _ _ _ _ _ _ _ _ _ _ _ _ _ _ => (300 - intOf i).toNat)
  case atStart => exact ⟨0, by omega, by omega, rfl, b0, 0, rfl, HR.out, Nat.two_pow_pos _⟩
  case round =>
    obtain ⟨i, hi0, hi1, rfl, b1, S1, rfl, hr, hS⟩ := hrel
    clear HR
    by_cases hlt : i < len ∧ i < 300
    · obtain ⟨hlt, hlt2⟩ := hlt
      rcases HA.out.2 with hl0 | ⟨ab, off, rfl, hacts⟩
      · omega
      obtain ⟨K, N, T, hK, hN, hTm⟩ := hacts i.toNat (by omega)
      have hcK : wr.cell? ⟨ab, off + i.toNat * 3, none⟩ = some (.int .i64 K) := hr.grown.cell hK (by simp)
      have hcN : wr.cell? ⟨ab, off + i.toNat * 3 + 1, none⟩ = some (.int .i64 N) := hr.grown.cell hN (by simp)
      have hcT : wr.cell? ⟨ab, off + i.toNat * 3 + 2, none⟩ = some (.int .i64 T) := hr.grown.cell hTm (by simp)
      have HR := Lib.hid hr
      have HS := Lib.hid hS
      clear hr hacts hK hN hTm hS
      go_wp2_with fail
      obtain ⟨A, hAe⟩ : ∃ A, A = wr.heap.size := ⟨_, rfl⟩
      generalize hW : wr.alloc (.cells #[.int .i64 K, .int .i64 N, .int .i64 T] 50) = W
      have hI : IRel w A b1 (g + 1) g n K N T S1 W := by
        subst hW
        have h1 := HR.out.at_.lt
        have h2 := HR.out.ref.ltb
        have h3 := HR.out.ref.ltg
        exact ⟨HR.out.look (grown_alloc _ _), ⟨by rw [hAe]; exact heap_alloc_new _ _⟩, by omega, by omega, by omega, by omega, HS.out⟩
      have HI := Lib.hid (show IEx w A (g + 1) g n K N T (.pointer (some ⟨b1, 0, none⟩)) W from ⟨b1, S1, rfl, hI⟩)
      rw [← hAe]
      clear hW hI HR HS hAe hcK hcN hcT
      obtain ⟨m0, m1⟩ := mask63 T
      generalize hm : bits BinOp.and IntKind.i64 T 63 = m at m0 m1
      have HM := Lib.hid hm
      clear hm
      go_loopw [5, 11, 12, 13, 14, 15, 16, 17, 18] (fun v j _ _ _ _ _ _ _ wr => ∃ k : Int, 0 ≤ k ∧ k ≤ m + 1 ∧ j = .int .i64 k ∧ IEx w A (g + 1) g n K N T v wr) (fun _ j _ _ _ _ _ _ _ _ => (m + 1 - intOf j).toNat)
      case atStart => exact ⟨0, by omega, by omega, rfl, HI.out⟩
      case round =>
        obtain ⟨j, hj0, hj1, rfl, b, S, rfl, hi⟩ := hrel
        clear HI
        have HI := Lib.hid hi
        have hak := hi.act.k
        have han := hi.act.n
        have hat := hi.act.t
        clear hi
        have hmm := HM.out
        by_cases hjm : j ≤ m
        · by_cases k0 : K = 0
          · subst k0
            go_wp2_with fail
            clear hmm
            rcases full_or S n.toNat with hall | ⟨k, hk, hkb, hkl⟩
            · as_aux_lemma =>
              have HL := Lib.hid hall
              clear hall
              refine (take_full b n S _ HI.out.rel.at_ hn1 hn2 HI.out.rel.tab HL.out).mono ?_
              rintro e w5 ⟨rfl, rfl⟩
              go_wp2_with fail
              refine (rtake_full _ _ _ _ _ HI.out.rel.ref (by omega) HL.out).mono ?_
              rintro e w5 ⟨rfl, rfl⟩
              go_wp2_with fail
              exact ⟨⟨j + 1, by omega, by omega, rfl, _, _, rfl, HI.out⟩, by simp [intOf]; omega⟩

            · as_aux_lemma =>
              have HL := Lib.hid hkl
              have HB := Lib.hid hkb
              clear hkl hkb
              refine (take_ok b n S _ HI.out.rel.at_ hn1 hn2 HI.out.rel.tab k (by omega) HB.out HL.out).mono ?_
              rintro e w5 ⟨rfl, hg5, hs5⟩
              have H5 := Lib.hid (HI.out.rel.set hg5 hs5)
              have HG5 := Lib.hid hg5
              have HS5 := Lib.hid hs5
              clear hg5 hs5
              go_wp2_with fail
              refine (rtake_ok _ _ _ _ _ H5.out.ref (by omega) k hk HB.out HL.out).mono ?_
              rintro e w6 ⟨rfl, hg6, hs6⟩
              have HX := Lib.hid (HI.out.both HG5.out HS5.out hg6 hs6 (or_lt HI.out.small hk))
              clear hg6 hs6
              go_wp2_with fail
              exact ⟨⟨j + 1, by omega, by omega, rfl, _, _, rfl, HX.out⟩, by simp [intOf]; omega⟩

          by_cases k1 : K = 1
          · subst k1
            go_wp2_with fail
            clear hmm
            have hid := Lib.hid (HI.out.look (grown_drew (grown_refl wr none)))
            by_cases hN : 0 ≤ N ∧ N < n
            · obtain ⟨hN0, hN1⟩ := hN
              by_cases hbit : S.testBit N.toNat = true
              · as_aux_lemma =>
                have HB := Lib.hid hbit
                clear hbit
                go_region_with (first
                  | (go_at_call 7; refine (put_there b n N S _ hid.out.rel.at_ hn2 hN0 hN1 HB.out).mono ?_; rintro e w5 ⟨rfl, rfl⟩)
                  | (go_at_call 18; refine (rset_there _ _ _ _ N _ hid.out.rel.ref (by omega) hN0 (by omega) HB.out).mono ?_; rintro e w6 ⟨rfl, rfl⟩))
                all_goals
                  go_wp2_with fail
                  exact ⟨⟨j + 1, by omega, by omega, rfl, _, _, rfl, hid.out⟩, by simp [intOf]; omega⟩

              · as_aux_lemma =>
                have hbit' : S.testBit N.toNat = false := by simpa using hbit
                have HB := Lib.hid hbit'
                clear hbit hbit'
                go_region_with (first
                  | (go_at_call 7; refine (put_ok b n N S _ hid.out.rel.at_ hn2 hN0 hN1 HB.out).mono ?_; rintro e w5 ⟨rfl, hg5, hs5⟩; have han5 : w5.cell? ⟨A, 1, none⟩ = some (.int .i64 N) := hg5.cell (a := ⟨A, 1, none⟩) hid.out.act.n (by simp; exact hid.out.nb))
                  | (go_at_call 18; refine (rset_put _ _ _ _ N _ (hid.out.rel.set hg5 hs5).ref (by omega) hN0 (by omega) HB.out).mono ?_; rintro e w6 ⟨rfl, hg6, hs6⟩))
                all_goals
                  have HX := Lib.hid (hid.out.both hg5 hs5 hg6 hs6 (or_lt hid.out.small (by omega)))
                  clear hg5 hs5 hg6 hs6
                  go_wp2_with fail
                  exact ⟨⟨j + 1, by omega, by omega, rfl, _, _, rfl, HX.out⟩, by simp [intOf]; omega⟩

            · as_aux_lemma =>
              have hbad : N < 0 ∨ n ≤ N := by omega
              have hbad' : N < 0 ∨ (n.toNat : Int) ≤ N := by omega
              go_region_with (first
                | (go_at_call 7; refine (put_arg b n N S _ hid.out.rel.at_ hn1 hbad).mono ?_; rintro e w5 ⟨rfl, rfl⟩)
                | (go_at_call 18; refine (rset_arg _ _ _ _ N true _ hid.out.rel.ref (by omega) hbad').mono ?_; rintro e w6 ⟨rfl, rfl⟩))
              all_goals
                go_wp2_with fail
                exact ⟨⟨j + 1, by omega, by omega, rfl, _, _, rfl, hid.out⟩, by simp [intOf]; omega⟩

          by_cases k2 : K = 2
          · subst k2
            go_wp2_with fail
            clear hmm
            have hid := Lib.hid (HI.out.look (grown_drew (grown_refl wr none)))
            by_cases hN : 0 ≤ N ∧ N < n
            · obtain ⟨hN0, hN1⟩ := hN
              by_cases hbit : S.testBit N.toNat = false
              · as_aux_lemma =>
                have HB := Lib.hid hbit
                clear hbit
                go_region_with (first
                  | (go_at_call 10; refine (drop_none b n N S _ hid.out.rel.at_ hn2 hN0 hN1 HB.out).mono ?_; rintro e w5 ⟨rfl, rfl⟩)
                  | (go_at_call 18; refine (rset_none _ _ _ _ N _ hid.out.rel.ref (by omega) hN0 (by omega) HB.out).mono ?_; rintro e w6 ⟨rfl, rfl⟩))
                all_goals
                  go_wp2_with fail
                  exact ⟨⟨j + 1, by omega, by omega, rfl, _, _, rfl, hid.out⟩, by simp [intOf]; omega⟩

              · as_aux_lemma =>
                have hbit' : S.testBit N.toNat = true := by simpa using hbit
                have HB := Lib.hid hbit'
                clear hbit hbit'
                go_region_with (first
                  | (go_at_call 10; refine (drop_ok b n N S _ hid.out.rel.at_ hn2 hN0 hN1 HB.out).mono ?_; rintro e w5 ⟨rfl, hg5, hs5⟩; have han5 : w5.cell? ⟨A, 1, none⟩ = some (.int .i64 N) := hg5.cell (a := ⟨A, 1, none⟩) hid.out.act.n (by simp; exact hid.out.nb))
                  | (go_at_call 18; refine (rset_drop _ _ _ _ N _ (hid.out.rel.set hg5 hs5).ref (by omega) hN0 (by omega) HB.out).mono ?_; rintro e w6 ⟨rfl, hg6, hs6⟩))
                all_goals
                  have HX := Lib.hid (hid.out.both hg5 hs5 hg6 hs6 (xor_lt hid.out.small (by omega)))
                  clear hg5 hs5 hg6 hs6
                  go_wp2_with fail
                  exact ⟨⟨j + 1, by omega, by omega, rfl, _, _, rfl, HX.out⟩, by simp [intOf]; omega⟩

            · as_aux_lemma =>
              have hbad : N < 0 ∨ n ≤ N := by omega
              have hbad' : N < 0 ∨ (n.toNat : Int) ≤ N := by omega
              go_region_with (first
                | (go_at_call 10; refine (drop_arg b n N S _ hid.out.rel.at_ hn1 hbad).mono ?_; rintro e w5 ⟨rfl, rfl⟩)
                | (go_at_call 18; refine (rset_arg _ _ _ _ N false _ hid.out.rel.ref (by omega) hbad').mono ?_; rintro e w6 ⟨rfl, rfl⟩))
              all_goals
                go_wp2_with fail
                exact ⟨⟨j + 1, by omega, by omega, rfl, _, _, rfl, hid.out⟩, by simp [intOf]; omega⟩

          by_cases k3 : K = 3
          · subst k3
            go_wp2_with fail
            clear hmm
            refine (clone_ok b n S _ HI.out.rel.at_ hn1).mono ?_
            rintro e w5 ⟨rfl, hg5, hs5⟩
            have H5 := Lib.hid (HI.out.look hg5)
            obtain ⟨c, hce⟩ : ∃ c, c = wr.heap.size := ⟨_, rfl⟩
            have hcA : A < c := by have := HI.out.act.lt; omega
            have hcb : b < c := by have := HI.out.rel.at_.lt; omega
            have hcw : w.heap.size ≤ c := by have := HI.out.rel.hb; omega
            rw [← hce] at hs5 ⊢
            have HC5 := Lib.hid hs5
            clear hg5 hs5 hce
            go_wp2_with fail
            refine (same_yes c b n S _ HC5.out H5.out.rel.at_ hn1 hn2 (small_up64 (k := 32) H5.out.small (by omega))).mono ?_
            rintro e w6 ⟨rfl, hg6⟩
            have H6 := Lib.hid (H5.out.look hg6)
            have HC6 := Lib.hid (HC5.out.grown hg6 (by simp))
            clear hg6 H5 HC5
            go_wp2_with fail
            have HTk : Hid (∀ w7, (∃ S', w6.grownBy w7 (some b) ∧ SetAt w7 b n S') → IRel w A c (g + 1) g n 3 N T S w7) := Lib.hid fun w7 ⟨S', hg7, hs7⟩ =>
              ⟨(H6.out.rel.set hg7 hs7).go (HC6.out.grown hg7 (by simp; omega)) hcw (by have := H6.out.lrb; omega) (by have := H6.out.lg; omega), H6.out.act.grown hg7 (by simp; exact H6.out.nb), by omega, H6.out.ng, H6.out.lrb, H6.out.lg, H6.out.small⟩
            rcases full_or S n.toNat with hall | ⟨k, hk, hkb, hkl⟩
            · as_aux_lemma =>
              have HL := Lib.hid hall
              clear hall
              refine (take_full b n S _ H6.out.rel.at_ hn1 hn2 H6.out.rel.tab HL.out).mono ?_
              rintro e w7 ⟨rfl, rfl⟩
              have HX := Lib.hid (HTk.out w6 ⟨S, grown_refl _ _, H6.out.rel.at_⟩)
              clear HTk
              go_wp2_with fail
              exact ⟨⟨j + 1, by omega, by omega, rfl, _, _, rfl, HX.out⟩, by simp [intOf]; omega⟩

            · as_aux_lemma =>
              have HL := Lib.hid hkl
              have HB := Lib.hid hkb
              clear hkl hkb
              refine (take_ok b n S _ H6.out.rel.at_ hn1 hn2 H6.out.rel.tab k (by omega) HB.out HL.out).mono ?_
              rintro e w7 ⟨rfl, hg7, hs7⟩
              have HX := Lib.hid (HTk.out w7 ⟨_, hg7, hs7⟩)
              clear hg7 hs7 HTk
              go_wp2_with fail
              exact ⟨⟨j + 1, by omega, by omega, rfl, _, _, rfl, HX.out⟩, by simp [intOf]; omega⟩

          by_cases k4 : K = 4
          · as_aux_lemma =>
            subst k4
            go_wp2_with fail
            clear hmm
            refine (bytes_ok b n S _ HI.out.rel.at_ hn1 (small_up (k := 256) HI.out.small (by omega))).mono ?_
            rintro e w5 ⟨rfl, hg5, hb5⟩
            have H5 := Lib.hid (HI.out.look hg5)
            have HB5 := Lib.hid hb5.bytes
            obtain ⟨c, hce⟩ : ∃ c, c = wr.heap.size := ⟨_, rfl⟩
            have hsz := hg5.size
            rw [← hce] at HB5 ⊢ hsz
            clear hg5 hb5 hce
            go_wp2_with fail
            refine (read_ok c 0 256 n (bytl S) _ hn1 hn2 HB5.out (by rw [toS_bytl (p := n.toNat) (by omega) H5.out.small]; exact H5.out.small)).mono ?_
            rintro e w6 ⟨rfl, hg6, hs6⟩
            rw [toS_bytl (p := n.toNat) (by omega) H5.out.small] at hs6
            have H6 := Lib.hid (H5.out.look hg6)
            obtain ⟨d, hde⟩ : ∃ d, d = w5.heap.size := ⟨_, rfl⟩
            have hdA : A < d := by have := H5.out.act.lt; omega
            have hdb : b < d := by have := H5.out.rel.at_.lt; omega
            have hdw : w.heap.size ≤ d := by have := H5.out.rel.hb; omega
            rw [← hde] at hs6 ⊢
            have HD6 := Lib.hid hs6
            clear hg6 hs6 hde
            go_wp2_with fail
            refine (same_yes d b n S _ HD6.out H6.out.rel.at_ hn1 hn2 (small_up64 (k := 32) H6.out.small (by omega))).mono ?_
            rintro e w7 ⟨rfl, hg7⟩
            have HX := Lib.hid (show IRel w A d (g + 1) g n 4 N T S w7 from
              ⟨(H6.out.rel.look hg7).go (HD6.out.grown hg7 (by simp)) hdw (by have := H6.out.lrb; omega) (by have := H6.out.lg; omega), H6.out.act.grown hg7 (by simp), by omega, H6.out.ng, H6.out.lrb, H6.out.lg, H6.out.small⟩)
            clear hg7
            go_wp2_with fail
            exact ⟨⟨j + 1, by omega, by omega, rfl, _, _, rfl, HX.out⟩, by simp [intOf]; omega⟩

          · as_aux_lemma =>
            have e0 : (K == 0) = false := by simp [k0]
            have e1 : (K == 1) = false := by simp [k1]
            have e2 : (K == 2) = false := by simp [k2]
            have e3 : (K == 3) = false := by simp [k3]
            have e4 : (K == 4) = false := by simp [k4]
            clear k0 k1 k2 k3 k4
            go_wp2_with fail
            exact ⟨⟨j + 1, by omega, by omega, rfl, _, _, rfl, HI.out⟩, by simp [intOf]; omega⟩

        · go_wp2_with fail
          clear hmm hak hat
          refine (count_ok b n S _ HI.out.rel.at_ hn1 hn2).mono ?_
          rintro e w5 ⟨rfl, hg5⟩
          have H5 := Lib.hid (HI.out.look hg5)
          have han5 := H5.out.act.n
          have hcnt : (cnt S (64 * 32) : Int) = cnt S n.toNat := by
            have := cnt_high H5.out.small (64 * 32 - n.toNat)
            rw [show n.toNat + (64 * 32 - n.toNat) = 64 * 32 by omega] at this
            rw [this]
          rw [hcnt]
          clear hg5 hcnt HI han
          obtain ⟨u, hu⟩ : ∃ u : Int, u = cnt S n.toNat := ⟨_, rfl⟩
          have u0 : 0 ≤ u := by omega
          have u1 : u ≤ n := by have := cnt_le S n.toNat; omega
          rw [← hu]
          have HU := Lib.hid hu
          clear hu
          go_wp2_with fail
          have hrc := H5.out.rel.ref.cell0
          go_loop [21, 22] (fun v q => ∃ k : Int, 0 ≤ k ∧ k ≤ n ∧ q = .int .i64 k ∧ v = .int .i64 (cnt S k.toNat)) (fun _ q => (n - intOf q).toNat)
          case atStart => exact ⟨0, by omega, by omega, rfl, rfl⟩
          case round =>
            obtain ⟨k, kq0, kq1, rfl, rfl⟩ := hrel
            have c0 : (0 : Int) ≤ cnt S k.toNat := by omega
            have c1 : (cnt S k.toNat : Int) ≤ 2048 := by have := cnt_le S k.toNat; omega
            by_cases hkn : k < n
            · have hcl := H5.out.rel.ref.cell (k := k.toNat) (by omega)
              have hst : (cnt S (k + 1).toNat : Int) = cnt S k.toNat + (S.testBit k.toNat).toNat := by
                rw [show (k + 1).toNat = k.toNat + 1 by omega]
                simp [cnt]
              by_cases hbit : S.testBit k.toNat = true
              · as_aux_lemma =>
                rw [hbit] at hcl hst
                have HST := Lib.hid hst
                clear hst hbit
                generalize (cnt S k.toNat : Int) = x at c0 c1 HST
                go_wp2_with fail
                exact ⟨⟨k + 1, by omega, by omega, rfl, by rw [HST.out]; rfl⟩, by simp [intOf]; omega⟩
              · as_aux_lemma =>
                have hbit' : S.testBit k.toNat = false := by simpa using hbit
                rw [hbit'] at hcl hst
                have HST := Lib.hid hst
                clear hst hbit hbit'
                generalize (cnt S k.toNat : Int) = x at c0 c1 HST
                go_wp2_with fail
                exact ⟨⟨k + 1, by omega, by omega, rfl, by rw [HST.out]; simp⟩, by simp [intOf]; omega⟩
            · obtain rfl : k = n := by omega
              rw [← HU.out]
              clear c0 c1
              have HSB := Lib.hid (small_up H5.out.small (k := 256) (by omega))
              obtain ⟨Tx, hTx⟩ : ∃ Tx, Tx = strOfNums (bytl S) := ⟨_, rfl⟩
              have HT1 : Hid (∀ W c cap, BytAt W c S → (convert 40 9 (.slice (some ⟨c, 0, none⟩) 256 cap)).run Tryd.prog W = .ok (.string Tx) W) := Lib.hid fun W c cap hB => by rw [hTx]; exact hB.text cap
              clear hTx
              have HD := Lib.hid (H5.out.look (grown_drew (grown_refl w5 none)))
              go_wp2_with fail
              have hu1 : (u != u) = false := by simp
              have hu2 : (k - u != k - u) = false := by simp
              have hw : IntKind.i64.wrap (k - u) = k - u := by rw [IntKind.wrap_i64]; omega
              by_cases hN0 : 0 ≤ N
              · by_cases hN1 : N < k
                · have HH0 := has_ok b k N S w5.drew HD.out.rel.at_ hn2 hN0 hN1
                  have hcl : w5.cell? ⟨g, N.toNat, none⟩ = some (.bool (S.testBit N.toNat)) := H5.out.rel.ref.cell (k := N.toNat) (by omega)
                  have hNm : N < max k 0 := by omega
                  by_cases hbit : S.testBit N.toNat = true
                  · as_aux_lemma =>
                    rw [hbit] at HH0 hcl
                    have HH := Lib.hid HH0
                    have HK : Hid (∀ W, w5.drew.grownBy W none → W.cell? ⟨A, 1, none⟩ = some (.int .i64 N) ∧ W.cell? ⟨g + 1, 0, none⟩ = some (.slice (some ⟨g, 0, none⟩) k.toNat k.toNat) ∧ W.cell? ⟨g, N.toNat, none⟩ = some (.bool true)) := Lib.hid fun W hW => by
                      have H := HD.out.look hW
                      refine ⟨H.act.n, H.rel.ref.cell0, ?_⟩
                      have := H.rel.ref.cell (k := N.toNat) (by omega)
                      rw [hbit] at this
                      exact this
                    have hS5 := HK.out w5.drew (grown_refl _ none)
                    clear HH0 hbit
                    refine wp_region_noPanic ?_
                    refine wp_region_held_drew (S := fun W => W.cell? ⟨A, 1, none⟩ = some (.int .i64 N) ∧ W.cell? ⟨g + 1, 0, none⟩ = some (.slice (some ⟨g, 0, none⟩) k.toNat k.toNat) ∧ W.cell? ⟨g, N.toNat, none⟩ = some (.bool true)) (by kernel_rfl) hS5 (fun hHeld => ?_)
                    refine wpAnyH_take (i := 0) (oi := ?oia0) (v := ?va0) ?hia0 (by kernel_rfl) (by kernel_rfl) (by kernel_rfl) (fun _ _ _ h => h) (Or.inl ⟨?hwa0, ?hya0⟩) hHeld ?resta0
                    case hia0 => simp only [List.getElem?_toArray, List.getElem?_cons_zero]; exact rfl
                    case hwa0 => rfl
                    case hya0 => (intro w hSw; (try dsimp only at hSw); go_simp) <;> with_reducible rfl
                    simp only [Act.put, List.setIfInBounds_toArray, List.set_cons_zero, List.set_cons_succ]
                    refine wpAnyH_take (i := 1) (oi := ?oia1) (v := ?va1) ?hia1 (by kernel_rfl) (by kernel_rfl) (by kernel_rfl) (fun _ _ _ h => h) (Or.inl ⟨?hwa1, ?hya1⟩) hHeld ?resta1
                    case hia1 => simp only [List.getElem?_toArray, List.getElem?_cons_succ, List.getElem?_cons_zero]; exact rfl
                    case hwa1 => rfl
                    case hya1 => (intro w hSw; (try dsimp only at hSw); go_simp) <;> with_reducible rfl
                    simp only [Act.put, List.setIfInBounds_toArray, List.set_cons_zero, List.set_cons_succ]
                    refine wpAnyH_take (i := 2) (oi := ?oia2) (v := ?va2) ?hia2 (by kernel_rfl) (by kernel_rfl) (by kernel_rfl) (fun _ _ _ h => h) (Or.inl ⟨?hwa2, ?hya2⟩) hHeld ?resta2
                    case hia2 => simp only [List.getElem?_toArray, List.getElem?_cons_succ, List.getElem?_cons_zero]; exact rfl
                    case hwa2 => rfl
                    case hya2 => (intro w hSw; (try dsimp only at hSw); go_simp) <;> with_reducible rfl
                    simp only [Act.put, List.setIfInBounds_toArray, List.set_cons_zero, List.set_cons_succ]
                    refine wpAnyH_take (i := 3) (oi := ?oia3) (v := ?va3) ?hia3 (by kernel_rfl) (by kernel_rfl) (by kernel_rfl) (fun _ _ _ h => h) (Or.inl ⟨?hwa3, ?hya3⟩) hHeld ?resta3
                    case hia3 => simp only [List.getElem?_toArray, List.getElem?_cons_succ, List.getElem?_cons_zero]; exact rfl
                    case hwa3 => rfl
                    case hya3 => (intro w hSw; (try dsimp only at hSw); go_simp) <;> with_reducible rfl
                    simp only [Act.put, List.setIfInBounds_toArray, List.set_cons_zero, List.set_cons_succ]
                    refine wpAnyH_take (i := 4) (oi := ?oia4) (v := ?va4) ?hia4 (by kernel_rfl) (by kernel_rfl) (by kernel_rfl) (fun _ _ _ h => h) (Or.inl ⟨?hwa4, ?hya4⟩) hHeld ?resta4
                    case hia4 => simp only [List.getElem?_toArray, List.getElem?_cons_succ, List.getElem?_cons_zero]; exact rfl
                    case hwa4 => rfl
                    case hya4 => (intro w hSw; (try dsimp only at hSw); go_simp) <;> with_reducible rfl
                    simp only [Act.put, List.setIfInBounds_toArray, List.set_cons_zero, List.set_cons_succ]
                    refine wpAnyH_take (i := 5) (oi := ?oia5) (v := ?va5) ?hia5 (by kernel_rfl) (by kernel_rfl) (by kernel_rfl) (fun _ _ _ h => h) (Or.inl ⟨?hwa5, ?hya5⟩) hHeld ?resta5
                    case hia5 => simp only [List.getElem?_toArray, List.getElem?_cons_succ, List.getElem?_cons_zero]; exact rfl
                    case hwa5 => rfl
                    case hya5 => (intro w hSw; (try dsimp only at hSw); go_simp) <;> with_reducible rfl
                    simp only [Act.put, List.setIfInBounds_toArray, List.set_cons_zero, List.set_cons_succ]
                    refine wpAnyH_take (i := 6) (oi := ?oia6) (v := ?va6) ?hia6 (by kernel_rfl) (by kernel_rfl) (by kernel_rfl) (fun _ _ _ h => h) (Or.inl ⟨?hwa6, ?hya6⟩) hHeld ?resta6
                    case hia6 => simp only [List.getElem?_toArray, List.getElem?_cons_succ, List.getElem?_cons_zero]; exact rfl
                    case hwa6 => rfl
                    case hya6 => (intro w hSw; (try dsimp only at hSw); go_simp) <;> with_reducible rfl
                    simp only [Act.put, List.setIfInBounds_toArray, List.set_cons_zero, List.set_cons_succ]
                    refine wpAnyH_take (i := 7) (oi := ?oia7) (v := ?va7) ?hia7 (by kernel_rfl) (by kernel_rfl) (by kernel_rfl) (fun _ _ _ h => h) (Or.inl ⟨?hwa7, ?hya7⟩) hHeld ?resta7
                    case hia7 => simp only [List.getElem?_toArray, List.getElem?_cons_succ, List.getElem?_cons_zero]; exact rfl
                    case hwa7 => rfl
                    case hya7 => (intro w hSw; (try dsimp only at hSw); go_simp) <;> with_reducible rfl
                    simp only [Act.put, List.setIfInBounds_toArray, List.set_cons_zero, List.set_cons_succ]
                    refine wpAnyH_take (i := 8) (oi := ?oia8) (v := ?va8) ?hia8 (by kernel_rfl) (by kernel_rfl) (by kernel_rfl) (fun _ _ _ h => h) (Or.inl ⟨?hwa8, ?hya8⟩) hHeld ?resta8
                    case hia8 => simp only [List.getElem?_toArray, List.getElem?_cons_succ, List.getElem?_cons_zero]; exact rfl
                    case hwa8 => rfl
                    case hya8 => (intro w hSw; (try dsimp only at hSw); go_simp) <;> with_reducible rfl
                    simp only [Act.put, List.setIfInBounds_toArray, List.set_cons_zero, List.set_cons_succ]
                    refine wpAnyH_take (i := 9) (oi := ?oia9) (v := ?va9) ?hia9 (by kernel_rfl) (by kernel_rfl) (by kernel_rfl) (fun _ _ _ h => h) (Or.inl ⟨?hwa9, ?hya9⟩) hHeld ?resta9
                    case hia9 => simp only [List.getElem?_toArray, List.getElem?_cons_succ, List.getElem?_cons_zero]; exact rfl
                    case hwa9 => rfl
                    case hya9 => (intro w hSw; (try dsimp only at hSw); go_simp) <;> with_reducible rfl
                    simp only [Act.put, List.setIfInBounds_toArray, List.set_cons_zero, List.set_cons_succ]
                    refine wpAnyH_take (i := 10) (oi := ?oia10) (v := ?va10) ?hia10 (by kernel_rfl) (by kernel_rfl) (by kernel_rfl) (fun _ _ _ h => h) (Or.inl ⟨?hwa10, ?hya10⟩) hHeld ?resta10
                    case hia10 => simp only [List.getElem?_toArray, List.getElem?_cons_succ, List.getElem?_cons_zero]; exact rfl
                    case hwa10 => rfl
                    case hya10 => (intro w hSw; (try dsimp only at hSw); go_simp) <;> with_reducible rfl
                    simp only [Act.put, List.setIfInBounds_toArray, List.set_cons_zero, List.set_cons_succ]
                    refine wpAnyH_take (i := 11) (oi := ?oia11) (v := ?va11) ?hia11 (by kernel_rfl) (by kernel_rfl) (by kernel_rfl) (fun _ _ _ h => h) (Or.inl ⟨?hwa11, ?hya11⟩) hHeld ?resta11
                    case hia11 => simp only [List.getElem?_toArray, List.getElem?_cons_succ, List.getElem?_cons_zero]; exact rfl
                    case hwa11 => rfl
                    case hya11 => (intro w hSw; (try dsimp only at hSw); go_simp) <;> with_reducible rfl
                    simp only [Act.put, List.setIfInBounds_toArray, List.set_cons_zero, List.set_cons_succ]
                    refine wpAnyH_take (i := 12) (oi := ?oia12) (v := ?va12) ?hia12 (by kernel_rfl) (by kernel_rfl) (by kernel_rfl) (fun _ _ _ h => h) (Or.inl ⟨?hwa12, ?hya12⟩) hHeld ?resta12
                    case hia12 => simp only [List.getElem?_toArray, List.getElem?_cons_succ, List.getElem?_cons_zero]; exact rfl
                    case hwa12 => rfl
                    case hya12 => (intro w hSw; (try dsimp only at hSw); go_simp) <;> with_reducible rfl
                    simp only [Act.put, List.setIfInBounds_toArray, List.set_cons_zero, List.set_cons_succ]
                    refine wpAnyH_take (i := 13) (oi := ?oia13) (v := ?va13) ?hia13 (by kernel_rfl) (by kernel_rfl) (by kernel_rfl) (fun _ _ _ h => h) (Or.inl ⟨?hwa13, ?hya13⟩) hHeld ?resta13
                    case hia13 => simp only [List.getElem?_toArray, List.getElem?_cons_succ, List.getElem?_cons_zero]; exact rfl
                    case hwa13 => rfl
                    case hya13 => (intro w hSw; (try dsimp only at hSw); go_simp) <;> with_reducible rfl
                    simp only [Act.put, List.setIfInBounds_toArray, List.set_cons_zero, List.set_cons_succ]
                    refine wpAnyH_take (i := 15) (oi := ?oia15) (v := ?va15) ?hia15 (by kernel_rfl) (by kernel_rfl) (by kernel_rfl) (fun _ _ _ h => h) (Or.inl ⟨?hwa15, ?hya15⟩) hHeld ?resta15
                    case hia15 => simp only [List.getElem?_toArray, List.getElem?_cons_succ, List.getElem?_cons_zero]; exact rfl
                    case hwa15 => rfl
                    case hya15 => (intro w hSw; (try dsimp only at hSw); go_simp) <;> with_reducible rfl
                    simp only [Act.put, List.setIfInBounds_toArray, List.set_cons_zero, List.set_cons_succ]
                    refine wpAnyH_take (i := 16) (oi := ?oia16) (v := ?va16) ?hia16 (by kernel_rfl) (by kernel_rfl) (by kernel_rfl) (fun _ _ _ h => h) (Or.inl ⟨?hwa16, ?hya16⟩) hHeld ?resta16
                    case hia16 => simp only [List.getElem?_toArray, List.getElem?_cons_succ, List.getElem?_cons_zero]; exact rfl
                    case hwa16 => rfl
                    case hya16 => (intro w hSw; (try dsimp only at hSw); go_simp) <;> with_reducible rfl
                    simp only [Act.put, List.setIfInBounds_toArray, List.set_cons_zero, List.set_cons_succ]
                    refine wpAnyH_take (i := 17) (oi := ?oia17) (v := ?va17) ?hia17 (by kernel_rfl) (by kernel_rfl) (by kernel_rfl) (fun _ _ _ h => h) (Or.inl ⟨?hwa17, ?hya17⟩) hHeld ?resta17
                    case hia17 => simp only [List.getElem?_toArray, List.getElem?_cons_succ, List.getElem?_cons_zero]; exact rfl
                    case hwa17 => rfl
                    case hya17 => (intro w hSw; (try dsimp only at hSw); go_simp) <;> with_reducible rfl
                    simp only [Act.put, List.setIfInBounds_toArray, List.set_cons_zero, List.set_cons_succ]
                    refine wpAnyH_ready (rs := [14]) (by kernel_rfl) (by simp) (AllReadyH.cons (o := ?oia14) ?hia14 (fun K hK => ?_) AllReadyH.nil)
                    case hia14 => simp only [List.getElem?_toArray, List.getElem?_cons_succ, List.getElem?_cons_zero]; exact rfl
                    go_simp
                    (go_at_call 11; refine HH.out.mono ?_; rintro e w6 ⟨rfl, rfl⟩)
                    refine hK.out _ _ hS5 (fun hHeld => ?_)
                    clear hK K
                    try simp only [Act.put, List.setIfInBounds_toArray, List.set_cons_zero, List.set_cons_succ]
                    refine wpAnyH_take (i := 18) (oi := ?oia18) (v := ?va18) ?hia18 (by kernel_rfl) (by kernel_rfl) (by kernel_rfl) (fun _ _ _ h => h) (Or.inl ⟨?hwa18, ?hya18⟩) hHeld ?resta18
                    case hia18 => simp only [List.getElem?_toArray, List.getElem?_cons_succ, List.getElem?_cons_zero]; exact rfl
                    case hwa18 => rfl
                    case hya18 => (intro w hSw; (try dsimp only at hSw); go_simp) <;> with_reducible rfl
                    simp only [Act.put, List.setIfInBounds_toArray, List.set_cons_zero, List.set_cons_succ]
                    refine wpAnyH_take (i := 19) (oi := ?oia19) (v := ?va19) ?hia19 (by kernel_rfl) (by kernel_rfl) (by kernel_rfl) (fun _ _ _ h => h) (Or.inl ⟨?hwa19, ?hya19⟩) hHeld ?resta19
                    case hia19 => simp only [List.getElem?_toArray, List.getElem?_cons_succ, List.getElem?_cons_zero]; exact rfl
                    case hwa19 => rfl
                    case hya19 => (intro w hSw; (try dsimp only at hSw); go_simp) <;> with_reducible rfl
                    simp only [Act.put, List.setIfInBounds_toArray, List.set_cons_zero, List.set_cons_succ]
                    refine wpAnyH_take (i := 20) (oi := ?oia20) (v := ?va20) ?hia20 (by kernel_rfl) (by kernel_rfl) (by kernel_rfl) (fun _ _ _ h => h) (Or.inl ⟨?hwa20, ?hya20⟩) hHeld ?resta20
                    case hia20 => simp only [List.getElem?_toArray, List.getElem?_cons_succ, List.getElem?_cons_zero]; exact rfl
                    case hwa20 => rfl
                    case hya20 => (intro w hSw; (try dsimp only at hSw); go_simp) <;> with_reducible rfl
                    simp only [Act.put, List.setIfInBounds_toArray, List.set_cons_zero, List.set_cons_succ]
                    refine wpAnyH_take (i := 21) (oi := ?oia21) (v := ?va21) ?hia21 (by kernel_rfl) (by kernel_rfl) (by kernel_rfl) (fun _ _ _ h => h) (Or.inl ⟨?hwa21, ?hya21⟩) hHeld ?resta21
                    case hia21 => simp only [List.getElem?_toArray, List.getElem?_cons_succ, List.getElem?_cons_zero]; exact rfl
                    case hwa21 => rfl
                    case hya21 => (intro w hSw; (try dsimp only at hSw); go_simp) <;> with_reducible rfl
                    simp only [Act.put, List.setIfInBounds_toArray, List.set_cons_zero, List.set_cons_succ]
                    refine wpAnyH_take (i := 22) (oi := ?oia22) (v := ?va22) ?hia22 (by kernel_rfl) (by kernel_rfl) (by kernel_rfl) (fun _ _ _ h => h) (Or.inl ⟨?hwa22, ?hya22⟩) hHeld ?resta22
                    case hia22 => simp only [List.getElem?_toArray, List.getElem?_cons_succ, List.getElem?_cons_zero]; exact rfl
                    case hwa22 => rfl
                    case hya22 => (intro w hSw; (try dsimp only at hSw); go_simp) <;> with_reducible rfl
                    simp only [Act.put, List.setIfInBounds_toArray, List.set_cons_zero, List.set_cons_succ]
                    refine wpAnyH_take (i := 23) (oi := ?oia23) (v := ?va23) ?hia23 (by kernel_rfl) (by kernel_rfl) (by kernel_rfl) (fun _ _ _ h => h) (Or.inl ⟨?hwa23, ?hya23⟩) hHeld ?resta23
                    case hia23 => simp only [List.getElem?_toArray, List.getElem?_cons_succ, List.getElem?_cons_zero]; exact rfl
                    case hwa23 => rfl
                    case hya23 => (intro w hSw; (try dsimp only at hSw); go_simp) <;> with_reducible rfl
                    simp only [Act.put, List.setIfInBounds_toArray, List.set_cons_zero, List.set_cons_succ]
                    refine wpAnyH_take (i := 24) (oi := ?oia24) (v := ?va24) ?hia24 (by kernel_rfl) (by kernel_rfl) (by kernel_rfl) (fun _ _ _ h => h) (Or.inl ⟨?hwa24, ?hya24⟩) hHeld ?resta24
                    case hia24 => simp only [List.getElem?_toArray, List.getElem?_cons_succ, List.getElem?_cons_zero]; exact rfl
                    case hwa24 => rfl
                    case hya24 => (intro w hSw; (try dsimp only at hSw); go_simp) <;> with_reducible rfl
                    simp only [Act.put, List.setIfInBounds_toArray, List.set_cons_zero, List.set_cons_succ]
                    refine wpAnyH_take (i := 25) (oi := ?oia25) (v := ?va25) ?hia25 (by kernel_rfl) (by kernel_rfl) (by kernel_rfl) (fun _ _ _ h => h) (Or.inl ⟨?hwa25, ?hya25⟩) hHeld ?resta25
                    case hia25 => simp only [List.getElem?_toArray, List.getElem?_cons_succ, List.getElem?_cons_zero]; exact rfl
                    case hwa25 => rfl
                    case hya25 => (intro w hSw; (try dsimp only at hSw); go_simp) <;> with_reducible rfl
                    simp only [Act.put, List.setIfInBounds_toArray, List.set_cons_zero, List.set_cons_succ]
                    refine wpAnyH_take (i := 26) (oi := ?oia26) (v := ?va26) ?hia26 (by kernel_rfl) (by kernel_rfl) (by kernel_rfl) (fun _ _ _ h => h) (Or.inl ⟨?hwa26, ?hya26⟩) hHeld ?resta26
                    case hia26 => simp only [List.getElem?_toArray, List.getElem?_cons_succ, List.getElem?_cons_zero]; exact rfl
                    case hwa26 => rfl
                    case hya26 => (intro w hSw; (try dsimp only at hSw); go_simp) <;> with_reducible rfl
                    simp only [Act.put, List.setIfInBounds_toArray, List.set_cons_zero, List.set_cons_succ]
                    refine wpAnyH_take (i := 27) (oi := ?oia27) (v := ?va27) ?hia27 (by kernel_rfl) (by kernel_rfl) (by kernel_rfl) (fun _ _ _ h => h) (Or.inl ⟨?hwa27, ?hya27⟩) hHeld ?resta27
                    case hia27 => simp only [List.getElem?_toArray, List.getElem?_cons_succ, List.getElem?_cons_zero]; exact rfl
                    case hwa27 => rfl
                    case hya27 => (intro w hSw; (try dsimp only at hSw); go_simp) <;> with_reducible rfl
                    simp only [Act.put, List.setIfInBounds_toArray, List.set_cons_zero, List.set_cons_succ]
                    refine wpAnyH_take (i := 28) (oi := ?oia28) (v := ?va28) ?hia28 (by kernel_rfl) (by kernel_rfl) (by kernel_rfl) (fun _ _ _ h => h) (Or.inl ⟨?hwa28, ?hya28⟩) hHeld ?resta28
                    case hia28 => simp only [List.getElem?_toArray, List.getElem?_cons_succ, List.getElem?_cons_zero]; exact rfl
                    case hwa28 => rfl
                    case hya28 => (intro w hSw; (try dsimp only at hSw); go_simp) <;> with_reducible rfl
                    simp only [Act.put, List.setIfInBounds_toArray, List.set_cons_zero, List.set_cons_succ]
                    refine wpAnyH_take (i := 29) (oi := ?oia29) (v := ?va29) ?hia29 (by kernel_rfl) (by kernel_rfl) (by kernel_rfl) (fun _ _ _ h => h) (Or.inl ⟨?hwa29, ?hya29⟩) hHeld ?resta29
                    case hia29 => simp only [List.getElem?_toArray, List.getElem?_cons_succ, List.getElem?_cons_zero]; exact rfl
                    case hwa29 => rfl
                    case hya29 => (intro w hSw; (try dsimp only at hSw); go_simp) <;> with_reducible rfl
                    simp only [Act.put, List.setIfInBounds_toArray, List.set_cons_zero, List.set_cons_succ]
                    refine wpAnyH_take (i := 30) (oi := ?oia30) (v := ?va30) ?hia30 (by kernel_rfl) (by kernel_rfl) (by kernel_rfl) (fun _ _ _ h => h) (Or.inl ⟨?hwa30, ?hya30⟩) hHeld ?resta30
                    case hia30 => simp only [List.getElem?_toArray, List.getElem?_cons_succ, List.getElem?_cons_zero]; exact rfl
                    case hwa30 => rfl
                    case hya30 => (intro w hSw; (try dsimp only at hSw); go_simp) <;> with_reducible rfl
                    simp only [Act.put, List.setIfInBounds_toArray, List.set_cons_zero, List.set_cons_succ]
                    refine wpAnyH_take (i := 31) (oi := ?oia31) (v := ?va31) ?hia31 (by kernel_rfl) (by kernel_rfl) (by kernel_rfl) (fun _ _ _ h => h) (Or.inl ⟨?hwa31, ?hya31⟩) hHeld ?resta31
                    case hia31 => simp only [List.getElem?_toArray, List.getElem?_cons_succ, List.getElem?_cons_zero]; exact rfl
                    case hwa31 => rfl
                    case hya31 => (intro w hSw; (try dsimp only at hSw); go_simp) <;> with_reducible rfl
                    simp only [Act.put, List.setIfInBounds_toArray, List.set_cons_zero, List.set_cons_succ]
                    refine wpAnyH_take (i := 32) (oi := ?oia32) (v := ?va32) ?hia32 (by kernel_rfl) (by kernel_rfl) (by kernel_rfl) (fun _ _ _ h => h) (Or.inl ⟨?hwa32, ?hya32⟩) hHeld ?resta32
                    case hia32 => simp only [List.getElem?_toArray, List.getElem?_cons_succ, List.getElem?_cons_zero]; exact rfl
                    case hwa32 => rfl
                    case hya32 => (intro w hSw; (try dsimp only at hSw); go_simp) <;> with_reducible rfl
                    simp only [Act.put, List.setIfInBounds_toArray, List.set_cons_zero, List.set_cons_succ]
                    refine wpAnyH_take (i := 33) (oi := ?oia33) (v := ?va33) ?hia33 (by kernel_rfl) (by kernel_rfl) (by kernel_rfl) (fun _ _ _ h => h) (Or.inl ⟨?hwa33, ?hya33⟩) hHeld ?resta33
                    case hia33 => simp only [List.getElem?_toArray, List.getElem?_cons_succ, List.getElem?_cons_zero]; exact rfl
                    case hwa33 => rfl
                    case hya33 => (intro w hSw; (try dsimp only at hSw); go_simp) <;> with_reducible rfl
                    simp only [Act.put, List.setIfInBounds_toArray, List.set_cons_zero, List.set_cons_succ]
                    refine wpAnyH_take (i := 34) (oi := ?oia34) (v := ?va34) ?hia34 (by kernel_rfl) (by kernel_rfl) (by kernel_rfl) (fun _ _ _ h => h) (Or.inl ⟨?hwa34, ?hya34⟩) hHeld ?resta34
                    case hia34 => simp only [List.getElem?_toArray, List.getElem?_cons_succ, List.getElem?_cons_zero]; exact rfl
                    case hwa34 => rfl
                    case hya34 => (intro w hSw; (try dsimp only at hSw); go_simp) <;> with_reducible rfl
                    simp only [Act.put, List.setIfInBounds_toArray, List.set_cons_zero, List.set_cons_succ]
                    refine wpAnyH_take (i := 35) (oi := ?oia35) (v := ?va35) ?hia35 (by kernel_rfl) (by kernel_rfl) (by kernel_rfl) (fun _ _ _ h => h) (Or.inl ⟨?hwa35, ?hya35⟩) hHeld ?resta35
                    case hia35 => simp only [List.getElem?_toArray, List.getElem?_cons_succ, List.getElem?_cons_zero]; exact rfl
                    case hwa35 => rfl
                    case hya35 => (intro w hSw; (try dsimp only at hSw); go_simp) <;> with_reducible rfl
                    simp only [Act.put, List.setIfInBounds_toArray, List.set_cons_zero, List.set_cons_succ]
                    refine wpAnyH_take (i := 36) (oi := ?oia36) (v := ?va36) ?hia36 (by kernel_rfl) (by kernel_rfl) (by kernel_rfl) (fun _ _ _ h => h) (Or.inl ⟨?hwa36, ?hya36⟩) hHeld ?resta36
                    case hia36 => simp only [List.getElem?_toArray, List.getElem?_cons_succ, List.getElem?_cons_zero]; exact rfl
                    case hwa36 => rfl
                    case hya36 => (intro w hSw; (try dsimp only at hSw); go_simp) <;> with_reducible rfl
                    simp only [Act.put, List.setIfInBounds_toArray, List.set_cons_zero, List.set_cons_succ]
                    refine wpAnyH_take (i := 37) (oi := ?oia37) (v := ?va37) ?hia37 (by kernel_rfl) (by kernel_rfl) (by kernel_rfl) (fun _ _ _ h => h) (Or.inl ⟨?hwa37, ?hya37⟩) hHeld ?resta37
                    case hia37 => simp only [List.getElem?_toArray, List.getElem?_cons_succ, List.getElem?_cons_zero]; exact rfl
                    case hwa37 => rfl
                    case hya37 => (intro w hSw; (try dsimp only at hSw); go_simp) <;> with_reducible rfl
                    simp only [Act.put, List.setIfInBounds_toArray, List.set_cons_zero, List.set_cons_succ]
                    refine wpAnyH_take (i := 40) (oi := ?oia40) (v := ?va40) ?hia40 (by kernel_rfl) (by kernel_rfl) (by kernel_rfl) (fun _ _ _ h => h) (Or.inl ⟨?hwa40, ?hya40⟩) hHeld ?resta40
                    case hia40 => simp only [List.getElem?_toArray, List.getElem?_cons_succ, List.getElem?_cons_zero]; exact rfl
                    case hwa40 => rfl
                    case hya40 => (intro w hSw; (try dsimp only at hSw); go_simp) <;> with_reducible rfl
                    simp only [Act.put, List.setIfInBounds_toArray, List.set_cons_zero, List.set_cons_succ]
                    refine wpAnyH_ready (rs := [38]) (by kernel_rfl) (by simp) (AllReadyH.cons (o := ?oia38) ?hia38 (fun K hK => ?_) AllReadyH.nil)
                    case hia38 => simp only [List.getElem?_toArray, List.getElem?_cons_succ, List.getElem?_cons_zero]; exact rfl
                    go_simp
                    (go_at_call 12; refine (bytes_ok b k S _ HD.out.rel.at_ hn1 HSB.out).mono ?_; rintro e w7 ⟨rfl, hg7, hb7⟩; replace hb7 : BytAt w7 w5.heap.size S := hb7; have ht7 := HT1.out _ _ 256 hb7; have hS7 := HK.out w7 hg7)
                    refine hK.out _ _ hS7 (fun hHeld => ?_)
                    clear hK K
                    try simp only [Act.put, List.setIfInBounds_toArray, List.set_cons_zero, List.set_cons_succ]
                    refine wpAnyH_mono (S1 := fun W => W.cell? ⟨A, 1, none⟩ = some (.int .i64 N) ∧ W.cell? ⟨g + 1, 0, none⟩ = some (.slice (some ⟨g, 0, none⟩) k.toNat k.toNat) ∧ W.cell? ⟨g, N.toNat, none⟩ = some (.bool true)) (S2 := fun W => (W.cell? ⟨A, 1, none⟩ = some (.int .i64 N) ∧ W.cell? ⟨g + 1, 0, none⟩ = some (.slice (some ⟨g, 0, none⟩) k.toNat k.toNat) ∧ W.cell? ⟨g, N.toNat, none⟩ = some (.bool true)) ∧ (convert 40 9 (.slice (some ⟨w5.heap.size, 0, none⟩) 256 256)).run Tryd.prog W = .ok (.string Tx) W) (fun _ h => h.1) _ _ _ _ ?_
                    replace hHeld := And.intro hHeld ht7
                    refine wpAnyH_take (i := 39) (oi := ?oia39) (v := ?va39) ?hia39 (by kernel_rfl) (by kernel_rfl) (by kernel_rfl) (fun _ _ _ h => h) (Or.inl ⟨?hwa39, ?hya39⟩) hHeld ?resta39
                    case hia39 => simp only [List.getElem?_toArray, List.getElem?_cons_succ, List.getElem?_cons_zero]; exact rfl
                    case hwa39 => rfl
                    case hya39 => (intro w hSw; (try dsimp only at hSw); go_simp) <;> with_reducible rfl
                    simp only [Act.put, List.setIfInBounds_toArray, List.set_cons_zero, List.set_cons_succ]
                    refine wpAnyH_ready (rs := [41]) (by kernel_rfl) (by simp) (AllReadyH.cons (o := ?oia41) ?hia41 (fun K hK => ?_) AllReadyH.nil)
                    case hia41 => simp only [List.getElem?_toArray, List.getElem?_cons_succ, List.getElem?_cons_zero]; exact rfl
                    go_simp
                    (go_at_call 20; refine (rbytes_ok _ _ _ _ _ (HD.out.look hg7).rel.ref (by omega) HD.out.small).mono ?_; rintro e w8 ⟨rfl, hg8, hb8⟩; have ht8 := HT1.out _ _ 256 hb8; have ht7 := HT1.out _ _ 256 (hb7.grown hg8 (by simp)); have hS8 := HK.out w8 (grown_trans hg7 hg8))
                    refine hK.out _ _ ⟨hS8, ht7⟩ (fun hHeld => ?_)
                    clear hK K
                    try simp only [Act.put, List.setIfInBounds_toArray, List.set_cons_zero, List.set_cons_succ]
                    refine wpAnyH_mono (S2 := fun W => ((W.cell? ⟨A, 1, none⟩ = some (.int .i64 N) ∧ W.cell? ⟨g + 1, 0, none⟩ = some (.slice (some ⟨g, 0, none⟩) k.toNat k.toNat) ∧ W.cell? ⟨g, N.toNat, none⟩ = some (.bool true)) ∧ (convert 40 9 (.slice (some ⟨w5.heap.size, 0, none⟩) 256 256)).run Tryd.prog W = .ok (.string Tx) W) ∧ (convert 40 9 (.slice (some ⟨w7.heap.size, 0, none⟩) 256 256)).run Tryd.prog W = .ok (.string Tx) W) (fun _ h => h.1) _ _ _ _ ?_
                    replace hHeld := And.intro hHeld ht8
                    refine wpAnyH_take (i := 42) (oi := ?oia42) (v := ?va42) ?hia42 (by kernel_rfl) (by kernel_rfl) (by kernel_rfl) (fun _ _ _ h => h) (Or.inl ⟨?hwa42, ?hya42⟩) hHeld ?resta42
                    case hia42 => simp only [List.getElem?_toArray, List.getElem?_cons_succ, List.getElem?_cons_zero]; exact rfl
                    case hwa42 => rfl
                    case hya42 => (intro w hSw; (try dsimp only at hSw); go_simp) <;> with_reducible rfl
                    simp only [Act.put, List.setIfInBounds_toArray, List.set_cons_zero, List.set_cons_succ]
                    refine wpAnyH_take (i := 43) (oi := ?oia43) (v := ?va43) ?hia43 (by kernel_rfl) (by kernel_rfl) (by kernel_rfl) (fun _ _ _ h => h) (Or.inl ⟨?hwa43, ?hya43⟩) hHeld ?resta43
                    case hia43 => simp only [List.getElem?_toArray, List.getElem?_cons_succ, List.getElem?_cons_zero]; exact rfl
                    case hwa43 => rfl
                    case hya43 => (intro w hSw; (try dsimp only at hSw); go_simp) <;> with_reducible rfl
                    simp only [Act.put, List.setIfInBounds_toArray, List.set_cons_zero, List.set_cons_succ]
                    refine wpAnyH_take (i := 44) (oi := ?oia44) (v := ?va44) ?hia44 (by kernel_rfl) (by kernel_rfl) (by kernel_rfl) (fun _ _ _ h => h) (Or.inl ⟨?hwa44, ?hya44⟩) hHeld ?resta44
                    case hia44 => simp only [List.getElem?_toArray, List.getElem?_cons_succ, List.getElem?_cons_zero]; exact rfl
                    case hwa44 => rfl
                    case hya44 => (intro w hSw; (try dsimp only at hSw); go_simp) <;> with_reducible rfl
                    simp only [Act.put, List.setIfInBounds_toArray, List.set_cons_zero, List.set_cons_succ]
                    refine wpAnyH_done (by kernel_rfl) ?_ _
                    refine NoPanic.normal ?_
                    all_goals
                      have HX := Lib.hid ((HD.out.look hg7).look hg8)
                      clear hg7 hg8 hb7 hb8
                      go_wp2_with fail
                      exact ⟨⟨i + 1, by omega, by omega, rfl, b, S, rfl, HX.out.rel, HX.out.small⟩, by simp [intOf]; omega⟩
                  · as_aux_lemma =>
                    have hbit' : S.testBit N.toNat = false := by simpa using hbit
                    rw [hbit'] at HH0 hcl
                    have HH := Lib.hid HH0
                    have HK : Hid (∀ W, w5.drew.grownBy W none → W.cell? ⟨A, 1, none⟩ = some (.int .i64 N) ∧ W.cell? ⟨g + 1, 0, none⟩ = some (.slice (some ⟨g, 0, none⟩) k.toNat k.toNat) ∧ W.cell? ⟨g, N.toNat, none⟩ = some (.bool false)) := Lib.hid fun W hW => by
                      have H := HD.out.look hW
                      refine ⟨H.act.n, H.rel.ref.cell0, ?_⟩
                      have := H.rel.ref.cell (k := N.toNat) (by omega)
                      rw [hbit'] at this
                      exact this
                    have hS5 := HK.out w5.drew (grown_refl _ none)
                    clear HH0 hbit hbit'
                    refine wp_region_noPanic ?_
                    refine wp_region_held_drew (S := fun W => W.cell? ⟨A, 1, none⟩ = some (.int .i64 N) ∧ W.cell? ⟨g + 1, 0, none⟩ = some (.slice (some ⟨g, 0, none⟩) k.toNat k.toNat) ∧ W.cell? ⟨g, N.toNat, none⟩ = some (.bool false)) (by kernel_rfl) hS5 (fun hHeld => ?_)
                    refine wpAnyH_take (i := 0) (oi := ?oib0) (v := ?vb0) ?hib0 (by kernel_rfl) (by kernel_rfl) (by kernel_rfl) (fun _ _ _ h => h) (Or.inl ⟨?hwb0, ?hyb0⟩) hHeld ?restb0
                    case hib0 => simp only [List.getElem?_toArray, List.getElem?_cons_zero]; exact rfl
                    case hwb0 => rfl
                    case hyb0 => (intro w hSw; (try dsimp only at hSw); go_simp) <;> with_reducible rfl
                    simp only [Act.put, List.setIfInBounds_toArray, List.set_cons_zero, List.set_cons_succ]
                    refine wpAnyH_take (i := 1) (oi := ?oib1) (v := ?vb1) ?hib1 (by kernel_rfl) (by kernel_rfl) (by kernel_rfl) (fun _ _ _ h => h) (Or.inl ⟨?hwb1, ?hyb1⟩) hHeld ?restb1
                    case hib1 => simp only [List.getElem?_toArray, List.getElem?_cons_succ, List.getElem?_cons_zero]; exact rfl
                    case hwb1 => rfl
                    case hyb1 => (intro w hSw; (try dsimp only at hSw); go_simp) <;> with_reducible rfl
                    simp only [Act.put, List.setIfInBounds_toArray, List.set_cons_zero, List.set_cons_succ]
                    refine wpAnyH_take (i := 2) (oi := ?oib2) (v := ?vb2) ?hib2 (by kernel_rfl) (by kernel_rfl) (by kernel_rfl) (fun _ _ _ h => h) (Or.inl ⟨?hwb2, ?hyb2⟩) hHeld ?restb2
                    case hib2 => simp only [List.getElem?_toArray, List.getElem?_cons_succ, List.getElem?_cons_zero]; exact rfl
                    case hwb2 => rfl
                    case hyb2 => (intro w hSw; (try dsimp only at hSw); go_simp) <;> with_reducible rfl
                    simp only [Act.put, List.setIfInBounds_toArray, List.set_cons_zero, List.set_cons_succ]
                    refine wpAnyH_take (i := 3) (oi := ?oib3) (v := ?vb3) ?hib3 (by kernel_rfl) (by kernel_rfl) (by kernel_rfl) (fun _ _ _ h => h) (Or.inl ⟨?hwb3, ?hyb3⟩) hHeld ?restb3
                    case hib3 => simp only [List.getElem?_toArray, List.getElem?_cons_succ, List.getElem?_cons_zero]; exact rfl
                    case hwb3 => rfl
                    case hyb3 => (intro w hSw; (try dsimp only at hSw); go_simp) <;> with_reducible rfl
                    simp only [Act.put, List.setIfInBounds_toArray, List.set_cons_zero, List.set_cons_succ]
                    refine wpAnyH_take (i := 4) (oi := ?oib4) (v := ?vb4) ?hib4 (by kernel_rfl) (by kernel_rfl) (by kernel_rfl) (fun _ _ _ h => h) (Or.inl ⟨?hwb4, ?hyb4⟩) hHeld ?restb4
                    case hib4 => simp only [List.getElem?_toArray, List.getElem?_cons_succ, List.getElem?_cons_zero]; exact rfl
                    case hwb4 => rfl
                    case hyb4 => (intro w hSw; (try dsimp only at hSw); go_simp) <;> with_reducible rfl
                    simp only [Act.put, List.setIfInBounds_toArray, List.set_cons_zero, List.set_cons_succ]
                    refine wpAnyH_take (i := 5) (oi := ?oib5) (v := ?vb5) ?hib5 (by kernel_rfl) (by kernel_rfl) (by kernel_rfl) (fun _ _ _ h => h) (Or.inl ⟨?hwb5, ?hyb5⟩) hHeld ?restb5
                    case hib5 => simp only [List.getElem?_toArray, List.getElem?_cons_succ, List.getElem?_cons_zero]; exact rfl
                    case hwb5 => rfl
                    case hyb5 => (intro w hSw; (try dsimp only at hSw); go_simp) <;> with_reducible rfl
                    simp only [Act.put, List.setIfInBounds_toArray, List.set_cons_zero, List.set_cons_succ]
                    refine wpAnyH_take (i := 6) (oi := ?oib6) (v := ?vb6) ?hib6 (by kernel_rfl) (by kernel_rfl) (by kernel_rfl) (fun _ _ _ h => h) (Or.inl ⟨?hwb6, ?hyb6⟩) hHeld ?restb6
                    case hib6 => simp only [List.getElem?_toArray, List.getElem?_cons_succ, List.getElem?_cons_zero]; exact rfl
                    case hwb6 => rfl
                    case hyb6 => (intro w hSw; (try dsimp only at hSw); go_simp) <;> with_reducible rfl
                    simp only [Act.put, List.setIfInBounds_toArray, List.set_cons_zero, List.set_cons_succ]
                    refine wpAnyH_take (i := 7) (oi := ?oib7) (v := ?vb7) ?hib7 (by kernel_rfl) (by kernel_rfl) (by kernel_rfl) (fun _ _ _ h => h) (Or.inl ⟨?hwb7, ?hyb7⟩) hHeld ?restb7
                    case hib7 => simp only [List.getElem?_toArray, List.getElem?_cons_succ, List.getElem?_cons_zero]; exact rfl
                    case hwb7 => rfl
                    case hyb7 => (intro w hSw; (try dsimp only at hSw); go_simp) <;> with_reducible rfl
                    simp only [Act.put, List.setIfInBounds_toArray, List.set_cons_zero, List.set_cons_succ]
                    refine wpAnyH_take (i := 8) (oi := ?oib8) (v := ?vb8) ?hib8 (by kernel_rfl) (by kernel_rfl) (by kernel_rfl) (fun _ _ _ h => h) (Or.inl ⟨?hwb8, ?hyb8⟩) hHeld ?restb8
                    case hib8 => simp only [List.getElem?_toArray, List.getElem?_cons_succ, List.getElem?_cons_zero]; exact rfl
                    case hwb8 => rfl
                    case hyb8 => (intro w hSw; (try dsimp only at hSw); go_simp) <;> with_reducible rfl
                    simp only [Act.put, List.setIfInBounds_toArray, List.set_cons_zero, List.set_cons_succ]
                    refine wpAnyH_take (i := 9) (oi := ?oib9) (v := ?vb9) ?hib9 (by kernel_rfl) (by kernel_rfl) (by kernel_rfl) (fun _ _ _ h => h) (Or.inl ⟨?hwb9, ?hyb9⟩) hHeld ?restb9
                    case hib9 => simp only [List.getElem?_toArray, List.getElem?_cons_succ, List.getElem?_cons_zero]; exact rfl
                    case hwb9 => rfl
                    case hyb9 => (intro w hSw; (try dsimp only at hSw); go_simp) <;> with_reducible rfl
                    simp only [Act.put, List.setIfInBounds_toArray, List.set_cons_zero, List.set_cons_succ]
                    refine wpAnyH_take (i := 10) (oi := ?oib10) (v := ?vb10) ?hib10 (by kernel_rfl) (by kernel_rfl) (by kernel_rfl) (fun _ _ _ h => h) (Or.inl ⟨?hwb10, ?hyb10⟩) hHeld ?restb10
                    case hib10 => simp only [List.getElem?_toArray, List.getElem?_cons_succ, List.getElem?_cons_zero]; exact rfl
                    case hwb10 => rfl
                    case hyb10 => (intro w hSw; (try dsimp only at hSw); go_simp) <;> with_reducible rfl
                    simp only [Act.put, List.setIfInBounds_toArray, List.set_cons_zero, List.set_cons_succ]
                    refine wpAnyH_take (i := 11) (oi := ?oib11) (v := ?vb11) ?hib11 (by kernel_rfl) (by kernel_rfl) (by kernel_rfl) (fun _ _ _ h => h) (Or.inl ⟨?hwb11, ?hyb11⟩) hHeld ?restb11
                    case hib11 => simp only [List.getElem?_toArray, List.getElem?_cons_succ, List.getElem?_cons_zero]; exact rfl
                    case hwb11 => rfl
                    case hyb11 => (intro w hSw; (try dsimp only at hSw); go_simp) <;> with_reducible rfl
                    simp only [Act.put, List.setIfInBounds_toArray, List.set_cons_zero, List.set_cons_succ]
                    refine wpAnyH_take (i := 12) (oi := ?oib12) (v := ?vb12) ?hib12 (by kernel_rfl) (by kernel_rfl) (by kernel_rfl) (fun _ _ _ h => h) (Or.inl ⟨?hwb12, ?hyb12⟩) hHeld ?restb12
                    case hib12 => simp only [List.getElem?_toArray, List.getElem?_cons_succ, List.getElem?_cons_zero]; exact rfl
                    case hwb12 => rfl
                    case hyb12 => (intro w hSw; (try dsimp only at hSw); go_simp) <;> with_reducible rfl
                    simp only [Act.put, List.setIfInBounds_toArray, List.set_cons_zero, List.set_cons_succ]
                    refine wpAnyH_take (i := 13) (oi := ?oib13) (v := ?vb13) ?hib13 (by kernel_rfl) (by kernel_rfl) (by kernel_rfl) (fun _ _ _ h => h) (Or.inl ⟨?hwb13, ?hyb13⟩) hHeld ?restb13
                    case hib13 => simp only [List.getElem?_toArray, List.getElem?_cons_succ, List.getElem?_cons_zero]; exact rfl
                    case hwb13 => rfl
                    case hyb13 => (intro w hSw; (try dsimp only at hSw); go_simp) <;> with_reducible rfl
                    simp only [Act.put, List.setIfInBounds_toArray, List.set_cons_zero, List.set_cons_succ]
                    refine wpAnyH_take (i := 15) (oi := ?oib15) (v := ?vb15) ?hib15 (by kernel_rfl) (by kernel_rfl) (by kernel_rfl) (fun _ _ _ h => h) (Or.inl ⟨?hwb15, ?hyb15⟩) hHeld ?restb15
                    case hib15 => simp only [List.getElem?_toArray, List.getElem?_cons_succ, List.getElem?_cons_zero]; exact rfl
                    case hwb15 => rfl
                    case hyb15 => (intro w hSw; (try dsimp only at hSw); go_simp) <;> with_reducible rfl
                    simp only [Act.put, List.setIfInBounds_toArray, List.set_cons_zero, List.set_cons_succ]
                    refine wpAnyH_take (i := 16) (oi := ?oib16) (v := ?vb16) ?hib16 (by kernel_rfl) (by kernel_rfl) (by kernel_rfl) (fun _ _ _ h => h) (Or.inl ⟨?hwb16, ?hyb16⟩) hHeld ?restb16
                    case hib16 => simp only [List.getElem?_toArray, List.getElem?_cons_succ, List.getElem?_cons_zero]; exact rfl
                    case hwb16 => rfl
                    case hyb16 => (intro w hSw; (try dsimp only at hSw); go_simp) <;> with_reducible rfl
                    simp only [Act.put, List.setIfInBounds_toArray, List.set_cons_zero, List.set_cons_succ]
                    refine wpAnyH_take (i := 17) (oi := ?oib17) (v := ?vb17) ?hib17 (by kernel_rfl) (by kernel_rfl) (by kernel_rfl) (fun _ _ _ h => h) (Or.inl ⟨?hwb17, ?hyb17⟩) hHeld ?restb17
                    case hib17 => simp only [List.getElem?_toArray, List.getElem?_cons_succ, List.getElem?_cons_zero]; exact rfl
                    case hwb17 => rfl
                    case hyb17 => (intro w hSw; (try dsimp only at hSw); go_simp) <;> with_reducible rfl
                    simp only [Act.put, List.setIfInBounds_toArray, List.set_cons_zero, List.set_cons_succ]
                    refine wpAnyH_ready (rs := [14]) (by kernel_rfl) (by simp) (AllReadyH.cons (o := ?oib14) ?hib14 (fun K hK => ?_) AllReadyH.nil)
                    case hib14 => simp only [List.getElem?_toArray, List.getElem?_cons_succ, List.getElem?_cons_zero]; exact rfl
                    go_simp
                    (go_at_call 11; refine HH.out.mono ?_; rintro e w6 ⟨rfl, rfl⟩)
                    refine hK.out _ _ hS5 (fun hHeld => ?_)
                    clear hK K
                    try simp only [Act.put, List.setIfInBounds_toArray, List.set_cons_zero, List.set_cons_succ]
                    refine wpAnyH_take (i := 18) (oi := ?oib18) (v := ?vb18) ?hib18 (by kernel_rfl) (by kernel_rfl) (by kernel_rfl) (fun _ _ _ h => h) (Or.inl ⟨?hwb18, ?hyb18⟩) hHeld ?restb18
                    case hib18 => simp only [List.getElem?_toArray, List.getElem?_cons_succ, List.getElem?_cons_zero]; exact rfl
                    case hwb18 => rfl
                    case hyb18 => (intro w hSw; (try dsimp only at hSw); go_simp) <;> with_reducible rfl
                    simp only [Act.put, List.setIfInBounds_toArray, List.set_cons_zero, List.set_cons_succ]
                    refine wpAnyH_take (i := 19) (oi := ?oib19) (v := ?vb19) ?hib19 (by kernel_rfl) (by kernel_rfl) (by kernel_rfl) (fun _ _ _ h => h) (Or.inl ⟨?hwb19, ?hyb19⟩) hHeld ?restb19
                    case hib19 => simp only [List.getElem?_toArray, List.getElem?_cons_succ, List.getElem?_cons_zero]; exact rfl
                    case hwb19 => rfl
                    case hyb19 => (intro w hSw; (try dsimp only at hSw); go_simp) <;> with_reducible rfl
                    simp only [Act.put, List.setIfInBounds_toArray, List.set_cons_zero, List.set_cons_succ]
                    refine wpAnyH_take (i := 20) (oi := ?oib20) (v := ?vb20) ?hib20 (by kernel_rfl) (by kernel_rfl) (by kernel_rfl) (fun _ _ _ h => h) (Or.inl ⟨?hwb20, ?hyb20⟩) hHeld ?restb20
                    case hib20 => simp only [List.getElem?_toArray, List.getElem?_cons_succ, List.getElem?_cons_zero]; exact rfl
                    case hwb20 => rfl
                    case hyb20 => (intro w hSw; (try dsimp only at hSw); go_simp) <;> with_reducible rfl
                    simp only [Act.put, List.setIfInBounds_toArray, List.set_cons_zero, List.set_cons_succ]
                    refine wpAnyH_take (i := 21) (oi := ?oib21) (v := ?vb21) ?hib21 (by kernel_rfl) (by kernel_rfl) (by kernel_rfl) (fun _ _ _ h => h) (Or.inl ⟨?hwb21, ?hyb21⟩) hHeld ?restb21
                    case hib21 => simp only [List.getElem?_toArray, List.getElem?_cons_succ, List.getElem?_cons_zero]; exact rfl
                    case hwb21 => rfl
                    case hyb21 => (intro w hSw; (try dsimp only at hSw); go_simp) <;> with_reducible rfl
                    simp only [Act.put, List.setIfInBounds_toArray, List.set_cons_zero, List.set_cons_succ]
                    refine wpAnyH_take (i := 22) (oi := ?oib22) (v := ?vb22) ?hib22 (by kernel_rfl) (by kernel_rfl) (by kernel_rfl) (fun _ _ _ h => h) (Or.inl ⟨?hwb22, ?hyb22⟩) hHeld ?restb22
                    case hib22 => simp only [List.getElem?_toArray, List.getElem?_cons_succ, List.getElem?_cons_zero]; exact rfl
                    case hwb22 => rfl
                    case hyb22 => (intro w hSw; (try dsimp only at hSw); go_simp) <;> with_reducible rfl
                    simp only [Act.put, List.setIfInBounds_toArray, List.set_cons_zero, List.set_cons_succ]
                    refine wpAnyH_take (i := 23) (oi := ?oib23) (v := ?vb23) ?hib23 (by kernel_rfl) (by kernel_rfl) (by kernel_rfl) (fun _ _ _ h => h) (Or.inl ⟨?hwb23, ?hyb23⟩) hHeld ?restb23
                    case hib23 => simp only [List.getElem?_toArray, List.getElem?_cons_succ, List.getElem?_cons_zero]; exact rfl
                    case hwb23 => rfl
                    case hyb23 => (intro w hSw; (try dsimp only at hSw); go_simp) <;> with_reducible rfl
                    simp only [Act.put, List.setIfInBounds_toArray, List.set_cons_zero, List.set_cons_succ]
                    refine wpAnyH_take (i := 24) (oi := ?oib24) (v := ?vb24) ?hib24 (by kernel_rfl) (by kernel_rfl) (by kernel_rfl) (fun _ _ _ h => h) (Or.inl ⟨?hwb24, ?hyb24⟩) hHeld ?restb24
                    case hib24 => simp only [List.getElem?_toArray, List.getElem?_cons_succ, List.getElem?_cons_zero]; exact rfl
                    case hwb24 => rfl
                    case hyb24 => (intro w hSw; (try dsimp only at hSw); go_simp) <;> with_reducible rfl
                    simp only [Act.put, List.setIfInBounds_toArray, List.set_cons_zero, List.set_cons_succ]
                    refine wpAnyH_take (i := 25) (oi := ?oib25) (v := ?vb25) ?hib25 (by kernel_rfl) (by kernel_rfl) (by kernel_rfl) (fun _ _ _ h => h) (Or.inl ⟨?hwb25, ?hyb25⟩) hHeld ?restb25
                    case hib25 => simp only [List.getElem?_toArray, List.getElem?_cons_succ, List.getElem?_cons_zero]; exact rfl
                    case hwb25 => rfl
                    case hyb25 => (intro w hSw; (try dsimp only at hSw); go_simp) <;> with_reducible rfl
                    simp only [Act.put, List.setIfInBounds_toArray, List.set_cons_zero, List.set_cons_succ]
                    refine wpAnyH_take (i := 26) (oi := ?oib26) (v := ?vb26) ?hib26 (by kernel_rfl) (by kernel_rfl) (by kernel_rfl) (fun _ _ _ h => h) (Or.inl ⟨?hwb26, ?hyb26⟩) hHeld ?restb26
                    case hib26 => simp only [List.getElem?_toArray, List.getElem?_cons_succ, List.getElem?_cons_zero]; exact rfl
                    case hwb26 => rfl
                    case hyb26 => (intro w hSw; (try dsimp only at hSw); go_simp) <;> with_reducible rfl
                    simp only [Act.put, List.setIfInBounds_toArray, List.set_cons_zero, List.set_cons_succ]
                    refine wpAnyH_take (i := 27) (oi := ?oib27) (v := ?vb27) ?hib27 (by kernel_rfl) (by kernel_rfl) (by kernel_rfl) (fun _ _ _ h => h) (Or.inl ⟨?hwb27, ?hyb27⟩) hHeld ?restb27
                    case hib27 => simp only [List.getElem?_toArray, List.getElem?_cons_succ, List.getElem?_cons_zero]; exact rfl
                    case hwb27 => rfl
                    case hyb27 => (intro w hSw; (try dsimp only at hSw); go_simp) <;> with_reducible rfl
                    simp only [Act.put, List.setIfInBounds_toArray, List.set_cons_zero, List.set_cons_succ]
                    refine wpAnyH_take (i := 28) (oi := ?oib28) (v := ?vb28) ?hib28 (by kernel_rfl) (by kernel_rfl) (by kernel_rfl) (fun _ _ _ h => h) (Or.inl ⟨?hwb28, ?hyb28⟩) hHeld ?restb28
                    case hib28 => simp only [List.getElem?_toArray, List.getElem?_cons_succ, List.getElem?_cons_zero]; exact rfl
                    case hwb28 => rfl
                    case hyb28 => (intro w hSw; (try dsimp only at hSw); go_simp) <;> with_reducible rfl
                    simp only [Act.put, List.setIfInBounds_toArray, List.set_cons_zero, List.set_cons_succ]
                    refine wpAnyH_take (i := 29) (oi := ?oib29) (v := ?vb29) ?hib29 (by kernel_rfl) (by kernel_rfl) (by kernel_rfl) (fun _ _ _ h => h) (Or.inl ⟨?hwb29, ?hyb29⟩) hHeld ?restb29
                    case hib29 => simp only [List.getElem?_toArray, List.getElem?_cons_succ, List.getElem?_cons_zero]; exact rfl
                    case hwb29 => rfl
                    case hyb29 => (intro w hSw; (try dsimp only at hSw); go_simp) <;> with_reducible rfl
                    simp only [Act.put, List.setIfInBounds_toArray, List.set_cons_zero, List.set_cons_succ]
                    refine wpAnyH_take (i := 30) (oi := ?oib30) (v := ?vb30) ?hib30 (by kernel_rfl) (by kernel_rfl) (by kernel_rfl) (fun _ _ _ h => h) (Or.inl ⟨?hwb30, ?hyb30⟩) hHeld ?restb30
                    case hib30 => simp only [List.getElem?_toArray, List.getElem?_cons_succ, List.getElem?_cons_zero]; exact rfl
                    case hwb30 => rfl
                    case hyb30 => (intro w hSw; (try dsimp only at hSw); go_simp) <;> with_reducible rfl
                    simp only [Act.put, List.setIfInBounds_toArray, List.set_cons_zero, List.set_cons_succ]
                    refine wpAnyH_take (i := 31) (oi := ?oib31) (v := ?vb31) ?hib31 (by kernel_rfl) (by kernel_rfl) (by kernel_rfl) (fun _ _ _ h => h) (Or.inl ⟨?hwb31, ?hyb31⟩) hHeld ?restb31
                    case hib31 => simp only [List.getElem?_toArray, List.getElem?_cons_succ, List.getElem?_cons_zero]; exact rfl
                    case hwb31 => rfl
                    case hyb31 => (intro w hSw; (try dsimp only at hSw); go_simp) <;> with_reducible rfl
                    simp only [Act.put, List.setIfInBounds_toArray, List.set_cons_zero, List.set_cons_succ]
                    refine wpAnyH_take (i := 32) (oi := ?oib32) (v := ?vb32) ?hib32 (by kernel_rfl) (by kernel_rfl) (by kernel_rfl) (fun _ _ _ h => h) (Or.inl ⟨?hwb32, ?hyb32⟩) hHeld ?restb32
                    case hib32 => simp only [List.getElem?_toArray, List.getElem?_cons_succ, List.getElem?_cons_zero]; exact rfl
                    case hwb32 => rfl
                    case hyb32 => (intro w hSw; (try dsimp only at hSw); go_simp) <;> with_reducible rfl
                    simp only [Act.put, List.setIfInBounds_toArray, List.set_cons_zero, List.set_cons_succ]
                    refine wpAnyH_take (i := 33) (oi := ?oib33) (v := ?vb33) ?hib33 (by kernel_rfl) (by kernel_rfl) (by kernel_rfl) (fun _ _ _ h => h) (Or.inl ⟨?hwb33, ?hyb33⟩) hHeld ?restb33
                    case hib33 => simp only [List.getElem?_toArray, List.getElem?_cons_succ, List.getElem?_cons_zero]; exact rfl
                    case hwb33 => rfl
                    case hyb33 => (intro w hSw; (try dsimp only at hSw); go_simp) <;> with_reducible rfl
                    simp only [Act.put, List.setIfInBounds_toArray, List.set_cons_zero, List.set_cons_succ]
                    refine wpAnyH_take (i := 34) (oi := ?oib34) (v := ?vb34) ?hib34 (by kernel_rfl) (by kernel_rfl) (by kernel_rfl) (fun _ _ _ h => h) (Or.inl ⟨?hwb34, ?hyb34⟩) hHeld ?restb34
                    case hib34 => simp only [List.getElem?_toArray, List.getElem?_cons_succ, List.getElem?_cons_zero]; exact rfl
                    case hwb34 => rfl
                    case hyb34 => (intro w hSw; (try dsimp only at hSw); go_simp) <;> with_reducible rfl
                    simp only [Act.put, List.setIfInBounds_toArray, List.set_cons_zero, List.set_cons_succ]
                    refine wpAnyH_take (i := 35) (oi := ?oib35) (v := ?vb35) ?hib35 (by kernel_rfl) (by kernel_rfl) (by kernel_rfl) (fun _ _ _ h => h) (Or.inl ⟨?hwb35, ?hyb35⟩) hHeld ?restb35
                    case hib35 => simp only [List.getElem?_toArray, List.getElem?_cons_succ, List.getElem?_cons_zero]; exact rfl
                    case hwb35 => rfl
                    case hyb35 => (intro w hSw; (try dsimp only at hSw); go_simp) <;> with_reducible rfl
                    simp only [Act.put, List.setIfInBounds_toArray, List.set_cons_zero, List.set_cons_succ]
                    refine wpAnyH_take (i := 36) (oi := ?oib36) (v := ?vb36) ?hib36 (by kernel_rfl) (by kernel_rfl) (by kernel_rfl) (fun _ _ _ h => h) (Or.inl ⟨?hwb36, ?hyb36⟩) hHeld ?restb36
                    case hib36 => simp only [List.getElem?_toArray, List.getElem?_cons_succ, List.getElem?_cons_zero]; exact rfl
                    case hwb36 => rfl
                    case hyb36 => (intro w hSw; (try dsimp only at hSw); go_simp) <;> with_reducible rfl
                    simp only [Act.put, List.setIfInBounds_toArray, List.set_cons_zero, List.set_cons_succ]
                    refine wpAnyH_take (i := 37) (oi := ?oib37) (v := ?vb37) ?hib37 (by kernel_rfl) (by kernel_rfl) (by kernel_rfl) (fun _ _ _ h => h) (Or.inl ⟨?hwb37, ?hyb37⟩) hHeld ?restb37
                    case hib37 => simp only [List.getElem?_toArray, List.getElem?_cons_succ, List.getElem?_cons_zero]; exact rfl
                    case hwb37 => rfl
                    case hyb37 => (intro w hSw; (try dsimp only at hSw); go_simp) <;> with_reducible rfl
                    simp only [Act.put, List.setIfInBounds_toArray, List.set_cons_zero, List.set_cons_succ]
                    refine wpAnyH_take (i := 40) (oi := ?oib40) (v := ?vb40) ?hib40 (by kernel_rfl) (by kernel_rfl) (by kernel_rfl) (fun _ _ _ h => h) (Or.inl ⟨?hwb40, ?hyb40⟩) hHeld ?restb40
                    case hib40 => simp only [List.getElem?_toArray, List.getElem?_cons_succ, List.getElem?_cons_zero]; exact rfl
                    case hwb40 => rfl
                    case hyb40 => (intro w hSw; (try dsimp only at hSw); go_simp) <;> with_reducible rfl
                    simp only [Act.put, List.setIfInBounds_toArray, List.set_cons_zero, List.set_cons_succ]
                    refine wpAnyH_ready (rs := [38]) (by kernel_rfl) (by simp) (AllReadyH.cons (o := ?oib38) ?hib38 (fun K hK => ?_) AllReadyH.nil)
                    case hib38 => simp only [List.getElem?_toArray, List.getElem?_cons_succ, List.getElem?_cons_zero]; exact rfl
                    go_simp
                    (go_at_call 12; refine (bytes_ok b k S _ HD.out.rel.at_ hn1 HSB.out).mono ?_; rintro e w7 ⟨rfl, hg7, hb7⟩; replace hb7 : BytAt w7 w5.heap.size S := hb7; have ht7 := HT1.out _ _ 256 hb7; have hS7 := HK.out w7 hg7)
                    refine hK.out _ _ hS7 (fun hHeld => ?_)
                    clear hK K
                    try simp only [Act.put, List.setIfInBounds_toArray, List.set_cons_zero, List.set_cons_succ]
                    refine wpAnyH_mono (S1 := fun W => W.cell? ⟨A, 1, none⟩ = some (.int .i64 N) ∧ W.cell? ⟨g + 1, 0, none⟩ = some (.slice (some ⟨g, 0, none⟩) k.toNat k.toNat) ∧ W.cell? ⟨g, N.toNat, none⟩ = some (.bool false)) (S2 := fun W => (W.cell? ⟨A, 1, none⟩ = some (.int .i64 N) ∧ W.cell? ⟨g + 1, 0, none⟩ = some (.slice (some ⟨g, 0, none⟩) k.toNat k.toNat) ∧ W.cell? ⟨g, N.toNat, none⟩ = some (.bool false)) ∧ (convert 40 9 (.slice (some ⟨w5.heap.size, 0, none⟩) 256 256)).run Tryd.prog W = .ok (.string Tx) W) (fun _ h => h.1) _ _ _ _ ?_
                    replace hHeld := And.intro hHeld ht7
                    refine wpAnyH_take (i := 39) (oi := ?oib39) (v := ?vb39) ?hib39 (by kernel_rfl) (by kernel_rfl) (by kernel_rfl) (fun _ _ _ h => h) (Or.inl ⟨?hwb39, ?hyb39⟩) hHeld ?restb39
                    case hib39 => simp only [List.getElem?_toArray, List.getElem?_cons_succ, List.getElem?_cons_zero]; exact rfl
                    case hwb39 => rfl
                    case hyb39 => (intro w hSw; (try dsimp only at hSw); go_simp) <;> with_reducible rfl
                    simp only [Act.put, List.setIfInBounds_toArray, List.set_cons_zero, List.set_cons_succ]
                    refine wpAnyH_ready (rs := [41]) (by kernel_rfl) (by simp) (AllReadyH.cons (o := ?oib41) ?hib41 (fun K hK => ?_) AllReadyH.nil)
                    case hib41 => simp only [List.getElem?_toArray, List.getElem?_cons_succ, List.getElem?_cons_zero]; exact rfl
                    go_simp
                    (go_at_call 20; refine (rbytes_ok _ _ _ _ _ (HD.out.look hg7).rel.ref (by omega) HD.out.small).mono ?_; rintro e w8 ⟨rfl, hg8, hb8⟩; have ht8 := HT1.out _ _ 256 hb8; have ht7 := HT1.out _ _ 256 (hb7.grown hg8 (by simp)); have hS8 := HK.out w8 (grown_trans hg7 hg8))
                    refine hK.out _ _ ⟨hS8, ht7⟩ (fun hHeld => ?_)
                    clear hK K
                    try simp only [Act.put, List.setIfInBounds_toArray, List.set_cons_zero, List.set_cons_succ]
                    refine wpAnyH_mono (S2 := fun W => ((W.cell? ⟨A, 1, none⟩ = some (.int .i64 N) ∧ W.cell? ⟨g + 1, 0, none⟩ = some (.slice (some ⟨g, 0, none⟩) k.toNat k.toNat) ∧ W.cell? ⟨g, N.toNat, none⟩ = some (.bool false)) ∧ (convert 40 9 (.slice (some ⟨w5.heap.size, 0, none⟩) 256 256)).run Tryd.prog W = .ok (.string Tx) W) ∧ (convert 40 9 (.slice (some ⟨w7.heap.size, 0, none⟩) 256 256)).run Tryd.prog W = .ok (.string Tx) W) (fun _ h => h.1) _ _ _ _ ?_
                    replace hHeld := And.intro hHeld ht8
                    refine wpAnyH_take (i := 42) (oi := ?oib42) (v := ?vb42) ?hib42 (by kernel_rfl) (by kernel_rfl) (by kernel_rfl) (fun _ _ _ h => h) (Or.inl ⟨?hwb42, ?hyb42⟩) hHeld ?restb42
                    case hib42 => simp only [List.getElem?_toArray, List.getElem?_cons_succ, List.getElem?_cons_zero]; exact rfl
                    case hwb42 => rfl
                    case hyb42 => (intro w hSw; (try dsimp only at hSw); go_simp) <;> with_reducible rfl
                    simp only [Act.put, List.setIfInBounds_toArray, List.set_cons_zero, List.set_cons_succ]
                    refine wpAnyH_take (i := 43) (oi := ?oib43) (v := ?vb43) ?hib43 (by kernel_rfl) (by kernel_rfl) (by kernel_rfl) (fun _ _ _ h => h) (Or.inl ⟨?hwb43, ?hyb43⟩) hHeld ?restb43
                    case hib43 => simp only [List.getElem?_toArray, List.getElem?_cons_succ, List.getElem?_cons_zero]; exact rfl
                    case hwb43 => rfl
                    case hyb43 => (intro w hSw; (try dsimp only at hSw); go_simp) <;> with_reducible rfl
                    simp only [Act.put, List.setIfInBounds_toArray, List.set_cons_zero, List.set_cons_succ]
                    refine wpAnyH_take (i := 44) (oi := ?oib44) (v := ?vb44) ?hib44 (by kernel_rfl) (by kernel_rfl) (by kernel_rfl) (fun _ _ _ h => h) (Or.inl ⟨?hwb44, ?hyb44⟩) hHeld ?restb44
                    case hib44 => simp only [List.getElem?_toArray, List.getElem?_cons_succ, List.getElem?_cons_zero]; exact rfl
                    case hwb44 => rfl
                    case hyb44 => (intro w hSw; (try dsimp only at hSw); go_simp) <;> with_reducible rfl
                    simp only [Act.put, List.setIfInBounds_toArray, List.set_cons_zero, List.set_cons_succ]
                    refine wpAnyH_done (by kernel_rfl) ?_ _
                    refine NoPanic.normal ?_
                    all_goals
                      have HX := Lib.hid ((HD.out.look hg7).look hg8)
                      clear hg7 hg8 hb7 hb8
                      go_wp2_with fail
                      exact ⟨⟨i + 1, by omega, by omega, rfl, b, S, rfl, HX.out.rel, HX.out.small⟩, by simp [intOf]; omega⟩
                · as_aux_lemma =>
                  have HH := Lib.hid (has_arg b k N S w5.drew HD.out.rel.at_ hn1 (.inr (by omega)))
                  have HK : Hid (∀ W, w5.drew.grownBy W none → W.cell? ⟨A, 1, none⟩ = some (.int .i64 N)) := Lib.hid fun W hW => (HD.out.look hW).act.n
                  have hS5 := HK.out w5.drew (grown_refl _ none)
                  refine wp_region_noPanic ?_
                  refine wp_region_held_drew (S := fun W => W.cell? ⟨A, 1, none⟩ = some (.int .i64 N)) (by kernel_rfl) hS5 (fun hHeld => ?_)
                  refine wpAnyH_take (i := 0) (oi := ?oic0) (v := ?vc0) ?hic0 (by kernel_rfl) (by kernel_rfl) (by kernel_rfl) (fun _ _ _ h => h) (Or.inl ⟨?hwc0, ?hyc0⟩) hHeld ?restc0
                  case hic0 => simp only [List.getElem?_toArray, List.getElem?_cons_zero]; exact rfl
                  case hwc0 => rfl
                  case hyc0 => (intro w hSw; (try dsimp only at hSw); go_simp) <;> with_reducible rfl
                  simp only [Act.put, List.setIfInBounds_toArray, List.set_cons_zero, List.set_cons_succ]
                  refine wpAnyH_take (i := 1) (oi := ?oic1) (v := ?vc1) ?hic1 (by kernel_rfl) (by kernel_rfl) (by kernel_rfl) (fun _ _ _ h => h) (Or.inl ⟨?hwc1, ?hyc1⟩) hHeld ?restc1
                  case hic1 => simp only [List.getElem?_toArray, List.getElem?_cons_succ, List.getElem?_cons_zero]; exact rfl
                  case hwc1 => rfl
                  case hyc1 => (intro w hSw; (try dsimp only at hSw); go_simp) <;> with_reducible rfl
                  simp only [Act.put, List.setIfInBounds_toArray, List.set_cons_zero, List.set_cons_succ]
                  refine wpAnyH_take (i := 2) (oi := ?oic2) (v := ?vc2) ?hic2 (by kernel_rfl) (by kernel_rfl) (by kernel_rfl) (fun _ _ _ h => h) (Or.inl ⟨?hwc2, ?hyc2⟩) hHeld ?restc2
                  case hic2 => simp only [List.getElem?_toArray, List.getElem?_cons_succ, List.getElem?_cons_zero]; exact rfl
                  case hwc2 => rfl
                  case hyc2 => (intro w hSw; (try dsimp only at hSw); go_simp) <;> with_reducible rfl
                  simp only [Act.put, List.setIfInBounds_toArray, List.set_cons_zero, List.set_cons_succ]
                  refine wpAnyH_take (i := 3) (oi := ?oic3) (v := ?vc3) ?hic3 (by kernel_rfl) (by kernel_rfl) (by kernel_rfl) (fun _ _ _ h => h) (Or.inl ⟨?hwc3, ?hyc3⟩) hHeld ?restc3
                  case hic3 => simp only [List.getElem?_toArray, List.getElem?_cons_succ, List.getElem?_cons_zero]; exact rfl
                  case hwc3 => rfl
                  case hyc3 => (intro w hSw; (try dsimp only at hSw); go_simp) <;> with_reducible rfl
                  simp only [Act.put, List.setIfInBounds_toArray, List.set_cons_zero, List.set_cons_succ]
                  refine wpAnyH_take (i := 4) (oi := ?oic4) (v := ?vc4) ?hic4 (by kernel_rfl) (by kernel_rfl) (by kernel_rfl) (fun _ _ _ h => h) (Or.inl ⟨?hwc4, ?hyc4⟩) hHeld ?restc4
                  case hic4 => simp only [List.getElem?_toArray, List.getElem?_cons_succ, List.getElem?_cons_zero]; exact rfl
                  case hwc4 => rfl
                  case hyc4 => (intro w hSw; (try dsimp only at hSw); go_simp) <;> with_reducible rfl
                  simp only [Act.put, List.setIfInBounds_toArray, List.set_cons_zero, List.set_cons_succ]
                  refine wpAnyH_take (i := 5) (oi := ?oic5) (v := ?vc5) ?hic5 (by kernel_rfl) (by kernel_rfl) (by kernel_rfl) (fun _ _ _ h => h) (Or.inl ⟨?hwc5, ?hyc5⟩) hHeld ?restc5
                  case hic5 => simp only [List.getElem?_toArray, List.getElem?_cons_succ, List.getElem?_cons_zero]; exact rfl
                  case hwc5 => rfl
                  case hyc5 => (intro w hSw; (try dsimp only at hSw); go_simp) <;> with_reducible rfl
                  simp only [Act.put, List.setIfInBounds_toArray, List.set_cons_zero, List.set_cons_succ]
                  refine wpAnyH_take (i := 6) (oi := ?oic6) (v := ?vc6) ?hic6 (by kernel_rfl) (by kernel_rfl) (by kernel_rfl) (fun _ _ _ h => h) (Or.inl ⟨?hwc6, ?hyc6⟩) hHeld ?restc6
                  case hic6 => simp only [List.getElem?_toArray, List.getElem?_cons_succ, List.getElem?_cons_zero]; exact rfl
                  case hwc6 => rfl
                  case hyc6 => (intro w hSw; (try dsimp only at hSw); go_simp) <;> with_reducible rfl
                  simp only [Act.put, List.setIfInBounds_toArray, List.set_cons_zero, List.set_cons_succ]
                  refine wpAnyH_take (i := 7) (oi := ?oic7) (v := ?vc7) ?hic7 (by kernel_rfl) (by kernel_rfl) (by kernel_rfl) (fun _ _ _ h => h) (Or.inl ⟨?hwc7, ?hyc7⟩) hHeld ?restc7
                  case hic7 => simp only [List.getElem?_toArray, List.getElem?_cons_succ, List.getElem?_cons_zero]; exact rfl
                  case hwc7 => rfl
                  case hyc7 => (intro w hSw; (try dsimp only at hSw); go_simp) <;> with_reducible rfl
                  simp only [Act.put, List.setIfInBounds_toArray, List.set_cons_zero, List.set_cons_succ]
                  refine wpAnyH_take (i := 8) (oi := ?oic8) (v := ?vc8) ?hic8 (by kernel_rfl) (by kernel_rfl) (by kernel_rfl) (fun _ _ _ h => h) (Or.inl ⟨?hwc8, ?hyc8⟩) hHeld ?restc8
                  case hic8 => simp only [List.getElem?_toArray, List.getElem?_cons_succ, List.getElem?_cons_zero]; exact rfl
                  case hwc8 => rfl
                  case hyc8 => (intro w hSw; (try dsimp only at hSw); go_simp) <;> with_reducible rfl
                  simp only [Act.put, List.setIfInBounds_toArray, List.set_cons_zero, List.set_cons_succ]
                  refine wpAnyH_take (i := 9) (oi := ?oic9) (v := ?vc9) ?hic9 (by kernel_rfl) (by kernel_rfl) (by kernel_rfl) (fun _ _ _ h => h) (Or.inl ⟨?hwc9, ?hyc9⟩) hHeld ?restc9
                  case hic9 => simp only [List.getElem?_toArray, List.getElem?_cons_succ, List.getElem?_cons_zero]; exact rfl
                  case hwc9 => rfl
                  case hyc9 => (intro w hSw; (try dsimp only at hSw); go_simp) <;> with_reducible rfl
                  simp only [Act.put, List.setIfInBounds_toArray, List.set_cons_zero, List.set_cons_succ]
                  refine wpAnyH_take (i := 10) (oi := ?oic10) (v := ?vc10) ?hic10 (by kernel_rfl) (by kernel_rfl) (by kernel_rfl) (fun _ _ _ h => h) (Or.inl ⟨?hwc10, ?hyc10⟩) hHeld ?restc10
                  case hic10 => simp only [List.getElem?_toArray, List.getElem?_cons_succ, List.getElem?_cons_zero]; exact rfl
                  case hwc10 => rfl
                  case hyc10 => (intro w hSw; (try dsimp only at hSw); go_simp) <;> with_reducible rfl
                  simp only [Act.put, List.setIfInBounds_toArray, List.set_cons_zero, List.set_cons_succ]
                  refine wpAnyH_take (i := 11) (oi := ?oic11) (v := ?vc11) ?hic11 (by kernel_rfl) (by kernel_rfl) (by kernel_rfl) (fun _ _ _ h => h) (Or.inl ⟨?hwc11, ?hyc11⟩) hHeld ?restc11
                  case hic11 => simp only [List.getElem?_toArray, List.getElem?_cons_succ, List.getElem?_cons_zero]; exact rfl
                  case hwc11 => rfl
                  case hyc11 => (intro w hSw; (try dsimp only at hSw); go_simp) <;> with_reducible rfl
                  simp only [Act.put, List.setIfInBounds_toArray, List.set_cons_zero, List.set_cons_succ]
                  refine wpAnyH_take (i := 12) (oi := ?oic12) (v := ?vc12) ?hic12 (by kernel_rfl) (by kernel_rfl) (by kernel_rfl) (fun _ _ _ h => h) (Or.inl ⟨?hwc12, ?hyc12⟩) hHeld ?restc12
                  case hic12 => simp only [List.getElem?_toArray, List.getElem?_cons_succ, List.getElem?_cons_zero]; exact rfl
                  case hwc12 => rfl
                  case hyc12 => (intro w hSw; (try dsimp only at hSw); go_simp) <;> with_reducible rfl
                  simp only [Act.put, List.setIfInBounds_toArray, List.set_cons_zero, List.set_cons_succ]
                  refine wpAnyH_take (i := 13) (oi := ?oic13) (v := ?vc13) ?hic13 (by kernel_rfl) (by kernel_rfl) (by kernel_rfl) (fun _ _ _ h => h) (Or.inl ⟨?hwc13, ?hyc13⟩) hHeld ?restc13
                  case hic13 => simp only [List.getElem?_toArray, List.getElem?_cons_succ, List.getElem?_cons_zero]; exact rfl
                  case hwc13 => rfl
                  case hyc13 => (intro w hSw; (try dsimp only at hSw); go_simp) <;> with_reducible rfl
                  simp only [Act.put, List.setIfInBounds_toArray, List.set_cons_zero, List.set_cons_succ]
                  refine wpAnyH_take (i := 15) (oi := ?oic15) (v := ?vc15) ?hic15 (by kernel_rfl) (by kernel_rfl) (by kernel_rfl) (fun _ _ _ h => h) (Or.inl ⟨?hwc15, ?hyc15⟩) hHeld ?restc15
                  case hic15 => simp only [List.getElem?_toArray, List.getElem?_cons_succ, List.getElem?_cons_zero]; exact rfl
                  case hwc15 => rfl
                  case hyc15 => (intro w hSw; (try dsimp only at hSw); go_simp) <;> with_reducible rfl
                  simp only [Act.put, List.setIfInBounds_toArray, List.set_cons_zero, List.set_cons_succ]
                  refine wpAnyH_take (i := 16) (oi := ?oic16) (v := ?vc16) ?hic16 (by kernel_rfl) (by kernel_rfl) (by kernel_rfl) (fun _ _ _ h => h) (Or.inl ⟨?hwc16, ?hyc16⟩) hHeld ?restc16
                  case hic16 => simp only [List.getElem?_toArray, List.getElem?_cons_succ, List.getElem?_cons_zero]; exact rfl
                  case hwc16 => rfl
                  case hyc16 => (intro w hSw; (try dsimp only at hSw); go_simp) <;> with_reducible rfl
                  simp only [Act.put, List.setIfInBounds_toArray, List.set_cons_zero, List.set_cons_succ]
                  refine wpAnyH_take (i := 17) (oi := ?oic17) (v := ?vc17) ?hic17 (by kernel_rfl) (by kernel_rfl) (by kernel_rfl) (fun _ _ _ h => h) (Or.inl ⟨?hwc17, ?hyc17⟩) hHeld ?restc17
                  case hic17 => simp only [List.getElem?_toArray, List.getElem?_cons_succ, List.getElem?_cons_zero]; exact rfl
                  case hwc17 => rfl
                  case hyc17 => (intro w hSw; (try dsimp only at hSw); go_simp) <;> with_reducible rfl
                  simp only [Act.put, List.setIfInBounds_toArray, List.set_cons_zero, List.set_cons_succ]
                  refine wpAnyH_ready (rs := [14]) (by kernel_rfl) (by simp) (AllReadyH.cons (o := ?oic14) ?hic14 (fun K hK => ?_) AllReadyH.nil)
                  case hic14 => simp only [List.getElem?_toArray, List.getElem?_cons_succ, List.getElem?_cons_zero]; exact rfl
                  go_simp
                  (go_at_call 11; refine HH.out.mono ?_; rintro e w6 ⟨rfl, rfl⟩)
                  refine hK.out _ _ hS5 (fun hHeld => ?_)
                  clear hK K
                  try simp only [Act.put, List.setIfInBounds_toArray, List.set_cons_zero, List.set_cons_succ]
                  refine wpAnyH_take (i := 18) (oi := ?oic18) (v := ?vc18) ?hic18 (by kernel_rfl) (by kernel_rfl) (by kernel_rfl) (fun _ _ _ h => h) (Or.inl ⟨?hwc18, ?hyc18⟩) hHeld ?restc18
                  case hic18 => simp only [List.getElem?_toArray, List.getElem?_cons_succ, List.getElem?_cons_zero]; exact rfl
                  case hwc18 => rfl
                  case hyc18 => (intro w hSw; (try dsimp only at hSw); go_simp) <;> with_reducible rfl
                  simp only [Act.put, List.setIfInBounds_toArray, List.set_cons_zero, List.set_cons_succ]
                  refine wpAnyH_take (i := 19) (oi := ?oic19) (v := ?vc19) ?hic19 (by kernel_rfl) (by kernel_rfl) (by kernel_rfl) (fun _ _ _ h => h) (Or.inl ⟨?hwc19, ?hyc19⟩) hHeld ?restc19
                  case hic19 => simp only [List.getElem?_toArray, List.getElem?_cons_succ, List.getElem?_cons_zero]; exact rfl
                  case hwc19 => rfl
                  case hyc19 => (intro w hSw; (try dsimp only at hSw); go_simp) <;> with_reducible rfl
                  simp only [Act.put, List.setIfInBounds_toArray, List.set_cons_zero, List.set_cons_succ]
                  refine wpAnyH_take (i := 20) (oi := ?oic20) (v := ?vc20) ?hic20 (by kernel_rfl) (by kernel_rfl) (by kernel_rfl) (fun _ _ _ h => h) (Or.inl ⟨?hwc20, ?hyc20⟩) hHeld ?restc20
                  case hic20 => simp only [List.getElem?_toArray, List.getElem?_cons_succ, List.getElem?_cons_zero]; exact rfl
                  case hwc20 => rfl
                  case hyc20 => (intro w hSw; (try dsimp only at hSw); go_simp) <;> with_reducible rfl
                  simp only [Act.put, List.setIfInBounds_toArray, List.set_cons_zero, List.set_cons_succ]
                  refine wpAnyH_take (i := 21) (oi := ?oic21) (v := ?vc21) ?hic21 (by kernel_rfl) (by kernel_rfl) (by kernel_rfl) (fun _ _ _ h => h) (Or.inl ⟨?hwc21, ?hyc21⟩) hHeld ?restc21
                  case hic21 => simp only [List.getElem?_toArray, List.getElem?_cons_succ, List.getElem?_cons_zero]; exact rfl
                  case hwc21 => rfl
                  case hyc21 => (intro w hSw; (try dsimp only at hSw); go_simp) <;> with_reducible rfl
                  simp only [Act.put, List.setIfInBounds_toArray, List.set_cons_zero, List.set_cons_succ]
                  refine wpAnyH_take (i := 22) (oi := ?oic22) (v := ?vc22) ?hic22 (by kernel_rfl) (by kernel_rfl) (by kernel_rfl) (fun _ _ _ h => h) (Or.inl ⟨?hwc22, ?hyc22⟩) hHeld ?restc22
                  case hic22 => simp only [List.getElem?_toArray, List.getElem?_cons_succ, List.getElem?_cons_zero]; exact rfl
                  case hwc22 => rfl
                  case hyc22 => (intro w hSw; (try dsimp only at hSw); go_simp) <;> with_reducible rfl
                  simp only [Act.put, List.setIfInBounds_toArray, List.set_cons_zero, List.set_cons_succ]
                  refine wpAnyH_take (i := 23) (oi := ?oic23) (v := ?vc23) ?hic23 (by kernel_rfl) (by kernel_rfl) (by kernel_rfl) (fun _ _ _ h => h) (Or.inl ⟨?hwc23, ?hyc23⟩) hHeld ?restc23
                  case hic23 => simp only [List.getElem?_toArray, List.getElem?_cons_succ, List.getElem?_cons_zero]; exact rfl
                  case hwc23 => rfl
                  case hyc23 => (intro w hSw; (try dsimp only at hSw); go_simp) <;> with_reducible rfl
                  simp only [Act.put, List.setIfInBounds_toArray, List.set_cons_zero, List.set_cons_succ]
                  refine wpAnyH_take (i := 24) (oi := ?oic24) (v := ?vc24) ?hic24 (by kernel_rfl) (by kernel_rfl) (by kernel_rfl) (fun _ _ _ h => h) (Or.inl ⟨?hwc24, ?hyc24⟩) hHeld ?restc24
                  case hic24 => simp only [List.getElem?_toArray, List.getElem?_cons_succ, List.getElem?_cons_zero]; exact rfl
                  case hwc24 => rfl
                  case hyc24 => (intro w hSw; (try dsimp only at hSw); go_simp) <;> with_reducible rfl
                  simp only [Act.put, List.setIfInBounds_toArray, List.set_cons_zero, List.set_cons_succ]
                  refine wpAnyH_take (i := 25) (oi := ?oic25) (v := undef) ?hic25 (by kernel_rfl) (by kernel_rfl) (by kernel_rfl) (fun _ _ _ h => h) (Or.inr ⟨?hwc25, rfl⟩) hHeld ?restc25
                  case hic25 => simp only [List.getElem?_toArray, List.getElem?_cons_succ, List.getElem?_cons_zero]; exact rfl
                  case hwc25 => rfl
                  simp only [Act.put, List.setIfInBounds_toArray, List.set_cons_zero, List.set_cons_succ]
                  refine wpAnyH_take (i := 26) (oi := ?oic26) (v := undef) ?hic26 (by kernel_rfl) (by kernel_rfl) (by kernel_rfl) (fun _ _ _ h => h) (Or.inr ⟨?hwc26, rfl⟩) hHeld ?restc26
                  case hic26 => simp only [List.getElem?_toArray, List.getElem?_cons_succ, List.getElem?_cons_zero]; exact rfl
                  case hwc26 => rfl
                  simp only [Act.put, List.setIfInBounds_toArray, List.set_cons_zero, List.set_cons_succ]
                  refine wpAnyH_take (i := 27) (oi := ?oic27) (v := undef) ?hic27 (by kernel_rfl) (by kernel_rfl) (by kernel_rfl) (fun _ _ _ h => h) (Or.inr ⟨?hwc27, rfl⟩) hHeld ?restc27
                  case hic27 => simp only [List.getElem?_toArray, List.getElem?_cons_succ, List.getElem?_cons_zero]; exact rfl
                  case hwc27 => rfl
                  simp only [Act.put, List.setIfInBounds_toArray, List.set_cons_zero, List.set_cons_succ]
                  refine wpAnyH_take (i := 28) (oi := ?oic28) (v := undef) ?hic28 (by kernel_rfl) (by kernel_rfl) (by kernel_rfl) (fun _ _ _ h => h) (Or.inr ⟨?hwc28, rfl⟩) hHeld ?restc28
                  case hic28 => simp only [List.getElem?_toArray, List.getElem?_cons_succ, List.getElem?_cons_zero]; exact rfl
                  case hwc28 => rfl
                  simp only [Act.put, List.setIfInBounds_toArray, List.set_cons_zero, List.set_cons_succ]
                  refine wpAnyH_take (i := 29) (oi := ?oic29) (v := undef) ?hic29 (by kernel_rfl) (by kernel_rfl) (by kernel_rfl) (fun _ _ _ h => h) (Or.inr ⟨?hwc29, rfl⟩) hHeld ?restc29
                  case hic29 => simp only [List.getElem?_toArray, List.getElem?_cons_succ, List.getElem?_cons_zero]; exact rfl
                  case hwc29 => rfl
                  simp only [Act.put, List.setIfInBounds_toArray, List.set_cons_zero, List.set_cons_succ]
                  refine wpAnyH_take (i := 30) (oi := ?oic30) (v := undef) ?hic30 (by kernel_rfl) (by kernel_rfl) (by kernel_rfl) (fun _ _ _ h => h) (Or.inr ⟨?hwc30, rfl⟩) hHeld ?restc30
                  case hic30 => simp only [List.getElem?_toArray, List.getElem?_cons_succ, List.getElem?_cons_zero]; exact rfl
                  case hwc30 => rfl
                  simp only [Act.put, List.setIfInBounds_toArray, List.set_cons_zero, List.set_cons_succ]
                  refine wpAnyH_take (i := 31) (oi := ?oic31) (v := undef) ?hic31 (by kernel_rfl) (by kernel_rfl) (by kernel_rfl) (fun _ _ _ h => h) (Or.inr ⟨?hwc31, rfl⟩) hHeld ?restc31
                  case hic31 => simp only [List.getElem?_toArray, List.getElem?_cons_succ, List.getElem?_cons_zero]; exact rfl
                  case hwc31 => rfl
                  simp only [Act.put, List.setIfInBounds_toArray, List.set_cons_zero, List.set_cons_succ]
                  refine wpAnyH_take (i := 32) (oi := ?oic32) (v := undef) ?hic32 (by kernel_rfl) (by kernel_rfl) (by kernel_rfl) (fun _ _ _ h => h) (Or.inr ⟨?hwc32, rfl⟩) hHeld ?restc32
                  case hic32 => simp only [List.getElem?_toArray, List.getElem?_cons_succ, List.getElem?_cons_zero]; exact rfl
                  case hwc32 => rfl
                  simp only [Act.put, List.setIfInBounds_toArray, List.set_cons_zero, List.set_cons_succ]
                  refine wpAnyH_take (i := 33) (oi := ?oic33) (v := ?vc33) ?hic33 (by kernel_rfl) (by kernel_rfl) (by kernel_rfl) (fun _ _ _ h => h) (Or.inl ⟨?hwc33, ?hyc33⟩) hHeld ?restc33
                  case hic33 => simp only [List.getElem?_toArray, List.getElem?_cons_succ, List.getElem?_cons_zero]; exact rfl
                  case hwc33 => rfl
                  case hyc33 => (intro w hSw; (try dsimp only at hSw); go_simp) <;> with_reducible rfl
                  simp only [Act.put, List.setIfInBounds_toArray, List.set_cons_zero, List.set_cons_succ]
                  refine wpAnyH_take (i := 34) (oi := ?oic34) (v := ?vc34) ?hic34 (by kernel_rfl) (by kernel_rfl) (by kernel_rfl) (fun _ _ _ h => h) (Or.inl ⟨?hwc34, ?hyc34⟩) hHeld ?restc34
                  case hic34 => simp only [List.getElem?_toArray, List.getElem?_cons_succ, List.getElem?_cons_zero]; exact rfl
                  case hwc34 => rfl
                  case hyc34 => (intro w hSw; (try dsimp only at hSw); go_simp) <;> with_reducible rfl
                  simp only [Act.put, List.setIfInBounds_toArray, List.set_cons_zero, List.set_cons_succ]
                  refine wpAnyH_take (i := 35) (oi := ?oic35) (v := ?vc35) ?hic35 (by kernel_rfl) (by kernel_rfl) (by kernel_rfl) (fun _ _ _ h => h) (Or.inl ⟨?hwc35, ?hyc35⟩) hHeld ?restc35
                  case hic35 => simp only [List.getElem?_toArray, List.getElem?_cons_succ, List.getElem?_cons_zero]; exact rfl
                  case hwc35 => rfl
                  case hyc35 => (intro w hSw; (try dsimp only at hSw); go_simp) <;> with_reducible rfl
                  simp only [Act.put, List.setIfInBounds_toArray, List.set_cons_zero, List.set_cons_succ]
                  refine wpAnyH_take (i := 36) (oi := ?oic36) (v := ?vc36) ?hic36 (by kernel_rfl) (by kernel_rfl) (by kernel_rfl) (fun _ _ _ h => h) (Or.inl ⟨?hwc36, ?hyc36⟩) hHeld ?restc36
                  case hic36 => simp only [List.getElem?_toArray, List.getElem?_cons_succ, List.getElem?_cons_zero]; exact rfl
                  case hwc36 => rfl
                  case hyc36 => (intro w hSw; (try dsimp only at hSw); go_simp) <;> with_reducible rfl
                  simp only [Act.put, List.setIfInBounds_toArray, List.set_cons_zero, List.set_cons_succ]
                  refine wpAnyH_take (i := 37) (oi := ?oic37) (v := ?vc37) ?hic37 (by kernel_rfl) (by kernel_rfl) (by kernel_rfl) (fun _ _ _ h => h) (Or.inl ⟨?hwc37, ?hyc37⟩) hHeld ?restc37
                  case hic37 => simp only [List.getElem?_toArray, List.getElem?_cons_succ, List.getElem?_cons_zero]; exact rfl
                  case hwc37 => rfl
                  case hyc37 => (intro w hSw; (try dsimp only at hSw); go_simp) <;> with_reducible rfl
                  simp only [Act.put, List.setIfInBounds_toArray, List.set_cons_zero, List.set_cons_succ]
                  refine wpAnyH_take (i := 40) (oi := ?oic40) (v := ?vc40) ?hic40 (by kernel_rfl) (by kernel_rfl) (by kernel_rfl) (fun _ _ _ h => h) (Or.inl ⟨?hwc40, ?hyc40⟩) hHeld ?restc40
                  case hic40 => simp only [List.getElem?_toArray, List.getElem?_cons_succ, List.getElem?_cons_zero]; exact rfl
                  case hwc40 => rfl
                  case hyc40 => (intro w hSw; (try dsimp only at hSw); go_simp) <;> with_reducible rfl
                  simp only [Act.put, List.setIfInBounds_toArray, List.set_cons_zero, List.set_cons_succ]
                  refine wpAnyH_ready (rs := [38]) (by kernel_rfl) (by simp) (AllReadyH.cons (o := ?oic38) ?hic38 (fun K hK => ?_) AllReadyH.nil)
                  case hic38 => simp only [List.getElem?_toArray, List.getElem?_cons_succ, List.getElem?_cons_zero]; exact rfl
                  go_simp
                  (go_at_call 12; refine (bytes_ok b k S _ HD.out.rel.at_ hn1 HSB.out).mono ?_; rintro e w7 ⟨rfl, hg7, hb7⟩; replace hb7 : BytAt w7 w5.heap.size S := hb7; have ht7 := HT1.out _ _ 256 hb7; have hS7 := HK.out w7 hg7)
                  refine hK.out _ _ hS7 (fun hHeld => ?_)
                  clear hK K
                  try simp only [Act.put, List.setIfInBounds_toArray, List.set_cons_zero, List.set_cons_succ]
                  refine wpAnyH_mono (S1 := fun W => W.cell? ⟨A, 1, none⟩ = some (.int .i64 N)) (S2 := fun W => (W.cell? ⟨A, 1, none⟩ = some (.int .i64 N)) ∧ (convert 40 9 (.slice (some ⟨w5.heap.size, 0, none⟩) 256 256)).run Tryd.prog W = .ok (.string Tx) W) (fun _ h => h.1) _ _ _ _ ?_
                  replace hHeld := And.intro hHeld ht7
                  refine wpAnyH_take (i := 39) (oi := ?oic39) (v := ?vc39) ?hic39 (by kernel_rfl) (by kernel_rfl) (by kernel_rfl) (fun _ _ _ h => h) (Or.inl ⟨?hwc39, ?hyc39⟩) hHeld ?restc39
                  case hic39 => simp only [List.getElem?_toArray, List.getElem?_cons_succ, List.getElem?_cons_zero]; exact rfl
                  case hwc39 => rfl
                  case hyc39 => (intro w hSw; (try dsimp only at hSw); go_simp) <;> with_reducible rfl
                  simp only [Act.put, List.setIfInBounds_toArray, List.set_cons_zero, List.set_cons_succ]
                  refine wpAnyH_ready (rs := [41]) (by kernel_rfl) (by simp) (AllReadyH.cons (o := ?oic41) ?hic41 (fun K hK => ?_) AllReadyH.nil)
                  case hic41 => simp only [List.getElem?_toArray, List.getElem?_cons_succ, List.getElem?_cons_zero]; exact rfl
                  go_simp
                  (go_at_call 20; refine (rbytes_ok _ _ _ _ _ (HD.out.look hg7).rel.ref (by omega) HD.out.small).mono ?_; rintro e w8 ⟨rfl, hg8, hb8⟩; have ht8 := HT1.out _ _ 256 hb8; have ht7 := HT1.out _ _ 256 (hb7.grown hg8 (by simp)); have hS8 := HK.out w8 (grown_trans hg7 hg8))
                  refine hK.out _ _ ⟨hS8, ht7⟩ (fun hHeld => ?_)
                  clear hK K
                  try simp only [Act.put, List.setIfInBounds_toArray, List.set_cons_zero, List.set_cons_succ]
                  refine wpAnyH_mono (S2 := fun W => ((W.cell? ⟨A, 1, none⟩ = some (.int .i64 N)) ∧ (convert 40 9 (.slice (some ⟨w5.heap.size, 0, none⟩) 256 256)).run Tryd.prog W = .ok (.string Tx) W) ∧ (convert 40 9 (.slice (some ⟨w7.heap.size, 0, none⟩) 256 256)).run Tryd.prog W = .ok (.string Tx) W) (fun _ h => h.1) _ _ _ _ ?_
                  replace hHeld := And.intro hHeld ht8
                  refine wpAnyH_take (i := 42) (oi := ?oic42) (v := ?vc42) ?hic42 (by kernel_rfl) (by kernel_rfl) (by kernel_rfl) (fun _ _ _ h => h) (Or.inl ⟨?hwc42, ?hyc42⟩) hHeld ?restc42
                  case hic42 => simp only [List.getElem?_toArray, List.getElem?_cons_succ, List.getElem?_cons_zero]; exact rfl
                  case hwc42 => rfl
                  case hyc42 => (intro w hSw; (try dsimp only at hSw); go_simp) <;> with_reducible rfl
                  simp only [Act.put, List.setIfInBounds_toArray, List.set_cons_zero, List.set_cons_succ]
                  refine wpAnyH_take (i := 43) (oi := ?oic43) (v := ?vc43) ?hic43 (by kernel_rfl) (by kernel_rfl) (by kernel_rfl) (fun _ _ _ h => h) (Or.inl ⟨?hwc43, ?hyc43⟩) hHeld ?restc43
                  case hic43 => simp only [List.getElem?_toArray, List.getElem?_cons_succ, List.getElem?_cons_zero]; exact rfl
                  case hwc43 => rfl
                  case hyc43 => (intro w hSw; (try dsimp only at hSw); go_simp) <;> with_reducible rfl
                  simp only [Act.put, List.setIfInBounds_toArray, List.set_cons_zero, List.set_cons_succ]
                  refine wpAnyH_take (i := 44) (oi := ?oic44) (v := ?vc44) ?hic44 (by kernel_rfl) (by kernel_rfl) (by kernel_rfl) (fun _ _ _ h => h) (Or.inl ⟨?hwc44, ?hyc44⟩) hHeld ?restc44
                  case hic44 => simp only [List.getElem?_toArray, List.getElem?_cons_succ, List.getElem?_cons_zero]; exact rfl
                  case hwc44 => rfl
                  case hyc44 => (intro w hSw; (try dsimp only at hSw); go_simp) <;> with_reducible rfl
                  simp only [Act.put, List.setIfInBounds_toArray, List.set_cons_zero, List.set_cons_succ]
                  refine wpAnyH_done (by kernel_rfl) ?_ _
                  refine NoPanic.normal ?_
                  all_goals
                    have HX := Lib.hid ((HD.out.look hg7).look hg8)
                    clear hg7 hg8 hb7 hb8
                    go_wp2_with fail
                    exact ⟨⟨i + 1, by omega, by omega, rfl, b, S, rfl, HX.out.rel, HX.out.small⟩, by simp [intOf]; omega⟩
              · as_aux_lemma =>
                have HH := Lib.hid (has_arg b k N S w5.drew HD.out.rel.at_ hn1 (.inl (by omega)))
                have HK : Hid (∀ W, w5.drew.grownBy W none → W.cell? ⟨A, 1, none⟩ = some (.int .i64 N)) := Lib.hid fun W hW => (HD.out.look hW).act.n
                have hS5 := HK.out w5.drew (grown_refl _ none)
                refine wp_region_noPanic ?_
                refine wp_region_held_drew (S := fun W => W.cell? ⟨A, 1, none⟩ = some (.int .i64 N)) (by kernel_rfl) hS5 (fun hHeld => ?_)
                refine wpAnyH_take (i := 0) (oi := ?oid0) (v := ?vd0) ?hid0 (by kernel_rfl) (by kernel_rfl) (by kernel_rfl) (fun _ _ _ h => h) (Or.inl ⟨?hwd0, ?hyd0⟩) hHeld ?restd0
                case hid0 => simp only [List.getElem?_toArray, List.getElem?_cons_zero]; exact rfl
                case hwd0 => rfl
                case hyd0 => (intro w hSw; (try dsimp only at hSw); go_simp) <;> with_reducible rfl
                simp only [Act.put, List.setIfInBounds_toArray, List.set_cons_zero, List.set_cons_succ]
                refine wpAnyH_take (i := 1) (oi := ?oid1) (v := ?vd1) ?hid1 (by kernel_rfl) (by kernel_rfl) (by kernel_rfl) (fun _ _ _ h => h) (Or.inl ⟨?hwd1, ?hyd1⟩) hHeld ?restd1
                case hid1 => simp only [List.getElem?_toArray, List.getElem?_cons_succ, List.getElem?_cons_zero]; exact rfl
                case hwd1 => rfl
                case hyd1 => (intro w hSw; (try dsimp only at hSw); go_simp) <;> with_reducible rfl
                simp only [Act.put, List.setIfInBounds_toArray, List.set_cons_zero, List.set_cons_succ]
                refine wpAnyH_take (i := 2) (oi := ?oid2) (v := ?vd2) ?hid2 (by kernel_rfl) (by kernel_rfl) (by kernel_rfl) (fun _ _ _ h => h) (Or.inl ⟨?hwd2, ?hyd2⟩) hHeld ?restd2
                case hid2 => simp only [List.getElem?_toArray, List.getElem?_cons_succ, List.getElem?_cons_zero]; exact rfl
                case hwd2 => rfl
                case hyd2 => (intro w hSw; (try dsimp only at hSw); go_simp) <;> with_reducible rfl
                simp only [Act.put, List.setIfInBounds_toArray, List.set_cons_zero, List.set_cons_succ]
                refine wpAnyH_take (i := 3) (oi := ?oid3) (v := ?vd3) ?hid3 (by kernel_rfl) (by kernel_rfl) (by kernel_rfl) (fun _ _ _ h => h) (Or.inl ⟨?hwd3, ?hyd3⟩) hHeld ?restd3
                case hid3 => simp only [List.getElem?_toArray, List.getElem?_cons_succ, List.getElem?_cons_zero]; exact rfl
                case hwd3 => rfl
                case hyd3 => (intro w hSw; (try dsimp only at hSw); go_simp) <;> with_reducible rfl
                simp only [Act.put, List.setIfInBounds_toArray, List.set_cons_zero, List.set_cons_succ]
                refine wpAnyH_take (i := 4) (oi := ?oid4) (v := ?vd4) ?hid4 (by kernel_rfl) (by kernel_rfl) (by kernel_rfl) (fun _ _ _ h => h) (Or.inl ⟨?hwd4, ?hyd4⟩) hHeld ?restd4
                case hid4 => simp only [List.getElem?_toArray, List.getElem?_cons_succ, List.getElem?_cons_zero]; exact rfl
                case hwd4 => rfl
                case hyd4 => (intro w hSw; (try dsimp only at hSw); go_simp) <;> with_reducible rfl
                simp only [Act.put, List.setIfInBounds_toArray, List.set_cons_zero, List.set_cons_succ]
                refine wpAnyH_take (i := 5) (oi := ?oid5) (v := ?vd5) ?hid5 (by kernel_rfl) (by kernel_rfl) (by kernel_rfl) (fun _ _ _ h => h) (Or.inl ⟨?hwd5, ?hyd5⟩) hHeld ?restd5
                case hid5 => simp only [List.getElem?_toArray, List.getElem?_cons_succ, List.getElem?_cons_zero]; exact rfl
                case hwd5 => rfl
                case hyd5 => (intro w hSw; (try dsimp only at hSw); go_simp) <;> with_reducible rfl
                simp only [Act.put, List.setIfInBounds_toArray, List.set_cons_zero, List.set_cons_succ]
                refine wpAnyH_take (i := 6) (oi := ?oid6) (v := ?vd6) ?hid6 (by kernel_rfl) (by kernel_rfl) (by kernel_rfl) (fun _ _ _ h => h) (Or.inl ⟨?hwd6, ?hyd6⟩) hHeld ?restd6
                case hid6 => simp only [List.getElem?_toArray, List.getElem?_cons_succ, List.getElem?_cons_zero]; exact rfl
                case hwd6 => rfl
                case hyd6 => (intro w hSw; (try dsimp only at hSw); go_simp) <;> with_reducible rfl
                simp only [Act.put, List.setIfInBounds_toArray, List.set_cons_zero, List.set_cons_succ]
                refine wpAnyH_take (i := 7) (oi := ?oid7) (v := ?vd7) ?hid7 (by kernel_rfl) (by kernel_rfl) (by kernel_rfl) (fun _ _ _ h => h) (Or.inl ⟨?hwd7, ?hyd7⟩) hHeld ?restd7
                case hid7 => simp only [List.getElem?_toArray, List.getElem?_cons_succ, List.getElem?_cons_zero]; exact rfl
                case hwd7 => rfl
                case hyd7 => (intro w hSw; (try dsimp only at hSw); go_simp) <;> with_reducible rfl
                simp only [Act.put, List.setIfInBounds_toArray, List.set_cons_zero, List.set_cons_succ]
                refine wpAnyH_take (i := 8) (oi := ?oid8) (v := ?vd8) ?hid8 (by kernel_rfl) (by kernel_rfl) (by kernel_rfl) (fun _ _ _ h => h) (Or.inl ⟨?hwd8, ?hyd8⟩) hHeld ?restd8
                case hid8 => simp only [List.getElem?_toArray, List.getElem?_cons_succ, List.getElem?_cons_zero]; exact rfl
                case hwd8 => rfl
                case hyd8 => (intro w hSw; (try dsimp only at hSw); go_simp) <;> with_reducible rfl
                simp only [Act.put, List.setIfInBounds_toArray, List.set_cons_zero, List.set_cons_succ]
                refine wpAnyH_take (i := 9) (oi := ?oid9) (v := ?vd9) ?hid9 (by kernel_rfl) (by kernel_rfl) (by kernel_rfl) (fun _ _ _ h => h) (Or.inl ⟨?hwd9, ?hyd9⟩) hHeld ?restd9
                case hid9 => simp only [List.getElem?_toArray, List.getElem?_cons_succ, List.getElem?_cons_zero]; exact rfl
                case hwd9 => rfl
                case hyd9 => (intro w hSw; (try dsimp only at hSw); go_simp) <;> with_reducible rfl
                simp only [Act.put, List.setIfInBounds_toArray, List.set_cons_zero, List.set_cons_succ]
                refine wpAnyH_take (i := 10) (oi := ?oid10) (v := ?vd10) ?hid10 (by kernel_rfl) (by kernel_rfl) (by kernel_rfl) (fun _ _ _ h => h) (Or.inl ⟨?hwd10, ?hyd10⟩) hHeld ?restd10
                case hid10 => simp only [List.getElem?_toArray, List.getElem?_cons_succ, List.getElem?_cons_zero]; exact rfl
                case hwd10 => rfl
                case hyd10 => (intro w hSw; (try dsimp only at hSw); go_simp) <;> with_reducible rfl
                simp only [Act.put, List.setIfInBounds_toArray, List.set_cons_zero, List.set_cons_succ]
                refine wpAnyH_take (i := 11) (oi := ?oid11) (v := ?vd11) ?hid11 (by kernel_rfl) (by kernel_rfl) (by kernel_rfl) (fun _ _ _ h => h) (Or.inl ⟨?hwd11, ?hyd11⟩) hHeld ?restd11
                case hid11 => simp only [List.getElem?_toArray, List.getElem?_cons_succ, List.getElem?_cons_zero]; exact rfl
                case hwd11 => rfl
                case hyd11 => (intro w hSw; (try dsimp only at hSw); go_simp) <;> with_reducible rfl
                simp only [Act.put, List.setIfInBounds_toArray, List.set_cons_zero, List.set_cons_succ]
                refine wpAnyH_take (i := 12) (oi := ?oid12) (v := ?vd12) ?hid12 (by kernel_rfl) (by kernel_rfl) (by kernel_rfl) (fun _ _ _ h => h) (Or.inl ⟨?hwd12, ?hyd12⟩) hHeld ?restd12
                case hid12 => simp only [List.getElem?_toArray, List.getElem?_cons_succ, List.getElem?_cons_zero]; exact rfl
                case hwd12 => rfl
                case hyd12 => (intro w hSw; (try dsimp only at hSw); go_simp) <;> with_reducible rfl
                simp only [Act.put, List.setIfInBounds_toArray, List.set_cons_zero, List.set_cons_succ]
                refine wpAnyH_take (i := 13) (oi := ?oid13) (v := ?vd13) ?hid13 (by kernel_rfl) (by kernel_rfl) (by kernel_rfl) (fun _ _ _ h => h) (Or.inl ⟨?hwd13, ?hyd13⟩) hHeld ?restd13
                case hid13 => simp only [List.getElem?_toArray, List.getElem?_cons_succ, List.getElem?_cons_zero]; exact rfl
                case hwd13 => rfl
                case hyd13 => (intro w hSw; (try dsimp only at hSw); go_simp) <;> with_reducible rfl
                simp only [Act.put, List.setIfInBounds_toArray, List.set_cons_zero, List.set_cons_succ]
                refine wpAnyH_take (i := 15) (oi := ?oid15) (v := ?vd15) ?hid15 (by kernel_rfl) (by kernel_rfl) (by kernel_rfl) (fun _ _ _ h => h) (Or.inl ⟨?hwd15, ?hyd15⟩) hHeld ?restd15
                case hid15 => simp only [List.getElem?_toArray, List.getElem?_cons_succ, List.getElem?_cons_zero]; exact rfl
                case hwd15 => rfl
                case hyd15 => (intro w hSw; (try dsimp only at hSw); go_simp) <;> with_reducible rfl
                simp only [Act.put, List.setIfInBounds_toArray, List.set_cons_zero, List.set_cons_succ]
                refine wpAnyH_take (i := 16) (oi := ?oid16) (v := ?vd16) ?hid16 (by kernel_rfl) (by kernel_rfl) (by kernel_rfl) (fun _ _ _ h => h) (Or.inl ⟨?hwd16, ?hyd16⟩) hHeld ?restd16
                case hid16 => simp only [List.getElem?_toArray, List.getElem?_cons_succ, List.getElem?_cons_zero]; exact rfl
                case hwd16 => rfl
                case hyd16 => (intro w hSw; (try dsimp only at hSw); go_simp) <;> with_reducible rfl
                simp only [Act.put, List.setIfInBounds_toArray, List.set_cons_zero, List.set_cons_succ]
                refine wpAnyH_take (i := 17) (oi := ?oid17) (v := ?vd17) ?hid17 (by kernel_rfl) (by kernel_rfl) (by kernel_rfl) (fun _ _ _ h => h) (Or.inl ⟨?hwd17, ?hyd17⟩) hHeld ?restd17
                case hid17 => simp only [List.getElem?_toArray, List.getElem?_cons_succ, List.getElem?_cons_zero]; exact rfl
                case hwd17 => rfl
                case hyd17 => (intro w hSw; (try dsimp only at hSw); go_simp) <;> with_reducible rfl
                simp only [Act.put, List.setIfInBounds_toArray, List.set_cons_zero, List.set_cons_succ]
                refine wpAnyH_ready (rs := [14]) (by kernel_rfl) (by simp) (AllReadyH.cons (o := ?oid14) ?hid14 (fun K hK => ?_) AllReadyH.nil)
                case hid14 => simp only [List.getElem?_toArray, List.getElem?_cons_succ, List.getElem?_cons_zero]; exact rfl
                go_simp
                (go_at_call 11; refine HH.out.mono ?_; rintro e w6 ⟨rfl, rfl⟩)
                refine hK.out _ _ hS5 (fun hHeld => ?_)
                clear hK K
                try simp only [Act.put, List.setIfInBounds_toArray, List.set_cons_zero, List.set_cons_succ]
                refine wpAnyH_take (i := 18) (oi := ?oid18) (v := ?vd18) ?hid18 (by kernel_rfl) (by kernel_rfl) (by kernel_rfl) (fun _ _ _ h => h) (Or.inl ⟨?hwd18, ?hyd18⟩) hHeld ?restd18
                case hid18 => simp only [List.getElem?_toArray, List.getElem?_cons_succ, List.getElem?_cons_zero]; exact rfl
                case hwd18 => rfl
                case hyd18 => (intro w hSw; (try dsimp only at hSw); go_simp) <;> with_reducible rfl
                simp only [Act.put, List.setIfInBounds_toArray, List.set_cons_zero, List.set_cons_succ]
                refine wpAnyH_take (i := 19) (oi := ?oid19) (v := undef) ?hid19 (by kernel_rfl) (by kernel_rfl) (by kernel_rfl) (fun _ _ _ h => h) (Or.inr ⟨?hwd19, rfl⟩) hHeld ?restd19
                case hid19 => simp only [List.getElem?_toArray, List.getElem?_cons_succ, List.getElem?_cons_zero]; exact rfl
                case hwd19 => rfl
                simp only [Act.put, List.setIfInBounds_toArray, List.set_cons_zero, List.set_cons_succ]
                refine wpAnyH_take (i := 20) (oi := ?oid20) (v := undef) ?hid20 (by kernel_rfl) (by kernel_rfl) (by kernel_rfl) (fun _ _ _ h => h) (Or.inr ⟨?hwd20, rfl⟩) hHeld ?restd20
                case hid20 => simp only [List.getElem?_toArray, List.getElem?_cons_succ, List.getElem?_cons_zero]; exact rfl
                case hwd20 => rfl
                simp only [Act.put, List.setIfInBounds_toArray, List.set_cons_zero, List.set_cons_succ]
                refine wpAnyH_take (i := 21) (oi := ?oid21) (v := undef) ?hid21 (by kernel_rfl) (by kernel_rfl) (by kernel_rfl) (fun _ _ _ h => h) (Or.inr ⟨?hwd21, rfl⟩) hHeld ?restd21
                case hid21 => simp only [List.getElem?_toArray, List.getElem?_cons_succ, List.getElem?_cons_zero]; exact rfl
                case hwd21 => rfl
                simp only [Act.put, List.setIfInBounds_toArray, List.set_cons_zero, List.set_cons_succ]
                refine wpAnyH_take (i := 22) (oi := ?oid22) (v := undef) ?hid22 (by kernel_rfl) (by kernel_rfl) (by kernel_rfl) (fun _ _ _ h => h) (Or.inr ⟨?hwd22, rfl⟩) hHeld ?restd22
                case hid22 => simp only [List.getElem?_toArray, List.getElem?_cons_succ, List.getElem?_cons_zero]; exact rfl
                case hwd22 => rfl
                simp only [Act.put, List.setIfInBounds_toArray, List.set_cons_zero, List.set_cons_succ]
                refine wpAnyH_take (i := 23) (oi := ?oid23) (v := ?vd23) ?hid23 (by kernel_rfl) (by kernel_rfl) (by kernel_rfl) (fun _ _ _ h => h) (Or.inl ⟨?hwd23, ?hyd23⟩) hHeld ?restd23
                case hid23 => simp only [List.getElem?_toArray, List.getElem?_cons_succ, List.getElem?_cons_zero]; exact rfl
                case hwd23 => rfl
                case hyd23 => (intro w hSw; (try dsimp only at hSw); go_simp) <;> with_reducible rfl
                simp only [Act.put, List.setIfInBounds_toArray, List.set_cons_zero, List.set_cons_succ]
                refine wpAnyH_take (i := 24) (oi := ?oid24) (v := ?vd24) ?hid24 (by kernel_rfl) (by kernel_rfl) (by kernel_rfl) (fun _ _ _ h => h) (Or.inl ⟨?hwd24, ?hyd24⟩) hHeld ?restd24
                case hid24 => simp only [List.getElem?_toArray, List.getElem?_cons_succ, List.getElem?_cons_zero]; exact rfl
                case hwd24 => rfl
                case hyd24 => (intro w hSw; (try dsimp only at hSw); go_simp) <;> with_reducible rfl
                simp only [Act.put, List.setIfInBounds_toArray, List.set_cons_zero, List.set_cons_succ]
                refine wpAnyH_take (i := 25) (oi := ?oid25) (v := undef) ?hid25 (by kernel_rfl) (by kernel_rfl) (by kernel_rfl) (fun _ _ _ h => h) (Or.inr ⟨?hwd25, rfl⟩) hHeld ?restd25
                case hid25 => simp only [List.getElem?_toArray, List.getElem?_cons_succ, List.getElem?_cons_zero]; exact rfl
                case hwd25 => rfl
                simp only [Act.put, List.setIfInBounds_toArray, List.set_cons_zero, List.set_cons_succ]
                refine wpAnyH_take (i := 26) (oi := ?oid26) (v := undef) ?hid26 (by kernel_rfl) (by kernel_rfl) (by kernel_rfl) (fun _ _ _ h => h) (Or.inr ⟨?hwd26, rfl⟩) hHeld ?restd26
                case hid26 => simp only [List.getElem?_toArray, List.getElem?_cons_succ, List.getElem?_cons_zero]; exact rfl
                case hwd26 => rfl
                simp only [Act.put, List.setIfInBounds_toArray, List.set_cons_zero, List.set_cons_succ]
                refine wpAnyH_take (i := 27) (oi := ?oid27) (v := undef) ?hid27 (by kernel_rfl) (by kernel_rfl) (by kernel_rfl) (fun _ _ _ h => h) (Or.inr ⟨?hwd27, rfl⟩) hHeld ?restd27
                case hid27 => simp only [List.getElem?_toArray, List.getElem?_cons_succ, List.getElem?_cons_zero]; exact rfl
                case hwd27 => rfl
                simp only [Act.put, List.setIfInBounds_toArray, List.set_cons_zero, List.set_cons_succ]
                refine wpAnyH_take (i := 28) (oi := ?oid28) (v := undef) ?hid28 (by kernel_rfl) (by kernel_rfl) (by kernel_rfl) (fun _ _ _ h => h) (Or.inr ⟨?hwd28, rfl⟩) hHeld ?restd28
                case hid28 => simp only [List.getElem?_toArray, List.getElem?_cons_succ, List.getElem?_cons_zero]; exact rfl
                case hwd28 => rfl
                simp only [Act.put, List.setIfInBounds_toArray, List.set_cons_zero, List.set_cons_succ]
                refine wpAnyH_take (i := 29) (oi := ?oid29) (v := undef) ?hid29 (by kernel_rfl) (by kernel_rfl) (by kernel_rfl) (fun _ _ _ h => h) (Or.inr ⟨?hwd29, rfl⟩) hHeld ?restd29
                case hid29 => simp only [List.getElem?_toArray, List.getElem?_cons_succ, List.getElem?_cons_zero]; exact rfl
                case hwd29 => rfl
                simp only [Act.put, List.setIfInBounds_toArray, List.set_cons_zero, List.set_cons_succ]
                refine wpAnyH_take (i := 30) (oi := ?oid30) (v := undef) ?hid30 (by kernel_rfl) (by kernel_rfl) (by kernel_rfl) (fun _ _ _ h => h) (Or.inr ⟨?hwd30, rfl⟩) hHeld ?restd30
                case hid30 => simp only [List.getElem?_toArray, List.getElem?_cons_succ, List.getElem?_cons_zero]; exact rfl
                case hwd30 => rfl
                simp only [Act.put, List.setIfInBounds_toArray, List.set_cons_zero, List.set_cons_succ]
                refine wpAnyH_take (i := 31) (oi := ?oid31) (v := undef) ?hid31 (by kernel_rfl) (by kernel_rfl) (by kernel_rfl) (fun _ _ _ h => h) (Or.inr ⟨?hwd31, rfl⟩) hHeld ?restd31
                case hid31 => simp only [List.getElem?_toArray, List.getElem?_cons_succ, List.getElem?_cons_zero]; exact rfl
                case hwd31 => rfl
                simp only [Act.put, List.setIfInBounds_toArray, List.set_cons_zero, List.set_cons_succ]
                refine wpAnyH_take (i := 32) (oi := ?oid32) (v := undef) ?hid32 (by kernel_rfl) (by kernel_rfl) (by kernel_rfl) (fun _ _ _ h => h) (Or.inr ⟨?hwd32, rfl⟩) hHeld ?restd32
                case hid32 => simp only [List.getElem?_toArray, List.getElem?_cons_succ, List.getElem?_cons_zero]; exact rfl
                case hwd32 => rfl
                simp only [Act.put, List.setIfInBounds_toArray, List.set_cons_zero, List.set_cons_succ]
                refine wpAnyH_take (i := 33) (oi := ?oid33) (v := ?vd33) ?hid33 (by kernel_rfl) (by kernel_rfl) (by kernel_rfl) (fun _ _ _ h => h) (Or.inl ⟨?hwd33, ?hyd33⟩) hHeld ?restd33
                case hid33 => simp only [List.getElem?_toArray, List.getElem?_cons_succ, List.getElem?_cons_zero]; exact rfl
                case hwd33 => rfl
                case hyd33 => (intro w hSw; (try dsimp only at hSw); go_simp) <;> with_reducible rfl
                simp only [Act.put, List.setIfInBounds_toArray, List.set_cons_zero, List.set_cons_succ]
                refine wpAnyH_take (i := 34) (oi := ?oid34) (v := ?vd34) ?hid34 (by kernel_rfl) (by kernel_rfl) (by kernel_rfl) (fun _ _ _ h => h) (Or.inl ⟨?hwd34, ?hyd34⟩) hHeld ?restd34
                case hid34 => simp only [List.getElem?_toArray, List.getElem?_cons_succ, List.getElem?_cons_zero]; exact rfl
                case hwd34 => rfl
                case hyd34 => (intro w hSw; (try dsimp only at hSw); go_simp) <;> with_reducible rfl
                simp only [Act.put, List.setIfInBounds_toArray, List.set_cons_zero, List.set_cons_succ]
                refine wpAnyH_take (i := 35) (oi := ?oid35) (v := ?vd35) ?hid35 (by kernel_rfl) (by kernel_rfl) (by kernel_rfl) (fun _ _ _ h => h) (Or.inl ⟨?hwd35, ?hyd35⟩) hHeld ?restd35
                case hid35 => simp only [List.getElem?_toArray, List.getElem?_cons_succ, List.getElem?_cons_zero]; exact rfl
                case hwd35 => rfl
                case hyd35 => (intro w hSw; (try dsimp only at hSw); go_simp) <;> with_reducible rfl
                simp only [Act.put, List.setIfInBounds_toArray, List.set_cons_zero, List.set_cons_succ]
                refine wpAnyH_take (i := 36) (oi := ?oid36) (v := ?vd36) ?hid36 (by kernel_rfl) (by kernel_rfl) (by kernel_rfl) (fun _ _ _ h => h) (Or.inl ⟨?hwd36, ?hyd36⟩) hHeld ?restd36
                case hid36 => simp only [List.getElem?_toArray, List.getElem?_cons_succ, List.getElem?_cons_zero]; exact rfl
                case hwd36 => rfl
                case hyd36 => (intro w hSw; (try dsimp only at hSw); go_simp) <;> with_reducible rfl
                simp only [Act.put, List.setIfInBounds_toArray, List.set_cons_zero, List.set_cons_succ]
                refine wpAnyH_take (i := 37) (oi := ?oid37) (v := ?vd37) ?hid37 (by kernel_rfl) (by kernel_rfl) (by kernel_rfl) (fun _ _ _ h => h) (Or.inl ⟨?hwd37, ?hyd37⟩) hHeld ?restd37
                case hid37 => simp only [List.getElem?_toArray, List.getElem?_cons_succ, List.getElem?_cons_zero]; exact rfl
                case hwd37 => rfl
                case hyd37 => (intro w hSw; (try dsimp only at hSw); go_simp) <;> with_reducible rfl
                simp only [Act.put, List.setIfInBounds_toArray, List.set_cons_zero, List.set_cons_succ]
                refine wpAnyH_take (i := 40) (oi := ?oid40) (v := ?vd40) ?hid40 (by kernel_rfl) (by kernel_rfl) (by kernel_rfl) (fun _ _ _ h => h) (Or.inl ⟨?hwd40, ?hyd40⟩) hHeld ?restd40
                case hid40 => simp only [List.getElem?_toArray, List.getElem?_cons_succ, List.getElem?_cons_zero]; exact rfl
                case hwd40 => rfl
                case hyd40 => (intro w hSw; (try dsimp only at hSw); go_simp) <;> with_reducible rfl
                simp only [Act.put, List.setIfInBounds_toArray, List.set_cons_zero, List.set_cons_succ]
                refine wpAnyH_ready (rs := [38]) (by kernel_rfl) (by simp) (AllReadyH.cons (o := ?oid38) ?hid38 (fun K hK => ?_) AllReadyH.nil)
                case hid38 => simp only [List.getElem?_toArray, List.getElem?_cons_succ, List.getElem?_cons_zero]; exact rfl
                go_simp
                (go_at_call 12; refine (bytes_ok b k S _ HD.out.rel.at_ hn1 HSB.out).mono ?_; rintro e w7 ⟨rfl, hg7, hb7⟩; replace hb7 : BytAt w7 w5.heap.size S := hb7; have ht7 := HT1.out _ _ 256 hb7; have hS7 := HK.out w7 hg7)
                refine hK.out _ _ hS7 (fun hHeld => ?_)
                clear hK K
                try simp only [Act.put, List.setIfInBounds_toArray, List.set_cons_zero, List.set_cons_succ]
                refine wpAnyH_mono (S1 := fun W => W.cell? ⟨A, 1, none⟩ = some (.int .i64 N)) (S2 := fun W => (W.cell? ⟨A, 1, none⟩ = some (.int .i64 N)) ∧ (convert 40 9 (.slice (some ⟨w5.heap.size, 0, none⟩) 256 256)).run Tryd.prog W = .ok (.string Tx) W) (fun _ h => h.1) _ _ _ _ ?_
                replace hHeld := And.intro hHeld ht7
                refine wpAnyH_take (i := 39) (oi := ?oid39) (v := ?vd39) ?hid39 (by kernel_rfl) (by kernel_rfl) (by kernel_rfl) (fun _ _ _ h => h) (Or.inl ⟨?hwd39, ?hyd39⟩) hHeld ?restd39
                case hid39 => simp only [List.getElem?_toArray, List.getElem?_cons_succ, List.getElem?_cons_zero]; exact rfl
                case hwd39 => rfl
                case hyd39 => (intro w hSw; (try dsimp only at hSw); go_simp) <;> with_reducible rfl
                simp only [Act.put, List.setIfInBounds_toArray, List.set_cons_zero, List.set_cons_succ]
                refine wpAnyH_ready (rs := [41]) (by kernel_rfl) (by simp) (AllReadyH.cons (o := ?oid41) ?hid41 (fun K hK => ?_) AllReadyH.nil)
                case hid41 => simp only [List.getElem?_toArray, List.getElem?_cons_succ, List.getElem?_cons_zero]; exact rfl
                go_simp
                (go_at_call 20; refine (rbytes_ok _ _ _ _ _ (HD.out.look hg7).rel.ref (by omega) HD.out.small).mono ?_; rintro e w8 ⟨rfl, hg8, hb8⟩; have ht8 := HT1.out _ _ 256 hb8; have ht7 := HT1.out _ _ 256 (hb7.grown hg8 (by simp)); have hS8 := HK.out w8 (grown_trans hg7 hg8))
                refine hK.out _ _ ⟨hS8, ht7⟩ (fun hHeld => ?_)
                clear hK K
                try simp only [Act.put, List.setIfInBounds_toArray, List.set_cons_zero, List.set_cons_succ]
                refine wpAnyH_mono (S2 := fun W => ((W.cell? ⟨A, 1, none⟩ = some (.int .i64 N)) ∧ (convert 40 9 (.slice (some ⟨w5.heap.size, 0, none⟩) 256 256)).run Tryd.prog W = .ok (.string Tx) W) ∧ (convert 40 9 (.slice (some ⟨w7.heap.size, 0, none⟩) 256 256)).run Tryd.prog W = .ok (.string Tx) W) (fun _ h => h.1) _ _ _ _ ?_
                replace hHeld := And.intro hHeld ht8
                refine wpAnyH_take (i := 42) (oi := ?oid42) (v := ?vd42) ?hid42 (by kernel_rfl) (by kernel_rfl) (by kernel_rfl) (fun _ _ _ h => h) (Or.inl ⟨?hwd42, ?hyd42⟩) hHeld ?restd42
                case hid42 => simp only [List.getElem?_toArray, List.getElem?_cons_succ, List.getElem?_cons_zero]; exact rfl
                case hwd42 => rfl
                case hyd42 => (intro w hSw; (try dsimp only at hSw); go_simp) <;> with_reducible rfl
                simp only [Act.put, List.setIfInBounds_toArray, List.set_cons_zero, List.set_cons_succ]
                refine wpAnyH_take (i := 43) (oi := ?oid43) (v := ?vd43) ?hid43 (by kernel_rfl) (by kernel_rfl) (by kernel_rfl) (fun _ _ _ h => h) (Or.inl ⟨?hwd43, ?hyd43⟩) hHeld ?restd43
                case hid43 => simp only [List.getElem?_toArray, List.getElem?_cons_succ, List.getElem?_cons_zero]; exact rfl
                case hwd43 => rfl
                case hyd43 => (intro w hSw; (try dsimp only at hSw); go_simp) <;> with_reducible rfl
                simp only [Act.put, List.setIfInBounds_toArray, List.set_cons_zero, List.set_cons_succ]
                refine wpAnyH_take (i := 44) (oi := ?oid44) (v := ?vd44) ?hid44 (by kernel_rfl) (by kernel_rfl) (by kernel_rfl) (fun _ _ _ h => h) (Or.inl ⟨?hwd44, ?hyd44⟩) hHeld ?restd44
                case hid44 => simp only [List.getElem?_toArray, List.getElem?_cons_succ, List.getElem?_cons_zero]; exact rfl
                case hwd44 => rfl
                case hyd44 => (intro w hSw; (try dsimp only at hSw); go_simp) <;> with_reducible rfl
                simp only [Act.put, List.setIfInBounds_toArray, List.set_cons_zero, List.set_cons_succ]
                refine wpAnyH_done (by kernel_rfl) ?_ _
                refine NoPanic.normal ?_
                all_goals
                  have HX := Lib.hid ((HD.out.look hg7).look hg8)
                  clear hg7 hg8 hb7 hb8
                  go_wp2_with fail
                  exact ⟨⟨i + 1, by omega, by omega, rfl, b, S, rfl, HX.out.rel, HX.out.small⟩, by simp [intOf]; omega⟩
    · obtain ⟨hr, _⟩ : w.grownBy wr none ∧ True := ⟨hr.grown, trivial⟩
      have HG := Lib.hid hr
      clear hr hS
      by_cases hlt1 : i < len
      · have hge : ¬ i < 300 := fun h => hlt ⟨hlt1, h⟩
        clear hlt
        go_wp2_with fail
        go_ret
        exact ⟨rfl, HG.out⟩
      · clear hlt
        go_wp2_with fail
        go_ret
        exact ⟨rfl, HG.out⟩
end Go.Proofs.YtaadbikaeofnoaaDoor
