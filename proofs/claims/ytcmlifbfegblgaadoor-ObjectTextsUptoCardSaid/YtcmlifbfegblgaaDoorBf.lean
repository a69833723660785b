/- bits.Decode: which texts of signs are bytes, and how many. -/
import Derived.Test.YtcmlifbfegblgaaDoorBc
import Derived.OwnWalk
import Derived.Laws.BitsAllLaws
namespace Go.Proofs.YtcmlifbfegblgaaDoor
set_option linter.unusedVariables false
set_option linter.unusedSimpArgs false
open Go.RowKit Go.Proofs.YtcmlifbfegblgaaDoorW.PrintWords Go.Proofs.YtcmlifbfegblgaaDoorW.PrintLast Go.Proofs.YtcmlifbfegblgaaDoorW.PrintMore

/-- The listed tables, as they are laid. -/
structure Tabs (w : World) : Prop where
  tails : w.heap[0]? = some (.cells #[.int .i64 0, .int .i64 2, .int .i64 4, .int .i64 5, .int .i64 7] 105 (0, 0))
  ranges : w.heap[4]? = some (.cells #[.int .u8 97, .int .u8 122, .int .u8 65, .int .u8 90, .int .u8 48, .int .u8 57, .int .u8 43, .int .u8 43, .int .u8 45, .int .u8 45, .int .u8 46, .int .u8 46, .int .u8 95, .int .u8 95] 129 (0, 0))
theorem Tabs.of {w w' : World} (h : Tabs w) (hb : Below w.heap.size w w') : Tabs w' :=
  ⟨(hb.block _ (Array.getElem?_eq_some_iff.1 h.tails).1).trans h.tails, (hb.block _ (Array.getElem?_eq_some_iff.1 h.ranges).1).trans h.ranges⟩

def signs : ByteArray := ⟨#[48, 49, 50, 51, 52, 53, 54, 55, 56, 57, 97, 98, 99, 100, 102, 103, 104, 105, 106, 107, 108, 109, 110, 112, 113, 114, 115, 118, 119, 120, 121, 122]⟩
/-- What the i-th sign stands for; -1: it is none. -/
def sgn (s : ByteArray) (i : Int) : Int := Lib.indexByte signs.data.toList ((bt s i).toNat.toUInt8)
def tail5 (n : Int) : Int := if n % 5 = 0 then 0 else if n % 5 = 1 then 2 else if n % 5 = 2 then 4 else if n % 5 = 3 then 5 else 7
/-- May the signs of s be read? -/
def DecOk (s : ByteArray) : Prop :=
  ((s.size : Int) * 5 / 8) / 5 * 8 + tail5 ((s.size : Int) * 5 / 8) = s.size ∧ (∀ i : Int, 0 ≤ i → i < s.size → 0 ≤ sgn s i) ∧ (s.size ≠ 0 → sgn s (s.size - 1) % 2 ^ (5 * (s.size : Int) % 8).toNat = 0)
theorem sgn_le (s : ByteArray) (i : Int) : sgn s i < 32 := by
  rcases Int.lt_or_le (sgn s i) 0 with h | h
  · omega
  · obtain ⟨k, hk⟩ := Int.eq_ofNat_of_zero_le h
    have h2 := (List.getElem?_eq_some_iff.1 (Lib.indexByte_some hk).1).1
    have h3 : signs.data.toList.length = 32 := rfl
    omega
theorem tails_at (w : World) (h : Tabs w) (n : Int) (h0 : 0 ≤ n) (h5 : n < 5) : w.cell? ⟨0, n.toNat, none⟩ = some (.int .i64 (tail5 n)) := by
  have : n = 0 ∨ n = 1 ∨ n = 2 ∨ n = 3 ∨ n = 4 := by omega
  simp only [World.cell?, h.tails]
  rcases this with rfl | rfl | rfl | rfl | rfl <;> rfl

theorem held_or (x g : Int) (hx0 : 0 ≤ x) (hx1 : x < 4294967296) (h0 : 0 ≤ g) (h1 : g < 32) :
    0 ≤ bits .or .u32 (x * 32 % 4294967296) g ∧ bits .or .u32 (x * 32 % 4294967296) g < 4294967296 ∧ bits .or .u32 (x * 32 % 4294967296) g % 32 = g := by
  rw [u32_or _ _ (by omega) (by omega) h0 (by omega)]
  obtain ⟨a, ha⟩ : ∃ a : Nat, (a : Int) = x * 32 % 4294967296 := ⟨(x * 32 % 4294967296).toNat, by omega⟩
  obtain ⟨b, rfl⟩ := Int.eq_ofNat_of_zero_le h0
  rw [← ha, Int.toNat_natCast, Int.toNat_natCast]
  have e1 : a ||| b < 2 ^ 32 := Nat.or_lt_two_pow (by omega) (by omega)
  have e2 : (a ||| b) % 2 ^ 5 = (a % 2 ^ 5) ||| (b % 2 ^ 5) := Nat.or_mod_two_pow
  have e3 : a % 2 ^ 5 = 0 := by omega
  have e4 : b % 2 ^ 5 = b := Nat.mod_eq_of_lt (by omega)
  rw [e3, e4, Nat.zero_or] at e2
  omega
theorem low_and (x : Int) (j : Nat) (hx0 : 0 ≤ x) (hx1 : x < 4294967296) (hj : j ≤ 7) : bits .and .u32 x ((2 ^ j - 1) % 4294967296) = x % 2 ^ j := by
  obtain ⟨a, rfl⟩ := Int.eq_ofNat_of_zero_le hx0
  have hp : (2 : Nat) ^ j ≤ 2 ^ 7 := Nat.pow_le_pow_right (by omega) hj
  have hp1 : 1 ≤ (2 : Nat) ^ j := Nat.one_le_two_pow
  obtain ⟨m, hm⟩ : ∃ m : Nat, 2 ^ j = m := ⟨_, rfl⟩
  have hm2 : ((2 : Int) ^ j) = (m : Int) := by rw [← hm]; push_cast; rfl
  rw [hm] at hp hp1
  have e0 : (((2 : Int) ^ j - 1) % 4294967296) = ((2 ^ j - 1 : Nat) : Int) := by rw [hm2, hm]; omega
  rw [e0, u32_and_nat _ _ (by omega) (by rw [hm]; omega), Nat.and_two_pow_sub_one_eq_mod, hm2, hm]
  omega
theorem low_mod (x g : Int) (j : Nat) (hj : j ≤ 4) (h : x % 32 = g) : x % 2 ^ j = g % 2 ^ j := by
  have : j = 0 ∨ j = 1 ∨ j = 2 ∨ j = 3 ∨ j = 4 := by omega
  rcases this with rfl | rfl | rfl | rfl | rfl <;> simp <;> omega
/-- What the loop has behind i signs. -/
structure Held (w0 w : World) (s : ByteArray) (i : Int) (v h n : Value) : Prop where
  below : Below w0.heap.size w0 w
  good : ∀ j : Int, 0 ≤ j → j < i → 0 ≤ sgn s j
  out : ∃ l : List Value, (l.length : Int) = 5 * i / 8 ∧ w.ownsRow w0.heap.size 5 1 v l.length l ∧ ∀ y ∈ l, ∃ z, y = .int .u8 z
  held : ∃ x : Int, h = .int .u32 x ∧ 0 ≤ x ∧ x < 4294967296 ∧ (i ≠ 0 → x % 32 = sgn s (i - 1))
  have_ : n = .int .i64 (5 * i % 8)

set_option maxHeartbeats 4000000 in
set_option maxRecDepth 100000 in
theorem decode_of (s : ByteArray) (w : World) (hs : s.size ≤ 16777216) (T : Tabs w) :
    Calls Tryd.prog 58 #[.string s] w fun e w' => ∃ v x, e = .returned (.tuple #[v, .int .i64 x]) ∧ Below w.heap.size w w' ∧ ((¬ DecOk s ∧ x = 10) ∨ (DecOk s ∧ x = 0 ∧ ∃ l : List Value, l.length = 5 * s.size / 8 ∧ w'.ownsRow w.heap.size 5 1 v l.length l ∧ ∀ y ∈ l, ∃ z, y = .int .u8 z)) := by
  obtain ⟨L, hL⟩ : ∃ L : Int, (s.size : Int) = L := ⟨_, rfl⟩
  have hL0 : 0 ≤ L := by omega
  have hL1 : L ≤ 16777216 := by omega
  obtain ⟨n, hn⟩ : ∃ n : Nat, (n : Int) = L * 5 / 8 := ⟨(L * 5 / 8).toNat, by omega⟩
  have hr := tails_at w T (L * 5 / 8 % 5) (by omega) (by omega)
  have hfz : ∀ i, w.frozen? ⟨0, i, none⟩ = false := by intro i; simp [World.frozen?, T.tails]
  have ht5 : 0 ≤ tail5 (L * 5 / 8 % 5) ∧ tail5 (L * 5 / 8 % 5) ≤ 7 := by unfold tail5; split <;> (try split) <;> (try split) <;> (try split) <;> omega
  have hw0 : wrap64 (L * 5 / 8 / 5 * 8 + tail5 (L * 5 / 8 % 5)) = L * 5 / 8 / 5 * 8 + tail5 (L * 5 / 8 % 5) := by unfold wrap64; omega
  have htt : tail5 (L * 5 / 8 % 5) = tail5 (L * 5 / 8) := by unfold tail5; simp only [Int.emod_emod]
  have HT := Lib.hid T
  have HS := Lib.hid hs
  have HL := Lib.hid hL
  clear T
  obtain ⟨i0, hi, hzz⟩ := Option.map_eq_some_iff.1 QObjectTexts.info5
  simp only [Prod.mk.injEq] at hzz
  obtain ⟨hz0, hz1, hz2⟩ := hzz
  obtain ⟨w1, hmk, hown, hg1⟩ := run_make_own (P := Tryd.prog) w w.heap.size 76 5 i0 _ 1 Tryd.underlying76 hi hz0 hz1 .i64 .i64 n (by rw [hz2]; omega) (by simp only [maxLen]; omega) (Nat.le_refl _)
  clear hi hz0 hz1 hz2
  rw [hn] at hmk
  by_cases hc : L * 5 / 8 / 5 * 8 + tail5 (L * 5 / 8 % 5) = L
  · have hcb : (L * 5 / 8 / 5 * 8 + tail5 (L * 5 / 8 % 5) != L) = false := by simp [hc]
    have HC := Lib.hid hc
    have HM := Lib.hid hmk
    have HO := Lib.hid hown
    have HG := Lib.hid (show Below w.heap.size w w1 from (Below.refl _ _).grown hg1 (Nat.le_refl _) (fun k h => by cases h))
    clear hc hmk hown hg1
    go_enter Tryd.func58, Tryd.ntmps58
    go_wp2_with (first | (rw [HM.out]; go_simp) | fail)
    go_loopw [5, 6, 7, 29] (fun v h m i wr => ∃ k : Int, 0 ≤ k ∧ k ≤ L ∧ i = .int .i64 k ∧ Held w wr s k v h m) (fun _ _ _ i _ => (L - intOf i).toNat)
    case atStart =>
      refine ⟨0, Int.le_refl _, by omega, rfl, HG.out, fun j h0 h1 => by omega, ⟨[], by simp, ?_, by simp⟩, ⟨0, rfl, by omega, by omega, fun h => (h rfl).elim⟩, rfl⟩
      exact HO.out
    case round =>
      obtain ⟨k, hk0, hk1, rfl, hH⟩ := hrel
      obtain ⟨hb, hgood, ⟨l, hl, how, hint⟩, ⟨x, rfl, hx0, hx1, hxl⟩, rfl⟩ := hH
      by_cases hk : k < L
      · obtain ⟨g, hg⟩ : ∃ g, sgn s k = g := ⟨_, rfl⟩
        have hcall := Tryd.strings_IndexByte signs (bt s k) wr
        rw [show Lib.indexByte signs.data.toList (bt s k).toNat.toUInt8 = g from hg] at hcall
        have hx := bt_at s k
        have HGd := Lib.hid hgood
        have HIn := Lib.hid hint
        have HOw := Lib.hid how
        have HB := Lib.hid hb
        have HXl := Lib.hid hxl
        have HL2 := Lib.hid hl
        clear hgood hint how hb hxl hl
        by_cases hneg : g < 0
        · go_wp2_with (go_at_call 46; refine hcall.mono ?_; rintro e w' ⟨rfl, rfl⟩)
          go_ret2
          refine ⟨_, _, rfl, HB.out, .inl ⟨fun h => ?_, rfl⟩⟩
          have := h.2.1 k hk0 (by rw [HL.out]; exact hk)
          omega
        · have hg32 : g < 32 := hg ▸ sgn_le s k
          by_cases h8 : 8 ≤ 5 * k % 8 + 5
          · have hmod : 5 * k % 8 + 5 - 8 = 5 * (k + 1) % 8 := by omega
            go_wp2_with (first | (refine print_append (w0 := w) w.heap.size rfl (.tmp 49) (.tmp 54) 76 5 (.int .u8 0) 1 rfl Tryd.underlying76 QObjectTexts.info5 rfl (by decide) _ l _ rfl rfl rfl HOw.out HB.out (HB.out.size) (by have := HL2.out; omega) ?_; intro v1 w3 ho3 hb3 hg3 hat3; refine Hid.out ?_) | (go_at_call 46; refine hcall.mono ?_; rintro e w' ⟨rfl, rfl⟩))
            refine Lib.hid ?_
            clear hg3 hat3
            have HO3 := Lib.hid ho3
            have HB3 := Lib.hid hb3
            clear ho3 hb3
            go_wp2_with fail
            go_roundw
            case rel =>
              refine ⟨k + 1, by omega, by omega, by go_num, HB3.out, ?_, ⟨_, ?_, HO3.out, ?_⟩, ⟨_, rfl, (held_or x g hx0 hx1 (by omega) hg32).1, (held_or x g hx0 hx1 (by omega) hg32).2.1, fun _ => by rw [(held_or x g hx0 hx1 (by omega) hg32).2.2, show k + 1 - 1 = k by omega, hg]⟩, ?_⟩
              · intro j h0 h1
                rcases Int.lt_or_le j k with h | h
                · exact HGd.out j h0 h
                · rw [show j = k by omega, hg]; omega
              · have := HL2.out
                rw [List.length_append, List.length_singleton]
                omega
              · intro y hy
                rcases List.mem_append.1 hy with h | h
                · exact HIn.out y h
                · rw [List.mem_singleton.1 h]; exact ⟨_, rfl⟩
              · rfl
            case measure => (simp only [intOf]; omega)
          · go_wp2_with (go_at_call 46; refine hcall.mono ?_; rintro e w' ⟨rfl, rfl⟩)
            go_roundw
            case rel =>
              refine ⟨k + 1, by omega, by omega, by go_num, HB.out, ?_, ⟨_, ?_, HOw.out, HIn.out⟩, ⟨_, rfl, (held_or x g hx0 hx1 (by omega) hg32).1, (held_or x g hx0 hx1 (by omega) hg32).2.1, fun _ => by rw [(held_or x g hx0 hx1 (by omega) hg32).2.2, show k + 1 - 1 = k by omega, hg]⟩, ?_⟩
              · intro j h0 h1
                rcases Int.lt_or_le j k with h | h
                · exact HGd.out j h0 h
                · rw [show j = k by omega, hg]; omega
              · have := HL2.out
                omega
              · rw [show 5 * k % 8 + 5 = 5 * (k + 1) % 8 by omega]
            case measure => (simp only [intOf]; omega)
      · obtain rfl : k = L := by omega
        have hj : 5 * k % 8 ≤ 4 := by
          have h1 := HC.out
          unfold tail5 at h1
          split at h1
          · omega
          · split at h1
            · omega
            · split at h1
              · omega
              · split at h1 <;> omega
        have hla := low_and x (5 * k % 8).toNat hx0 hx1 (by omega)
        obtain ⟨z, hz⟩ : ∃ z, bits .and .u32 x ((2 ^ (5 * k % 8).toNat - 1) % 4294967296) = z := ⟨_, rfl⟩
        have HZ := Lib.hid (hla.symm.trans hz)
        have HGd := Lib.hid hgood
        have HIn := Lib.hid hint
        have HOw := Lib.hid how
        have HB := Lib.hid hb
        have HXl := Lib.hid hxl
        have HL2 := Lib.hid hl
        clear hgood hint how hb hxl hl hla
        have hdec : DecOk s ↔ z = 0 := by
          rw [← HZ.out]
          have hx : k ≠ 0 → x % 2 ^ (5 * k % 8).toNat = sgn s (k - 1) % 2 ^ (5 * k % 8).toNat := fun h => low_mod _ _ _ (by omega) (HXl.out h)
          have hL := HL.out
          constructor
          · intro h
            by_cases h0 : k = 0
            · rw [h0]; simp
            · rw [hx h0]
              have := h.2.2 (by omega)
              rw [hL] at this
              exact this
          · intro h
            refine ⟨by rw [hL, ← htt]; exact HC.out, fun i h0 h1 => HGd.out i h0 (by omega), fun h0 => ?_⟩
            rw [hL, ← hx (by omega)]
            exact h
        have HD := Lib.hid hdec
        clear hdec
        by_cases h0 : z = 0
        · subst h0
          go_wp2
          go_ret2
          exact ⟨_, _, rfl, HB.out, .inr ⟨HD.out.2 (by first | rfl | trivial), rfl, l, by have := HL2.out; have := HL.out; omega, HOw.out, HIn.out⟩⟩
        · have hzb : (z != 0) = true := by simp [h0]
          go_wp2
          go_ret2
          exact ⟨_, _, rfl, HB.out, .inl ⟨fun h => h0 (HD.out.1 h), rfl⟩⟩
  · have hcb : (L * 5 / 8 / 5 * 8 + tail5 (L * 5 / 8 % 5) != L) = true := by simp [hc]
    have HC := Lib.hid (show ¬ DecOk s from fun h => hc (by have := h.1; rw [hL, ← htt] at this; exact this))
    clear hmk hown hg1 hc
    go_enter Tryd.func58, Tryd.ntmps58
    go_wp2
    go_ret2
    exact ⟨_, _, rfl, Below.refl _ _, .inl ⟨HC.out, rfl⟩⟩
end Go.Proofs.YtcmlifbfegblgaaDoor
