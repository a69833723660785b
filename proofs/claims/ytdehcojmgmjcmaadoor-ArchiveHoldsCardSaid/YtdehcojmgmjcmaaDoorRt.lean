/- bytes.Trim of zeros: what is left of bytes is empty just if all are zeros. -/
import Derived.Test.YtdehcojmgmjcmaaDoorRn
import Derived.Deep.Slices
namespace Go.Proofs.YtdehcojmgmjcmaaDoor
set_option linter.unusedVariables false
set_option linter.unusedSimpArgs false
open Go.RowKit QArchiveBack Go.Proofs.YtdehcojmgmjcmaaDoorW.PrintWords Go.Proofs.YtdehcojmgmjcmaaDoorW.PrintLast Go.Proofs.YtdehcojmgmjcmaaDoorW.PrintMore
theorem cut_high (ad : Addr) (n c m : Nat) (hm : m ≤ c) : ∀ W, (Instr.slice 22 (.slice (some ad) n c) none (some (.int .i64 (m : Int))) none).run Tryd.prog W = .ok (.slice (some ad) m c) W := by
  intro W
  have he : Tryd.prog.elem 22 = 5 := by kernel_rfl
  rw [run_slice_h W 22 _ n c (by rw [he]; exact Tryd.underlying22) .i64 m (by omega) (by omega), he, Tryd.sizeOf5]
  simp [sliced, Addr.add]
theorem cut8 (A : Option Addr) (n c m : Nat) (hm : m ≤ n) (hc : n ≤ c) : ∃ A' : Option Addr, (∀ W, (Instr.slice 22 (.slice A n c) (some (.int .i64 (m : Int))) none none).run Tryd.prog W = .ok (.slice A' (n - m) (c - m)) W) ∧
    ∀ (w : World) (xs : List Int), Kd.C (Kd.int .u8) w A n xs → Kd.C (Kd.int .u8) w A' (n - m) (xs.drop m) := by
  have he : Tryd.prog.elem 22 = 5 := by kernel_rfl
  refine ⟨if c = m then A else A.map (·.add m), fun W => ?_, fun w xs h => ?_⟩
  · rw [run_slice_l W 22 A n c (by rw [he]; exact Tryd.underlying22) .i64 (m : Int) (by omega) (by omega), he, Tryd.sizeOf5]
    simp [sliced]
  · obtain rfl := h.1
    have := Kd.C_drop (k := Kd.int .u8) (m := m) (c := c) h hm hc
    rw [List.length_drop] at this
    simpa [Kd.int, Kd.scalar] using this
theorem cut_to (A : Option Addr) (n c m : Nat) (hm : m ≤ n) (hc : n ≤ c) : (∀ W, (Instr.slice 22 (.slice A n c) none (some (.int .i64 (m : Int))) none).run Tryd.prog W = .ok (.slice A m c) W) ∧
    ∀ (w : World) (xs : List Int), Kd.C (Kd.int .u8) w A n xs → Kd.C (Kd.int .u8) w A m (xs.take m) := by
  have he : Tryd.prog.elem 22 = 5 := by kernel_rfl
  refine ⟨fun W => ?_, fun w xs h => ?_⟩
  · rw [run_slice_h W 22 A n c (by rw [he]; exact Tryd.underlying22) .i64 (m : Int) (by omega) (by omega), he, Tryd.sizeOf5]
    cases A <;> simp [sliced, Addr.add]
  · obtain rfl := h.1
    have := Kd.C_take (k := Kd.int .u8) (m := m) h hm
    rw [List.length_take, Nat.min_eq_left hm] at this
    exact this
def slen : Value → Nat
  | .slice _ n _ => n
  | _ => 0
theorem last_ex (xs : List Int) : ∀ n : Nat, ∃ m, m ≤ n ∧ (∀ j, m ≤ j → j < n → xs.getD j 0 = 0) ∧ (0 < m → xs.getD (m - 1) 0 ≠ 0)
  | 0 => ⟨0, Nat.le_refl _, fun j _ h => absurd h (by omega), fun h => absurd h (by omega)⟩
  | n + 1 => by
    by_cases h : xs.getD n 0 = 0
    · obtain ⟨m, h1, h2, h3⟩ := last_ex xs n
      refine ⟨m, by omega, fun j a b => ?_, h3⟩
      by_cases e : j = n
      · rw [e]; exact h
      · exact h2 j a (by omega)
    · exact ⟨n + 1, Nat.le_refl _, fun j a b => absurd b (by omega), fun _ => by rw [Nat.add_sub_cancel]; exact h⟩
theorem first_ex (xs : List Int) : ∀ n : Nat, 0 < n → xs.getD (n - 1) 0 ≠ 0 → ∃ z, z < n ∧ (∀ j, j < z → xs.getD j 0 = 0) ∧ xs.getD z 0 ≠ 0
  | 0, h, _ => absurd h (by omega)
  | n + 1, _, h => by
    by_cases c : ∃ j, j < n ∧ xs.getD j 0 ≠ 0
    · obtain ⟨j, hj, hx⟩ := c
      obtain ⟨m, m1, m2, m3⟩ := last_ex xs n
      by_cases h0 : 0 < m
      · obtain ⟨z, z1, z2, z3⟩ := first_ex xs m h0 (m3 h0)
        exact ⟨z, by omega, z2, z3⟩
      · exact absurd (m2 j (by omega) hj) hx
    · refine ⟨n, by omega, fun j hj => ?_, by simpa using h⟩
      by_cases e : xs.getD j 0 = 0
      · exact e
      · exact absurd ⟨j, hj, e⟩ c
termination_by n => n
set_option maxHeartbeats 2000000 in
theorem trimR_of (A : Option Addr) (n c : Nat) (xs : List Int) (m : Nat) (hm : m ≤ n) (hz : ∀ j, m ≤ j → j < n → xs.getD j 0 = 0) (hl : 0 < m → xs.getD (m - 1) 0 ≠ 0) (w : World) (h : Kd.C (Kd.int .u8) w A n xs) (hc : n ≤ c) :
    Calls Tryd.prog 49 #[.slice A n c, .int .u8 0] w fun e w' => e = .returned (.slice A m c) ∧ w' = w := by
  have H := Lib.hid h
  have HC := Lib.hid hc
  have HZ := Lib.hid hz
  have HL := Lib.hid hl
  clear h hc hz hl
  go_enter Tryd.func49, Tryd.ntmps49
  go_wp2_with fail
  go_slots
  go_loop [0] (fun s => ∃ q : Nat, s = .slice A q c ∧ m ≤ q ∧ q ≤ n) (fun s => slen s)
  case atStart => exact ⟨n, rfl, hm, Nat.le_refl _⟩
  case round =>
    obtain ⟨q, rfl, h1, h2⟩ := hrel
    have hn := H.out.2.1
    by_cases h0 : m < q
    · obtain ⟨q, rfl⟩ : ∃ p, q = p + 1 := ⟨q - 1, by omega⟩
      obtain ⟨ad, rfl, hcell⟩ := Kd.at_int H.out (q : Int) (by omega) (by omega)
      rw [Int.toNat_natCast, show rd xs (q : Int) = xs.getD q 0 by simp [rd], HZ.out q (by omega) (by omega)] at hcell
      have hcut := (cut_to (some ad) (q + 1) c q (by omega) (by have := HC.out; omega)).1
      go_wp2_with fail
      go_round
      case rel => exact ⟨q, rfl, by omega, by omega⟩
      case measure => simp [slen]
    · obtain rfl : q = m := by omega
      by_cases h3 : 0 < q
      · obtain ⟨q, rfl⟩ : ∃ p, q = p + 1 := ⟨q - 1, by omega⟩
        obtain ⟨ad, rfl, hcell⟩ := Kd.at_int H.out (q : Int) (by omega) (by omega)
        have hy := HL.out h3
        rw [Nat.add_sub_cancel] at hy
        rw [Int.toNat_natCast, show rd xs (q : Int) = xs.getD q 0 by simp [rd]] at hcell
        generalize xs.getD q 0 = y at hcell hy
        have hy1 : (y == 0) = false := by simpa using hy
        go_wp2_with fail
        go_ret
        exact ⟨rfl, rfl⟩
      · obtain rfl : q = 0 := by omega
        go_wp2_with fail
        go_ret
        exact ⟨rfl, rfl⟩
theorem cut_one (ad : Addr) (i n c : Nat) (h1 : i + 1 < n) (h2 : n ≤ c) : ∀ W, (Instr.slice 22 (.slice (some (ad.add i)) (n - i) (c - i)) (some (.int .i64 1)) none none).run Tryd.prog W = .ok (.slice (some (ad.add (i + 1))) (n - (i + 1)) (c - (i + 1))) W := by
  intro W
  have he : Tryd.prog.elem 22 = 5 := by kernel_rfl
  have h3 : ¬ (c - i = 1) := by omega
  rw [run_slice_l W 22 _ (n - i) (c - i) (by rw [he]; exact Tryd.underlying22) .i64 1 (by omega) (by omega), he, Tryd.sizeOf5]
  have e1 : n - i - 1 = n - (i + 1) := by omega
  have e2 : c - i - 1 = c - (i + 1) := by omega
  simp [sliced, Go.Deep.add_add, Result.andThen, h3, e1, e2]
set_option maxHeartbeats 2000000 in
theorem trimL_of (ad : Addr) (n c : Nat) (xs : List Int) (z : Nat) (hzn : z < n) (hz : ∀ j, j < z → xs.getD j 0 = 0) (hl : xs.getD z 0 ≠ 0) (w : World) (h : Kd.C (Kd.int .u8) w (some ad) n xs) (hc : n ≤ c) :
    Calls Tryd.prog 48 #[.slice (some ad) n c, .int .u8 0] w fun e w' => e = .returned (.slice (some (ad.add z)) (n - z) (c - z)) ∧ w' = w := by
  have H := Lib.hid h
  have HC := Lib.hid hc
  have HZ := Lib.hid hz
  have HL := Lib.hid hl
  clear h hc hz hl
  go_enter Tryd.func48, Tryd.ntmps48
  go_wp2_with fail
  go_slots
  go_loop [0] (fun s => ∃ i : Nat, s = .slice (some (ad.add i)) (n - i) (c - i) ∧ i ≤ z) (fun s => slen s)
  case atStart => exact ⟨0, by rw [Addr.add]; rfl, Nat.zero_le _⟩
  case round =>
    obtain ⟨i, rfl, h1⟩ := hrel
    have hn := H.out.2.1
    obtain ⟨ad', e, hcell⟩ := Kd.at_int H.out (i : Int) (by omega) (by omega)
    cases e
    rw [Int.toNat_natCast, show rd xs (i : Int) = xs.getD i 0 by simp [rd]] at hcell
    obtain ⟨p, hp⟩ : ∃ p, n - i = p + 1 := ⟨n - i - 1, by omega⟩
    by_cases h0 : i < z
    · have hcut := cut_one ad i n c (by omega) HC.out
      rw [hp] at hcut ⊢
      rw [HZ.out i h0] at hcell
      go_wp2_with fail
      go_round
      case rel => exact ⟨i + 1, rfl, by omega⟩
      case measure => show slen (.slice (some (ad.add (i + 1))) (n - (i + 1)) (c - (i + 1))) < slen (.slice (some (ad.add i)) (p + 1) (c - i)); simp only [slen]; omega
    · obtain rfl : i = z := by omega
      have hy := HL.out
      generalize xs.getD i 0 = y at hcell hy
      have hy1 : (y == 0) = false := by simpa using hy
      rw [hp]
      go_wp2_with fail
      go_ret
      exact ⟨rfl, rfl⟩
theorem trimL_nil (A : Option Addr) (c : Nat) (w : World) :
    Calls Tryd.prog 48 #[.slice A 0 c, .int .u8 0] w fun e w' => e = .returned (.slice none 0 0) ∧ w' = w := by
  go_enter Tryd.func48, Tryd.ntmps48
  go_wp2_with fail
  refine wp_loop_rounds 1 ?_
  rw [rounds_succ]
  go_wp2_with fail
  go_ret
  exact ⟨rfl, rfl⟩
theorem zeros_get {xs : List Int} {n : Nat} (hl : xs.length = n) : zeros xs = true ↔ ∀ j, j < n → xs.getD j 0 = 0 := by
  subst hl
  simp only [zeros, List.all_eq_true, decide_eq_true_eq]
  constructor
  · intro h j hj
    have := h xs[j] (List.getElem_mem hj)
    simpa [List.getD, hj] using this
  · intro h x hx
    obtain ⟨j, hj, rfl⟩ := List.getElem_of_mem hx
    have := h j hj
    simpa [List.getD, hj] using this
theorem C_sub {A : Option Addr} {n m : Nat} {xs : List Int} {w : World} (h : Kd.C (Kd.int .u8) w A n xs) (hm : m ≤ n) : Kd.C (Kd.int .u8) w A m (xs.take m) := (cut_to A n n m hm (Nat.le_refl _)).2 w xs h
theorem take_get (xs : List Int) (m j : Nat) (h : j < m) : (xs.take m).getD j 0 = xs.getD j 0 := by simp [List.getD, List.getElem?_take, h]
theorem toList_size (s : ByteArray) : s.toList.length = s.size := by rw [Lib.toList_data]; exact (Lib.size_eq s).symm
set_option maxHeartbeats 2000000 in
theorem trim_nil (A : Option Addr) (c : Nat) (s : ByteArray) (w : World) : Calls Tryd.prog 45 #[.slice A 0 c, .string s] w fun e w' => e = .returned (.slice none 0 0) ∧ Drawn0 w w' := by
  go_enter Tryd.func45, Tryd.ntmps45
  go_wp2_with fail
  go_ret
  exact ⟨rfl, Drawn0.refl w⟩
set_option maxRecDepth 20000 in
set_option maxHeartbeats 4000000 in
theorem trim_walk (A : Option Addr) (n c : Nat) (V W : Value) (s : ByteArray) (w : World) (hs : s.size = 1) (hb : bt s 0 = 0) (h0 : 0 < n)
    (h1 : ∀ k, Calls Tryd.prog 49 #[.slice A n c, .int .u8 0] (w.drewN k) fun e w' => e = .returned V ∧ w' = w.drewN k) (h2 : ∀ k, Calls Tryd.prog 48 #[V, .int .u8 0] (w.drewN k) fun e w' => e = .returned W ∧ w' = w.drewN k) (hn : n ≤ 9223372036854775807) :
    Calls Tryd.prog 45 #[.slice A n c, .string s] w fun e w' => e = .returned W ∧ Drawn0 w w' := by
  have H1 := Lib.hid h1
  have H2 := Lib.hid h2
  obtain ⟨p, rfl⟩ : ∃ p, n = p + 1 := ⟨n - 1, by omega⟩
  have hb2 : ∀ h : 0 < s.size, ((s[0]'h).toNat : Int) = 0 := fun h => by rw [← hb]; exact bt_at s 0 h
  have hse : (s.toList == []) = false := by
    have := toList_size s
    cases hl : s.toList with
    | nil => rw [hl] at this; simp at this; omega
    | cons a b => rfl
  clear h1 h2
  go_enter Tryd.func45, Tryd.ntmps45
  go_wp2_with fail
  go_quiet (first
    | (go_at_call 49; exact Calls.quiet_of_same (H1.out _))
    | (go_at_call 48; exact Calls.quiet_of_same (H2.out _)))
  go_wp2_with fail
  go_ret
  exact ⟨rfl, ⟨⟨_, rfl⟩⟩⟩
/-- what Trim hands back: nothing is left just if all are zeros -/
theorem trim_ex (A : Option Addr) (n c : Nat) (xs : List Int) (hx : xs.length = n) (hc : n ≤ c) : ∃ A' m c', (0 < m ↔ zeros xs = false) ∧ ∀ (s : ByteArray) (w : World), s.size = 1 → bt s 0 = 0 → Kd.C (Kd.int .u8) w A n xs →
    Calls Tryd.prog 45 #[.slice A n c, .string s] w fun e w' => e = .returned (.slice A' m c') ∧ Drawn0 w w' := by
  by_cases h0 : 0 < n
  · obtain ⟨m, m1, m2, m3⟩ := last_ex xs n
    have dC : ∀ {w : World} (k : Nat), Kd.C (Kd.int .u8) w A n xs → Kd.C (Kd.int .u8) (w.drewN k) A n xs := fun k h => Kd.C_below h (pw_below_drewN (Below.refl _ _) k)
    by_cases h1 : 0 < m
    · obtain ⟨z, z1, z2, z3⟩ := first_ex xs m h1 (m3 h1)
      refine ⟨A.map (·.add z), m - z, c - z, ?_, fun s w hs hb hC => ?_⟩
      · constructor
        · intro _
          cases hz : zeros xs
          · rfl
          · exact absurd ((zeros_get hx).1 hz z (by omega)) z3
        · intro _; omega
      · obtain ⟨ad, rfl, _⟩ := Kd.at_int hC (0 : Int) (by omega) (by omega)
        refine trim_walk (some ad) n c (.slice (some ad) m c) _ s w hs hb h0 (fun k => trimR_of _ n c xs m m1 m2 m3 _ (dC k hC) hc) (fun k => trimL_of ad m c (xs.take m) z z1 (fun j hj => by rw [take_get _ _ _ (by omega)]; exact z2 j hj) (by rw [take_get _ _ _ z1]; exact z3) _ (C_sub (dC k hC) m1) (by omega)) hC.2.1
    · obtain rfl : m = 0 := by omega
      refine ⟨none, 0, 0, ?_, fun s w hs hb hC => ?_⟩
      · rw [(zeros_get hx).2 fun j hj => m2 j (Nat.zero_le _) hj]; simp
      · exact trim_walk A n c (.slice A 0 c) _ s w hs hb h0 (fun k => trimR_of _ n c xs 0 m1 m2 m3 _ (dC k hC) hc) (fun k => trimL_nil A c _) hC.2.1
  · obtain rfl : n = 0 := by omega
    refine ⟨none, 0, 0, ?_, fun s w hs hb hC => trim_nil A c s w⟩
    rw [show xs = [] from List.eq_nil_of_length_eq_zero hx]; simp [zeros]
end Go.Proofs.YtdehcojmgmjcmaaDoor
