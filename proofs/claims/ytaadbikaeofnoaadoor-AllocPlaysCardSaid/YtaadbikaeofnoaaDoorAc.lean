/- Plain facts on counting bits: how many of the lowest bits of a number are set, and that the well known sums of halves, quarters and so on tell it. No program stands here. -/
import Derived.Test.YtaadbikaeofnoaaDoorAq
namespace Go.Proofs.YtaadbikaeofnoaaDoor

/-- how many of the lowest n bits are set -/
def cnt (S : Nat) : Nat → Nat
  | 0 => 0
  | n + 1 => cnt S n + (S.testBit n).toNat
theorem cnt_le (S n : Nat) : cnt S n ≤ n := by
  induction n with
  | zero => simp [cnt]
  | succ n ih => simp only [cnt]; have := Bool.toNat_le (S.testBit n); omega
theorem cnt_congr {S T : Nat} (n : Nat) (h : ∀ i, i < n → S.testBit i = T.testBit i) : cnt S n = cnt T n := by
  induction n with
  | zero => rfl
  | succ n ih => simp only [cnt]; rw [ih fun i hi => h i (by omega), h n (by omega)]
theorem cnt_add (S a b : Nat) : cnt S (a + b) = cnt S a + cnt (S / 2 ^ a) b := by
  induction b with
  | zero => simp [cnt]
  | succ b ih =>
    rw [← Nat.add_assoc]
    simp only [cnt]
    rw [ih, Nat.testBit_div_two_pow, Nat.add_assoc, Nat.add_comm b a]
theorem cnt_mod (S n p : Nat) (h : n ≤ p) : cnt (S % 2 ^ p) n = cnt S n := cnt_congr n fun i hi => by
  rw [Nat.testBit_mod_two_pow]; simp; omega
theorem cnt_high {S n : Nat} (h : S < 2 ^ n) (k : Nat) : cnt S (n + k) = cnt S n := by
  rw [cnt_add, Nat.div_eq_of_lt h]
  have : ∀ k, cnt 0 k = 0 := fun k => by induction k with
    | zero => rfl
    | succ k ih => simp [cnt, ih]
  rw [this]; rfl
theorem cnt_word (S k : Nat) : cnt S (64 * (k + 1)) = cnt S (64 * k) + cnt (dg 64 S k) 64 := by
  rw [show 64 * (k + 1) = 64 * k + 64 by omega, cnt_add]
  unfold dg
  rw [cnt_mod _ 64 64 (by omega)]
theorem cnt_flip {S T i : Nat} (n : Nat) (hi : i < n) (hs : S.testBit i = false) (ht : T.testBit i = true) (h : ∀ j, j ≠ i → S.testBit j = T.testBit j) : cnt T n = cnt S n + 1 := by
  induction n with
  | zero => omega
  | succ n ih =>
    simp only [cnt]
    by_cases e : n = i
    · subst e
      rw [hs, ht, cnt_congr n fun j hj => (h j (by omega)).symm]
      simp
    · rw [ih (by omega), h n e]; omega
theorem cnt_or {S i n : Nat} (hi : i < n) (h : S.testBit i = false) : cnt (S ||| 2 ^ i) n = cnt S n + 1 :=
  cnt_flip n hi h (by rw [or_bit]; simp) fun j hj => by rw [or_bit]; simp [Ne.symm hj]
theorem cnt_xor {S i n : Nat} (hi : i < n) (h : S.testBit i = true) : cnt S n = cnt (S ^^^ 2 ^ i) n + 1 :=
  cnt_flip n hi (by rw [xor_bit, h]; simp) h fun j hj => by rw [xor_bit]; simp [Ne.symm hj]

/-! bytes, the lowest first, and what and, shift and sum do to them -/
def J : List Nat → Nat
  | [] => 0
  | a :: l => a + 256 * J l
theorem and_split {a m : Nat} (ha : a < 256) (hm : m < 256) (b c : Nat) : (a + 256 * b) &&& (m + 256 * c) = (a &&& m) + 256 * (b &&& c) := by
  have h1 : ((a + 256 * b) &&& (m + 256 * c)) % 2 ^ 8 = a &&& m := by
    rw [Nat.and_mod_two_pow]; congr 1 <;> omega
  have h2 : ((a + 256 * b) &&& (m + 256 * c)) / 2 ^ 8 = b &&& c := by
    rw [Nat.and_div_two_pow]; congr 1 <;> omega
  omega
theorem and_lt {a m : Nat} (ha : a < 256) : a &&& m < 256 := Nat.lt_of_le_of_lt Nat.and_le_left ha
theorem and_J (m : Nat) (hm : m < 256) (l : List Nat) (h : ∀ a ∈ l, a < 256) : J l &&& J (List.replicate l.length m) = J (l.map fun a => a &&& m) := by
  induction l with
  | nil => simp [J]
  | cons a l ih =>
    simp only [List.length_cons, List.replicate_succ, J, List.map_cons]
    rw [and_split (h a List.mem_cons_self) hm, ih fun x hx => h x (List.mem_cons_of_mem _ hx)]
theorem shr_and_J (t m : Nat) (ht : t ≤ 8) (hm : m < 256) (hk : ∀ a, a < 256 → ∀ c, c < 2 ^ t → (a / 2 ^ t + 2 ^ (8 - t) * c) &&& m = a / 2 ^ t &&& m) (l : List Nat) (h : ∀ a ∈ l, a < 256) :
    J l / 2 ^ t &&& J (List.replicate l.length m) = J (l.map fun a => a / 2 ^ t &&& m) := by
  induction l with
  | nil => simp [J]
  | cons a l ih =>
    simp only [List.length_cons, List.replicate_succ, J, List.map_cons]
    have ha := h a List.mem_cons_self
    have hp : 256 = 2 ^ t * 2 ^ (8 - t) := by rw [← Nat.pow_add, show t + (8 - t) = 8 by omega]
    have hpos : 0 < 2 ^ t := Nat.two_pow_pos t
    have e : (a + 256 * J l) / 2 ^ t = (a / 2 ^ t + 2 ^ (8 - t) * (J l % 2 ^ t)) + 256 * (J l / 2 ^ t) := by
      have h1 : (a + 256 * J l) / 2 ^ t = a / 2 ^ t + 2 ^ (8 - t) * J l := by
        rw [show 256 * J l = 2 ^ t * (2 ^ (8 - t) * J l) by rw [← Nat.mul_assoc, ← hp], Nat.add_mul_div_left _ _ hpos]
      rw [h1]
      have h2 := Nat.div_add_mod (J l) (2 ^ t)
      have h3 : 256 * (J l / 2 ^ t) = 2 ^ (8 - t) * (2 ^ t * (J l / 2 ^ t)) := by rw [← Nat.mul_assoc, Nat.mul_comm (2 ^ (8 - t)), ← hp]
      rw [h3, Nat.add_assoc, ← Nat.mul_add, Nat.add_comm (J l % 2 ^ t), h2]
    have hlt : a / 2 ^ t + 2 ^ (8 - t) * (J l % 2 ^ t) < 256 := by
      have h1 : a / 2 ^ t < 2 ^ (8 - t) := by rw [Nat.div_lt_iff_lt_mul hpos, Nat.mul_comm, ← hp]; exact ha
      have h2 : J l % 2 ^ t + 1 ≤ 2 ^ t := Nat.mod_lt _ hpos
      have h3 := Nat.mul_le_mul_left (2 ^ (8 - t)) h2
      rw [Nat.mul_comm (2 ^ (8 - t)) (2 ^ t), ← hp, Nat.mul_add, Nat.mul_one] at h3
      omega
    rw [e, and_split hlt hm, hk a ha _ (Nat.mod_lt _ hpos), ih fun x hx => h x (List.mem_cons_of_mem _ hx)]
theorem add_J (f g : Nat → Nat) (l : List Nat) : J (l.map f) + J (l.map g) = J (l.map fun a => f a + g a) := by
  induction l with
  | nil => rfl
  | cons a l ih => simp only [List.map_cons, J, ← ih]; omega
theorem J_lt (l : List Nat) (h : ∀ a ∈ l, a < 256) : J l < 256 ^ l.length := by
  induction l with
  | nil => simp [J]
  | cons a l ih =>
    have h1 := ih fun x hx => h x (List.mem_cons_of_mem _ hx)
    have h2 := h a List.mem_cons_self
    simp only [J, List.length_cons, Nat.pow_succ]
    omega
/-- eight bytes of a word -/
def bys (x : Nat) : List Nat := (List.range 8).map fun k => dg 8 x k
theorem bys_lt (x : Nat) : ∀ a ∈ bys x, a < 256 := by
  intro a ha
  obtain ⟨k, _, rfl⟩ := List.mem_map.1 ha
  exact dg_lt 8 x k
theorem bys_J {x : Nat} (h : x < 2 ^ 64) : J (bys x) = x := by
  simp only [bys, List.range, List.range.loop, List.map_cons, List.map_nil, J, dg]
  omega

def c1 (a : Nat) : Nat := (a / 2 &&& 85) + (a &&& 85)
def c2 (a : Nat) : Nat := (a / 4 &&& 51) + (a &&& 51)
def c3 (a : Nat) : Nat := (a / 16 + a) &&& 15
theorem c_all : ∀ a, a < 256 → c1 a < 256 ∧ c2 (c1 a) ≤ 68 ∧ c2 (c1 a) % 16 ≤ 4 ∧ c3 (c2 (c1 a)) = cnt a 8 := by decide +kernel
theorem k2 : ∀ a, a < 256 → ∀ c, c < 2 ^ 1 → (a / 2 ^ 1 + 2 ^ (8 - 1) * c) &&& 85 = a / 2 ^ 1 &&& 85 := by decide +kernel
theorem k4 : ∀ a, a < 256 → ∀ c, c < 2 ^ 2 → (a / 2 ^ 2 + 2 ^ (8 - 2) * c) &&& 51 = a / 2 ^ 2 &&& 51 := by decide +kernel
def m1 : Nat := 6148914691236517205
def m2 : Nat := 3689348814741910323
def m3 : Nat := 1085102592571150095
theorem m1_J : m1 = J (List.replicate 8 85) := by decide +kernel
theorem m2_J : m2 = J (List.replicate 8 51) := by decide +kernel
theorem m3_J : m3 = J (List.replicate 8 15) := by decide +kernel
theorem step1 (l : List Nat) (hl : l.length = 8) (h : ∀ a ∈ l, a < 256) : (J l / 2 &&& m1) + (J l &&& m1) = J (l.map c1) := by
  have e1 := shr_and_J 1 85 (by omega) (by omega) k2 l h
  have e2 := and_J 85 (by omega) l h
  rw [hl, ← m1_J] at e1 e2
  rw [Nat.pow_one] at e1
  rw [e1, e2, add_J]
  rfl
theorem step2 (l : List Nat) (hl : l.length = 8) (h : ∀ a ∈ l, a < 256) : (J l / 4 &&& m2) + (J l &&& m2) = J (l.map c2) := by
  have e1 := shr_and_J 2 51 (by omega) (by omega) k4 l h
  have e2 := and_J 51 (by omega) l h
  rw [hl, ← m2_J] at e1 e2
  rw [show (2 : Nat) ^ 2 = 4 from rfl] at e1
  rw [e1, e2, add_J]
  rfl
theorem and15 (x : Nat) : x &&& 15 = x % 16 := Nat.and_two_pow_sub_one_eq_mod x 4
/-- where every byte and every half byte is small, shifted by four and added nothing is carried -/
theorem step3 (l : List Nat) (h : ∀ a ∈ l, a ≤ 68 ∧ a % 16 ≤ 4) : (J l / 16 + J l) &&& J (List.replicate l.length 15) = J (l.map c3) := by
  induction l with
  | nil => simp [J]
  | cons a l ih =>
    have ha := h a List.mem_cons_self
    have hr : J l % 16 ≤ 4 := by
      cases l with
      | nil => simp [J]
      | cons b l => have := h b (List.mem_cons_of_mem _ List.mem_cons_self); simp only [J]; omega
    simp only [List.length_cons, List.replicate_succ, J, List.map_cons]
    have e : (a + 256 * J l) / 16 + (a + 256 * J l) = (a / 16 + 16 * (J l % 16) + a) + 256 * (J l / 16 + J l) := by omega
    rw [e, and_split (by omega) (by omega), ih fun x hx => h x (List.mem_cons_of_mem _ hx)]
    congr 1
    unfold c3
    rw [and15, and15]
    omega
theorem div2 {q0 q1 R X : Nat} (h0 : q0 < 256) (h1 : q1 < 256) (hX : X = q0 + 256 * (q1 + 256 * R)) : X / 65536 = R := by omega
theorem div4 {q0 q1 q2 q3 R X : Nat} (h0 : q0 < 256) (h1 : q1 < 256) (h2 : q2 < 256) (h3 : q3 < 256) (hX : X = q0 + 256 * (q1 + 256 * (q2 + 256 * (q3 + 256 * R)))) : X / 4294967296 = R := by omega
theorem add1 {p q r s t u : Nat} (h1 : r = p + 256 * s) (h2 : t = q + 256 * u) : r + t = (p + q) + 256 * (s + u) := by omega
theorem div1 {p r X : Nat} (h : p < 256) (hX : X = p + 256 * r) : X / 256 = r := by omega
theorem fin_mod {s Z X : Nat} (h : s < 128) (hX : X = s + 256 * Z) : X % 128 = s := by omega
theorem bnd {a b : Nat} (h : b ≤ a) {k : Nat} (hk : a ≤ k) : a + b ≤ k + k := by omega
theorem le_of_step {p r X : Nat} (hX : X = p + 256 * r) : r ≤ X := by omega
theorem eight {a b c d e f g h : Nat} (h0 : a ≤ 8) (h1 : b ≤ 8) (h2 : c ≤ 8) (h3 : d ≤ 8) (h4 : e ≤ 8) (h5 : f ≤ 8) (h6 : g ≤ 8) (h7 : h ≤ 8) : a + b + (c + d) + (e + f + (g + h)) < 128 := by omega
theorem two_lt {a b : Nat} (h0 : a ≤ 8) (h1 : b ≤ 8) : a + b < 256 := by omega
theorem four_lt {a b c d : Nat} (h0 : a ≤ 8) (h1 : b ≤ 8) (h2 : c ≤ 8) (h3 : d ≤ 8) : a + b + (c + d) < 256 := by omega
theorem last_sum (p0 p1 p2 p3 p4 p5 p6 p7 r1 r2 r3 r4 r5 r6 y : Nat) (h0 : p0 ≤ 8) (h1 : p1 ≤ 8) (h2 : p2 ≤ 8) (h3 : p3 ≤ 8) (h4 : p4 ≤ 8) (h5 : p5 ≤ 8) (h6 : p6 ≤ 8) (h7 : p7 ≤ 8)
    (hy : y = p0 + 256 * r1) (g1 : r1 = p1 + 256 * r2) (g2 : r2 = p2 + 256 * r3) (g3 : r3 = p3 + 256 * r4) (g4 : r4 = p4 + 256 * r5) (g5 : r5 = p5 + 256 * r6) (g6 : r6 = p6 + 256 * p7) :
    y / 256 = r1 ∧ (y + r1) / 65536 = r2 + r3 ∧ (y + r1 + (r2 + r3)) / 4294967296 = r4 + r5 + (r6 + p7) ∧
    (y + r1 + (r2 + r3) + (r4 + r5 + (r6 + p7))) % 128 = p0 + p1 + (p2 + p3) + (p4 + p5 + (p6 + p7)) := by
  have a0 := add1 hy g1
  have a1 := add1 g1 g2
  have a2 := add1 g2 g3
  have a3 := add1 g3 g4
  have a4 := add1 g4 g5
  have a5 := add1 g5 g6
  have a6 := add1 g6 (show p7 = p7 + 256 * 0 from rfl)
  have b0 := add1 a0 a2
  have b1 := add1 a1 a3
  have b2 := add1 a2 a4
  have b3 := add1 a3 a5
  have b4 := add1 a4 a6
  have c0 := add1 b0 b4
  refine ⟨div1 (Nat.lt_of_le_of_lt h0 (by decide)) hy, ?_, ?_, ?_⟩
  · exact div2 (two_lt h0 h1) (two_lt h1 h2) (by rw [← a1]; exact a0)
  · exact div4 (four_lt h0 h1 h2 h3) (four_lt h1 h2 h3 h4) (four_lt h2 h3 h4 h5) (four_lt h3 h4 h5 h6) (by rw [← b3, ← b2, ← b1]; exact b0)
  · exact fin_mod (eight h0 h1 h2 h3 h4 h5 h6 h7) c0
theorem cnt_bytes (x : Nat) : cnt x 64 = cnt (dg 8 x 0) 8 + cnt (dg 8 x 1) 8 + cnt (dg 8 x 2) 8 + cnt (dg 8 x 3) 8 + cnt (dg 8 x 4) 8 + cnt (dg 8 x 5) 8 + cnt (dg 8 x 6) 8 + cnt (dg 8 x 7) 8 := by
  have h : ∀ k, cnt x (8 * (k + 1)) = cnt x (8 * k) + cnt (dg 8 x k) 8 := fun k => by
    rw [show 8 * (k + 1) = 8 * k + 8 by omega, cnt_add]
    unfold dg
    rw [cnt_mod _ 8 8 (by omega)]
  rw [show (64 : Nat) = 8 * (7 + 1) from rfl, h 7, h 6, h 5, h 4, h 3, h 2, h 1, h 0]
  simp [cnt]
end Go.Proofs.YtaadbikaeofnoaaDoor
