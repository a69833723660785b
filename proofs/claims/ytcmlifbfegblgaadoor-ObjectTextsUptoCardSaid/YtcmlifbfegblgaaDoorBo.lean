/- ref01.Decode: it reads what bits.Decode reads (plain law). -/
import Derived.Test.YtcmlifbfegblgaaDoorBf
import Derived.Test.YtcmlifbfegblgaaDoorQObjectTextsx2
import Derived.Test.YtcmlifbfegblgaaDoorWNEv
import Derived.IntWalk
namespace Go.Proofs.YtcmlifbfegblgaaDoor
set_option linter.unusedVariables false
set_option linter.unusedSimpArgs false
open Go.RowKit Go.Proofs.YtcmlifbfegblgaaDoorW.PrintWords Go.Proofs.YtcmlifbfegblgaaDoorW.PrintLast Go.Proofs.YtcmlifbfegblgaaDoorW.PrintMore
open Go.Proofs.YtcmlifbfegblgaaDoor.QObjectTexts

theorem w64in (n : Int) (h : -9223372036854775808 ≤ n ∧ n ≤ 9223372036854775807) : wrap64 n = n := by unfold wrap64; omega
theorem sign_all (n : Nat) (h : n < 256) : stillroomref01_sign.f 40 (n : Int) = some (Lib.indexByte signs.data.toList n.toUInt8) := by
  have H : ∀ m : Fin 256, stillroomref01_sign.f 40 ((m.val : Nat) : Int) = some (Lib.indexByte signs.data.toList m.val.toUInt8) := by decide +kernel
  exact H ⟨n, h⟩
theorem sign_ev (s : ByteArray) (i : Int) : Ev (fun k => stillroomref01_sign.f k (bt s i)) (sgn s i) := by
  obtain ⟨h0, h1⟩ := bt_range s i
  obtain ⟨n, hn⟩ := Int.eq_ofNat_of_zero_le h0
  have h := sign_all n (by omega)
  refine Ev.of (fun k => stillroomref01_sign.mono _ k) (k := 40) ?_
  unfold sgn
  rw [hn]
  exact h

/-- The q-th bit that the signs tell. -/
def sbit (s : ByteArray) (q : Nat) : Int := sgn s ((q / 5 : Nat) : Int) / 2 ^ (4 - q % 5) % 2
theorem sbit_range (s : ByteArray) (q : Nat) : 0 ≤ sbit s q ∧ sbit s q ≤ 1 := by unfold sbit; omega
def gb (b : Nat → Int) (T q : Nat) : Int := if q < T then b q else 0
def pb (b : Nat → Int) (T m : Nat) : Int := gb b T (8 * m) * 128 + gb b T (8 * m + 1) * 64 + gb b T (8 * m + 2) * 32 + gb b T (8 * m + 3) * 16 + gb b T (8 * m + 4) * 8 + gb b T (8 * m + 5) * 4 + gb b T (8 * m + 6) * 2 + gb b T (8 * m + 7)
theorem gb_range (b : Nat → Int) (hb : ∀ q, 0 ≤ b q ∧ b q ≤ 1) (T q : Nat) : 0 ≤ gb b T q ∧ gb b T q ≤ 1 := by
  unfold gb
  split
  · exact hb q
  · omega
theorem gb_succ (b : Nat → Int) (T q : Nat) : gb b (T + 1) q = gb b T q + if q = T then b T else 0 := by
  unfold gb
  by_cases h : q < T
  · rw [if_pos (by omega), if_pos h, if_neg (by omega)]; omega
  · by_cases h2 : q = T
    · rw [if_pos (by omega), if_neg h, if_pos h2, h2]; omega
    · rw [if_neg (by omega), if_neg h, if_neg h2]; omega
theorem pb_range (b : Nat → Int) (hb : ∀ q, 0 ≤ b q ∧ b q ≤ 1) (T m : Nat) : 0 ≤ pb b T m ∧ pb b T m ≤ 255 := by
  have h0 := gb_range b hb T (8 * m)
  have h1 := gb_range b hb T (8 * m + 1)
  have h2 := gb_range b hb T (8 * m + 2)
  have h3 := gb_range b hb T (8 * m + 3)
  have h4 := gb_range b hb T (8 * m + 4)
  have h5 := gb_range b hb T (8 * m + 5)
  have h6 := gb_range b hb T (8 * m + 6)
  have h7 := gb_range b hb T (8 * m + 7)
  unfold pb
  omega
theorem pb_succ (b : Nat → Int) (T m : Nat) : pb b (T + 1) m = pb b T m + if T / 8 = m then b T * 2 ^ (7 - T % 8) else 0 := by
  unfold pb
  rw [gb_succ, gb_succ, gb_succ, gb_succ, gb_succ, gb_succ, gb_succ, gb_succ]
  by_cases h : T / 8 = m
  · rw [if_pos h]
    have hc : T % 8 = 0 ∨ T % 8 = 1 ∨ T % 8 = 2 ∨ T % 8 = 3 ∨ T % 8 = 4 ∨ T % 8 = 5 ∨ T % 8 = 6 ∨ T % 8 = 7 := by omega
    generalize b T = v
    rcases hc with e | e | e | e | e | e | e | e <;> rw [e] <;>
      (first
        | (rw [if_pos (show 8 * m = T by omega), if_neg (by omega), if_neg (by omega), if_neg (by omega), if_neg (by omega), if_neg (by omega), if_neg (by omega), if_neg (by omega)])
        | (rw [if_neg (by omega), if_pos (show 8 * m + 1 = T by omega), if_neg (by omega), if_neg (by omega), if_neg (by omega), if_neg (by omega), if_neg (by omega), if_neg (by omega)])
        | (rw [if_neg (by omega), if_neg (by omega), if_pos (show 8 * m + 2 = T by omega), if_neg (by omega), if_neg (by omega), if_neg (by omega), if_neg (by omega), if_neg (by omega)])
        | (rw [if_neg (by omega), if_neg (by omega), if_neg (by omega), if_pos (show 8 * m + 3 = T by omega), if_neg (by omega), if_neg (by omega), if_neg (by omega), if_neg (by omega)])
        | (rw [if_neg (by omega), if_neg (by omega), if_neg (by omega), if_neg (by omega), if_pos (show 8 * m + 4 = T by omega), if_neg (by omega), if_neg (by omega), if_neg (by omega)])
        | (rw [if_neg (by omega), if_neg (by omega), if_neg (by omega), if_neg (by omega), if_neg (by omega), if_pos (show 8 * m + 5 = T by omega), if_neg (by omega), if_neg (by omega)])
        | (rw [if_neg (by omega), if_neg (by omega), if_neg (by omega), if_neg (by omega), if_neg (by omega), if_neg (by omega), if_pos (show 8 * m + 6 = T by omega), if_neg (by omega)])
        | (rw [if_neg (by omega), if_neg (by omega), if_neg (by omega), if_neg (by omega), if_neg (by omega), if_neg (by omega), if_neg (by omega), if_pos (show 8 * m + 7 = T by omega)])) <;> simp <;> omega
  · rw [if_neg h, if_neg (by omega), if_neg (by omega), if_neg (by omega), if_neg (by omega), if_neg (by omega), if_neg (by omega), if_neg (by omega), if_neg (by omega)]
    omega
def outL (b : Nat → Int) (T N : Nat) : List Int := (List.range N).map (pb b T)
theorem outL_len (b : Nat → Int) (T N : Nat) : (outL b T N).length = N := by simp [outL]
theorem outL_zero (b : Nat → Int) (N : Nat) : outL b 0 N = List.replicate N 0 := by
  have h : ∀ m, pb b 0 m = 0 := fun m => by simp [pb, gb]
  unfold outL
  rw [List.map_congr_left (fun m _ => h m)]
  simp [List.map_const']
theorem outL_set (b : Nat → Int) (T N : Nat) (hT : T / 8 < N) : (outL b T N).set (T / 8) (pb b T (T / 8) + b T * 2 ^ (7 - T % 8)) = outL b (T + 1) N := by
  apply List.ext_getElem
  · simp [outL]
  · intro m h1 h2
    have hm : m < N := by simpa [outL] using h2
    rw [List.getElem_set]
    simp only [outL, List.getElem_map, List.getElem_range]
    rw [pb_succ]
    split
    · rename_i e; rw [e]
    · omega
theorem outL_same (b : Nat → Int) (T N : Nat) (h : N ≤ T / 8 ∨ b T = 0) : outL b (T + 1) N = outL b T N := by
  unfold outL
  apply List.map_congr_left
  intro m hm
  have hm := List.mem_range.1 hm
  rw [pb_succ]
  rcases h with h | h
  · rw [if_neg (by omega)]; omega
  · rw [h]; split <;> omega
theorem outL_rd (b : Nat → Int) (T N m : Nat) (h : m < N) : rd (outL b T N) (m : Int) = pb b T m := by
  unfold rd outL
  simp [List.getD, h]
theorem shl_one (c : Nat) (h : c < 8) : shl .u8 1 (7 - (c : Int)) = 2 ^ (7 - c) := by
  have : c = 0 ∨ c = 1 ∨ c = 2 ∨ c = 3 ∨ c = 4 ∨ c = 5 ∨ c = 6 ∨ c = 7 := by omega
  rcases this with rfl | rfl | rfl | rfl | rfl | rfl | rfl | rfl <;> decide +kernel
theorem shr_bit (v : Int) (j : Nat) (hv : 0 ≤ v) (h : j < 5) : Int.tmod (shr .i64 v (4 - (j : Int))) 2 = v / 2 ^ (4 - j) % 2 := by
  have e : shr .i64 v (4 - (j : Int)) = v / 2 ^ (4 - j) := by
    unfold shr
    have : j = 0 ∨ j = 1 ∨ j = 2 ∨ j = 3 ∨ j = 4 := by omega
    rcases this with rfl | rfl | rfl | rfl | rfl <;> rfl
  rw [e, Int.tmod_eq_emod_of_nonneg (Int.ediv_nonneg hv (Int.le_of_lt (Int.pow_pos (by decide))))]
theorem dec_step (s : ByteArray) (hs : s.size ≤ 16777216) (N i j k : Nat) (hN : N = 5 * s.size / 8) (hi : i < s.size) (h0 : 0 ≤ sgn s i) (hj5 : j < 5) :
    stillroomref01_Decode.l1 (k + 1) s (outL (sbit s) (5 * i + j) N) (i : Int) (sgn s i) (j : Int) = stillroomref01_Decode.l1 k s (outL (sbit s) (5 * i + j + 1) N) (i : Int) (sgn s i) ((j + 1 : Nat) : Int) := by
  obtain ⟨v, hv⟩ : ∃ v, sgn s i = v := ⟨_, rfl⟩
  obtain ⟨T, hT⟩ : ∃ T, 5 * i + j = T := ⟨_, rfl⟩
  have e1 : wrap64 (wrap64 (5 * (i : Int)) + (j : Int)) = (T : Int) := by rw [w64in (5 * (i : Int)) (by omega), w64in _ (by omega)]; omega
  have hT2 : T ≤ 100000000 := by omega
  have e2 : wrap64 (Int.tdiv (T : Int) 8) = ((T / 8 : Nat) : Int) := by
    rw [Int.tdiv_eq_ediv_of_nonneg (by omega), w64in _ (by omega)]; omega
  have e3 : IntKind.u64.wrap (wrap64 (4 - (j : Int))) = 4 - (j : Int) := by rw [w64in _ (by omega), IntKind.wrap_u64]; omega
  have e4 : Int.tmod (shr .i64 (sgn s i) (4 - (j : Int))) 2 = sbit s T := by
    rw [shr_bit _ _ h0 hj5]
    unfold sbit
    rw [show T / 5 = i by omega, show T % 5 = j by omega]
  have e5 : IntKind.u64.wrap (wrap64 (7 - Int.tmod (T : Int) 8)) = 7 - ((T % 8 : Nat) : Int) := by
    rw [Int.tmod_eq_emod_of_nonneg (by omega), w64in _ (by omega), IntKind.wrap_u64]; omega
  have e6 : wrap64 ((j : Int) + 1) = ((j + 1 : Nat) : Int) := by rw [w64in _ (by omega)]; omega
  rw [hT]
  rw [hv] at *
  have hl : ((outL (sbit s) T N).length : Int) = N := by rw [outL_len]
  obtain ⟨O, hO⟩ : ∃ O, outL (sbit s) T N = O := ⟨_, rfl⟩
  have hs2 : T / 8 < N → O.set (T / 8) (pb (sbit s) T (T / 8) + sbit s T * 2 ^ (7 - T % 8)) = outL (sbit s) (T + 1) N := fun h => hO ▸ outL_set (sbit s) T N h
  have hsm : (N ≤ T / 8 ∨ sbit s T = 0) → outL (sbit s) (T + 1) N = O := fun h => (outL_same (sbit s) T N h).trans hO
  have hrd : T / 8 < N → rd O ((T / 8 : Nat) : Int) = pb (sbit s) T (T / 8) := fun h => hO ▸ outL_rd (sbit s) T N (T / 8) h
  have hlt := (pb_range (sbit s) (sbit_range s) (T + 1) (T / 8)).2
  rw [pb_succ, if_pos rfl] at hlt
  have hge := (pb_range (sbit s) (sbit_range s) T (T / 8)).1
  have hbr := sbit_range s T
  rw [hO] at hl ⊢
  have hc8 : T % 8 < 8 := Nat.mod_lt _ (by decide)
  generalize sbit s T = b at *
  generalize pb (sbit s) T (T / 8) = q at *
  generalize outL (sbit s) (T + 1) N = O2 at *
  generalize T / 8 = m at *
  generalize T % 8 = c at *
  have hsh : shl .u8 1 (7 - (c : Int)) = 2 ^ (7 - c) := shl_one c hc8
  have hp : (0 : Int) < 2 ^ (7 - c) := Int.pow_pos (by decide)
  generalize (2 : Int) ^ (7 - c) = z at *
  clear hO hN hT hT2
  have hj5' : (j : Int) < 5 := by omega
  have h4j : (0 : Int) ≤ 4 - (j : Int) := by omega
  have h7c : (0 : Int) ≤ 7 - (c : Int) := by omega
  have hm0 : (0 : Int) ≤ (m : Int) := by omega
  conv => lhs; unfold stillroomref01_Decode.l1
  simp only [e1, e2, e3, e4, e5, e6, hj5', h4j, h7c, hm0, hl, if_true]
  by_cases hc : m < N
  · have hc2 : (m : Int) < (N : Int) := by omega
    by_cases hb : b = 1
    · subst hb
      rw [Int.one_mul] at hlt hs2
      have hmod : (q + z) % 256 = q + z := Int.emod_eq_of_lt (by omega) (by omega)
      simp only [hc2, if_true, hrd hc, hsh, hmod, Int.toNat_natCast, hs2 hc]
    · simp only [hc2, if_true, hb, if_false, hsm (.inr (by omega))]
  · have hc2 : ¬ (m : Int) < (N : Int) := by omega
    simp only [hc2, if_false, hsm (.inl (by omega))]
theorem dec_l1 (s : ByteArray) (hs : s.size ≤ 16777216) (N i : Nat) (hN : N = 5 * s.size / 8) (hi : i < s.size) (h0 : 0 ≤ sgn s i) (r : List Int × Int)
    (h : Ev (fun k => stillroomref01_Decode.l0 k s (outL (sbit s) (5 * i + 5) N) ((i + 1 : Nat) : Int)) r) :
    ∀ (m j : Nat), j + m = 5 → Ev (fun k => stillroomref01_Decode.l1 k s (outL (sbit s) (5 * i + j) N) (i : Int) (sgn s i) (j : Int)) r
  | 0, j, hj => by
    obtain rfl : j = 5 := by omega
    have e : wrap64 ((i : Int) + 1) = ((i + 1 : Nat) : Int) := by rw [w64in _ (by omega)]; omega
    refine Ev.step (f := fun k => stillroomref01_Decode.l0 k s (outL (sbit s) (5 * i + 5) N) ((i + 1 : Nat) : Int)) (fun k => ?_) h
    conv => lhs; unfold stillroomref01_Decode.l1
    rw [if_neg (by omega), e]
  | m + 1, j, hj => by
    have ih := dec_l1 s hs N i hN hi h0 r h m (j + 1) (by omega)
    exact Ev.step (fun k => dec_step s hs N i j k hN hi h0 (by omega)) ih
theorem dec_bad (s : ByteArray) (hs : s.size ≤ 16777216) (N : Nat) (hN : N = 5 * s.size / 8) (bad : Nat) (hb : bad < s.size) (hneg : sgn s bad < 0) (hg : ∀ i : Nat, i < bad → 0 ≤ sgn s i) :
    ∀ (m i : Nat), i + m = bad → Ev (fun k => stillroomref01_Decode.l0 k s (outL (sbit s) (5 * i) N) (i : Int)) ([], 10)
  | 0, i, hi => by
    obtain rfl : i = bad := by omega
    refine Ev.step (f := fun k => (stillroomref01_sign.f k (bt s i)).bind fun v => if v < 0 then some (([] : List Int), 10) else stillroomref01_Decode.l1 k s (outL (sbit s) (5 * i) N) (i : Int) v 0) (fun k => ?_) (Ev.bind (sign_ev s i) (Ev.congr (f := fun _ => some ([], 10)) (fun k => if_pos hneg) (Ev.now _)))
    conv => lhs; unfold stillroomref01_Decode.l0
    rw [if_pos (by omega), if_pos (by omega)]
  | m + 1, i, hi => by
    have ih := dec_bad s hs N hN bad hb hneg hg m (i + 1) (by omega)
    have hgi := hg i (by omega)
    have h1 := dec_l1 s hs N i hN (by omega) hgi ([], 10) (by rw [show 5 * i + 5 = 5 * (i + 1) by omega]; exact ih) 5 0 (by omega)
    refine Ev.step (f := fun k => (stillroomref01_sign.f k (bt s i)).bind fun v => if v < 0 then some (([] : List Int), 10) else stillroomref01_Decode.l1 k s (outL (sbit s) (5 * i) N) (i : Int) v 0) (fun k => ?_) (Ev.bind (sign_ev s i) (Ev.congr (f := fun k => stillroomref01_Decode.l1 k s (outL (sbit s) (5 * i) N) (i : Int) (sgn s i) 0) (fun k => if_neg (by omega)) h1))
    conv => lhs; unfold stillroomref01_Decode.l0
    rw [if_pos (by omega), if_pos (by omega)]
theorem dec_good (s : ByteArray) (hs : s.size ≤ 16777216) (N : Nat) (hN : N = 5 * s.size / 8) (hg : ∀ i : Nat, i < s.size → 0 ≤ sgn s i) (t : ByteArray) (ht : Ev (fun k => stillroomref01_Encode.f k (outL (sbit s) (5 * s.size) N)) t) :
    ∀ (m i : Nat), i + m = s.size → Ev (fun k => stillroomref01_Decode.l0 k s (outL (sbit s) (5 * i) N) (i : Int)) (if t.toList = s.toList then (outL (sbit s) (5 * s.size) N, 0) else ([], 10))
  | 0, i, hi => by
    obtain rfl : i = s.size := by omega
    refine Ev.step (f := fun k => (stillroomref01_Encode.f k (outL (sbit s) (5 * s.size) N)).bind fun v => if v.toList = s.toList then some (outL (sbit s) (5 * s.size) N, 0) else some (([] : List Int), 10)) (fun k => ?_) (Ev.bind ht (Ev.congr (f := fun _ => some (if t.toList = s.toList then (outL (sbit s) (5 * s.size) N, 0) else ([], 10))) (fun k => by split <;> rfl) (Ev.now _)))
    conv => lhs; unfold stillroomref01_Decode.l0
    rw [if_neg (by omega)]
  | m + 1, i, hi => by
    have ih := dec_good s hs N hN hg t ht m (i + 1) (by omega)
    have hgi := hg i (by omega)
    have h1 := dec_l1 s hs N i hN (by omega) hgi _ (by rw [show 5 * i + 5 = 5 * (i + 1) by omega]; exact ih) 5 0 (by omega)
    refine Ev.step (f := fun k => (stillroomref01_sign.f k (bt s i)).bind fun v => if v < 0 then some (([] : List Int), 10) else stillroomref01_Decode.l1 k s (outL (sbit s) (5 * i) N) (i : Int) v 0) (fun k => ?_) (Ev.bind (sign_ev s i) (Ev.congr (f := fun k => stillroomref01_Decode.l1 k s (outL (sbit s) (5 * i) N) (i : Int) (sgn s i) 0) (fun k => if_neg (by omega)) h1))
    conv => lhs; unfold stillroomref01_Decode.l0
    rw [if_pos (by omega), if_pos (by omega)]
/-- The bits of the bytes, as the reference asks for them. -/
def bitO (b : Nat → Int) (N q : Nat) : Int := if q < 8 * N then b q else 0
theorem bitO_range (b : Nat → Int) (hb : ∀ q, 0 ≤ b q ∧ b q ≤ 1) (N q : Nat) : 0 ≤ bitO b N q ∧ bitO b N q ≤ 1 := by
  unfold bitO
  split
  · exact hb q
  · omega
theorem gb_full (b : Nat → Int) (T q : Nat) (h : q < T) : gb b T q = b q := if_pos h
theorem shr_eight (v : Int) (c : Nat) (h : c < 8) : shr .u8 v (7 - (c : Int)) = v / 2 ^ (7 - c) := by
  unfold shr
  have : c = 0 ∨ c = 1 ∨ c = 2 ∨ c = 3 ∨ c = 4 ∨ c = 5 ∨ c = 6 ∨ c = 7 := by omega
  rcases this with rfl | rfl | rfl | rfl | rfl | rfl | rfl | rfl <;> rfl
theorem bit_at (b : Nat → Int) (hb : ∀ q, 0 ≤ b q ∧ b q ≤ 1) (T N q : Nat) (hT : 8 * N ≤ T) (hq : q ≤ 200000000) : stillroomref01_bit.f (outL b T N) (q : Int) = some (bitO b N q) := by
  have e1 : wrap64 (Int.tdiv (q : Int) 8) = ((q / 8 : Nat) : Int) := by rw [Int.tdiv_eq_ediv_of_nonneg (by omega), w64in _ (by omega)]; omega
  have e2 : IntKind.u64.wrap (wrap64 (7 - Int.tmod (q : Int) 8)) = 7 - ((q % 8 : Nat) : Int) := by
    rw [Int.tmod_eq_emod_of_nonneg (by omega), w64in _ (by omega), IntKind.wrap_u64]; omega
  have hl : ((outL b T N).length : Int) = N := by rw [outL_len]
  unfold stillroomref01_bit.f
  simp only [e1, e2, hl]
  by_cases hc : q < 8 * N
  · have hm : q / 8 < N := by omega
    have hrd := outL_rd b T N (q / 8) hm
    have hpb := pb_range b hb T (q / 8)
    have hfull : pb b T (q / 8) = b (8 * (q / 8)) * 128 + b (8 * (q / 8) + 1) * 64 + b (8 * (q / 8) + 2) * 32 + b (8 * (q / 8) + 3) * 16 + b (8 * (q / 8) + 4) * 8 + b (8 * (q / 8) + 5) * 4 + b (8 * (q / 8) + 6) * 2 + b (8 * (q / 8) + 7) := by
      unfold pb
      rw [gb_full _ _ _ (by omega), gb_full _ _ _ (by omega), gb_full _ _ _ (by omega), gb_full _ _ _ (by omega), gb_full _ _ _ (by omega), gb_full _ _ _ (by omega), gb_full _ _ _ (by omega), gb_full _ _ _ (by omega)]
    have hbit : Int.tmod (wrap64 (shr .u8 (pb b T (q / 8)) (7 - ((q % 8 : Nat) : Int)))) 2 = b q := by
      have h0 := hb (8 * (q / 8)); have h1 := hb (8 * (q / 8) + 1); have h2 := hb (8 * (q / 8) + 2); have h3 := hb (8 * (q / 8) + 3)
      have h4 := hb (8 * (q / 8) + 4); have h5 := hb (8 * (q / 8) + 5); have h6 := hb (8 * (q / 8) + 6); have h7 := hb (8 * (q / 8) + 7)
      have hq8 : q = 8 * (q / 8) + q % 8 := by omega
      have hc8 : q % 8 = 0 ∨ q % 8 = 1 ∨ q % 8 = 2 ∨ q % 8 = 3 ∨ q % 8 = 4 ∨ q % 8 = 5 ∨ q % 8 = 6 ∨ q % 8 = 7 := by omega
      have hbq : b q = b (8 * (q / 8) + q % 8) := congrArg b hq8
      rw [hbq]
      generalize pb b T (q / 8) = v at *
      clear hrd e1 e2 hl hq8 hbq
      generalize q / 8 = m at *
      rw [shr_eight _ _ (Nat.mod_lt _ (by decide))]
      rcases hc8 with e | e | e | e | e | e | e | e <;> rw [e] <;> simp only [Nat.reduceSub, Int.reducePow, Int.ediv_one, Nat.add_zero] <;>
        (rw [w64in _ (by omega), Int.tmod_eq_emod_of_nonneg (by omega)]) <;> omega
    rw [if_neg (by omega), if_pos (by omega), if_pos (by omega), if_pos (by omega), hrd, hbit]
    unfold bitO
    rw [if_pos hc]
  · rw [if_pos (by omega)]
    unfold bitO
    rw [if_neg hc]
/-- The value of the first i of the j-th five bits. -/
def acc (b : Nat → Int) (N j : Nat) : Nat → Int
  | 0 => 0
  | i + 1 => 2 * acc b N j i + bitO b N (5 * j + i)
theorem acc_range (b : Nat → Int) (hb : ∀ q, 0 ≤ b q ∧ b q ≤ 1) (N j : Nat) : ∀ i, i ≤ 5 → 0 ≤ acc b N j i ∧ acc b N j i < 2 ^ i
  | 0, _ => by simp [acc]
  | i + 1, h => by
    have ih := acc_range b hb N j i (by omega)
    have h1 := bitO_range b hb N (5 * j + i)
    unfold acc
    rw [Int.pow_succ]
    omega
def char (b : Nat → Int) (N j : Nat) : Int := bt signs (acc b N j 5)
def chars (b : Nat → Int) (N j : Nat) : List Int := (List.range j).map (char b N)
theorem chars_succ (b : Nat → Int) (N j : Nat) : chars b N (j + 1) = chars b N j ++ [char b N j] := by simp [chars, List.range_succ]
theorem enc_l1 (b : Nat → Int) (hb : ∀ q, 0 ≤ b q ∧ b q ≤ 1) (T N j : Nat) (hT : 8 * N ≤ T) (hN : N ≤ 16777216) (hj : j ≤ 33554432) (x3 : List Int) (h3 : x3.length < 140737488355328) (r : ByteArray)
    (h : Ev (fun k => stillroomref01_Encode.l0 k (outL b T N) (x3 ++ [char b N j]) ((5 * (j + 1) : Nat) : Int)) r) :
    ∀ (m i : Nat), i + m = 5 → Ev (fun k => stillroomref01_Encode.l1 k (outL b T N) x3 ((5 * j : Nat) : Int) (acc b N j i) (i : Int)) r
  | 0, i, hi => by
    obtain rfl : i = 5 := by omega
    have hr := acc_range b hb N j 5 (Nat.le_refl _)
    have e : wrap64 (((5 * j : Nat) : Int) + 5) = ((5 * (j + 1) : Nat) : Int) := by rw [w64in _ (by omega)]; omega
    refine Ev.step (f := fun k => stillroomref01_Encode.l0 k (outL b T N) (x3 ++ [char b N j]) ((5 * (j + 1) : Nat) : Int)) (fun k => ?_) h
    have h32 : acc b N j 5 < 32 := hr.2
    have h0 := hr.1
    conv => lhs; unfold stillroomref01_Encode.l1
    rw [if_neg (by omega), if_pos h0, if_pos h32, if_pos h3, e]
    rfl
  | m + 1, i, hi => by
    have ih := enc_l1 b hb T N j hT hN hj x3 h3 r h m (i + 1) (by omega)
    have hi5 : (i : Int) < 5 := by omega
    have hr := acc_range b hb N j i (by omega)
    have hA0 := hr.1
    have hA1 : acc b N j i < 32 := by
      have h5 : i = 0 ∨ i = 1 ∨ i = 2 ∨ i = 3 ∨ i = 4 := by clear hr; omega
      have hr2 := hr.2
      clear hr
      rcases h5 with rfl | rfl | rfl | rfl | rfl <;> simp only [Int.reducePow] at hr2 <;> omega
    clear hr
    have hbr := bitO_range b hb N (5 * j + i)
    have hq : 5 * j + i ≤ 200000000 := by omega
    have hbt := bit_at b hb T N (5 * j + i) hT hq
    have e1 : wrap64 (((5 * j : Nat) : Int) + (i : Int)) = ((5 * j + i : Nat) : Int) := by rw [w64in _ (by omega)]; omega
    have e2 : wrap64 (wrap64 (2 * acc b N j i) + bitO b N (5 * j + i)) = acc b N j (i + 1) := by
      rw [w64in (2 * acc b N j i) (by omega), w64in _ (by omega)]; rfl
    have e3 : wrap64 ((i : Int) + 1) = ((i + 1 : Nat) : Int) := by rw [w64in _ (by omega)]; omega
    refine Ev.step (f := fun k => stillroomref01_Encode.l1 k (outL b T N) x3 ((5 * j : Nat) : Int) (acc b N j (i + 1)) ((i + 1 : Nat) : Int)) (fun k => ?_) ih
    conv => lhs; unfold stillroomref01_Encode.l1
    rw [if_pos hi5, e1, hbt, Option.bind_some, e2, e3]
theorem enc_l0 (b : Nat → Int) (hb : ∀ q, 0 ≤ b q ∧ b q ≤ 1) (T N : Nat) (hT : 8 * N ≤ T) (hN : N ≤ 16777216) :
    ∀ (m j : Nat), j + m = (8 * N + 4) / 5 → Ev (fun k => stillroomref01_Encode.l0 k (outL b T N) (chars b N j) ((5 * j : Nat) : Int)) (strOfNums (chars b N ((8 * N + 4) / 5)))
  | 0, j, hj => by
    obtain rfl : j = (8 * N + 4) / 5 := by omega
    have e : wrap64 (8 * ((outL b T N).length : Int)) = ((8 * N : Nat) : Int) := by rw [outL_len, w64in _ (by omega)]; omega
    refine Ev.step (f := fun _ => some (strOfNums (chars b N ((8 * N + 4) / 5)))) (fun k => ?_) (Ev.now _)
    conv => lhs; unfold stillroomref01_Encode.l0
    rw [e, if_neg (by omega)]
  | m + 1, j, hj => by
    have ih := enc_l0 b hb T N hT hN m (j + 1) (by omega)
    rw [chars_succ] at ih
    have e : wrap64 (8 * ((outL b T N).length : Int)) = ((8 * N : Nat) : Int) := by rw [outL_len, w64in _ (by omega)]; omega
    have h1 := enc_l1 b hb T N j hT hN (by omega) (chars b N j) (by simp [chars]; omega) _ ih 5 0 (by omega)
    refine Ev.step (f := fun k => stillroomref01_Encode.l1 k (outL b T N) (chars b N j) ((5 * j : Nat) : Int) 0 0) (fun k => ?_) h1
    have hlt : ((5 * j : Nat) : Int) < ((8 * N : Nat) : Int) := by omega
    conv => lhs; unfold stillroomref01_Encode.l0
    rw [e, if_pos hlt]
theorem enc_ev (b : Nat → Int) (hb : ∀ q, 0 ≤ b q ∧ b q ≤ 1) (T N : Nat) (hT : 8 * N ≤ T) (hN : N ≤ 16777216) : Ev (fun k => stillroomref01_Encode.f k (outL b T N)) (strOfNums (chars b N ((8 * N + 4) / 5))) :=
  enc_l0 b hb T N hT hN ((8 * N + 4) / 5) 0 (Nat.zero_add _)
end Go.Proofs.YtcmlifbfegblgaaDoor
