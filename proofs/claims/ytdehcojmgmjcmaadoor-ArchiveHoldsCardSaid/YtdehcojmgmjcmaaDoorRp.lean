/- The archive's reader ws plain functions over the bytes that are left; what is read of an archive, and what a reading tells of the bytes. -/
import Derived.Test.YtdehcojmgmjcmaaDoorRz
namespace Go.Proofs.YtdehcojmgmjcmaaDoor
set_option linter.unusedVariables false
set_option linter.unusedSimpArgs false
open Go.RowKit QArchiveBack Go.Proofs.YtdehcojmgmjcmaaDoorW.PrintWords Go.Proofs.YtdehcojmgmjcmaaDoorW.PrintLast Go.Proofs.YtdehcojmgmjcmaaDoorW.PrintMore
/-- the number of bytes, the highest first -/
def num : Int → List Int → Int
  | v, [] => v
  | v, x :: l => num (v * 256 + x) l
/-- what is left behind n bytes is zeros -/
def zeros (l : List Int) : Bool := l.all (fun x => decide (x = 0))
def rlong (l : List Int) : Nat := (num 0 (l.take 8)).toNat
def rnext (l : List Int) : Option (ByteArray × List Int) :=
  if l.length < 8 then none
  else if l.length < 8 + rlong l + padN (rlong l) then none
  else if zeros ((l.drop (8 + rlong l)).take (padN (rlong l))) = true then some (strOfNums ((l.drop 8).take (rlong l)), l.drop (8 + rlong l + padN (rlong l)))
  else none
def rmust : List ByteArray → List Int → Option (List Int)
  | [], l => some l
  | a :: ws, l => (rnext l).bind fun y => if y.1 = a then rmust ws y.2 else none
def rdata (l : List Int) : Option (List Int × List Int) := (rnext l).bind fun y => (rmust [wEnd] y.2).bind fun r => some (bytesOf y.1, r)
def rcont (x : Bool) (y : ByteArray × List Int) : Option (S26 × List Int) := if y.1 = wCont then (rdata y.2).bind fun z => some (⟨1, x, z.1, [], []⟩, z.2) else none
def rreg (l : List Int) : Option (S26 × List Int) :=
  (rnext l).bind fun y => if y.1 = wExec then (rmust [wNone] y.2).bind fun r => (rnext r).bind fun z => rcont true z else rcont false y
def rsym (l : List Int) : Option (S26 × List Int) := (rmust [wTarget] l).bind fun r => (rdata r).bind fun z => some (⟨3, false, z.1, [], []⟩, z.2)
def rents (rn : List Int → Option (S26 × List Int)) : Nat → List Int → List ByteArray → List S26 → Option (S26 × List Int)
  | 0, _, _, _ => none
  | f + 1, l, ns, xs => (rnext l).bind fun y =>
    if y.1 = wEnd then some (⟨2, false, [], ns, xs⟩, y.2)
    else if y.1 = wEntry then (rmust [wParen, wName] y.2).bind fun r => (rnext r).bind fun m => (rmust [wNode] m.2).bind fun r => (rn r).bind fun x => (rmust [wEnd] x.2).bind fun r => rents rn f r (ns ++ [m.1]) (xs ++ [x.1])
    else none
def rnode : Nat → List Int → Option (S26 × List Int)
  | 0, _ => none
  | k + 1, l => (rmust [wParen, wType] l).bind fun r => (rnext r).bind fun y =>
    if y.1 = wReg then rreg y.2 else if y.1 = wSym then rsym y.2 else if y.1 = wDir then rents (rnode k) (y.2.length + 1) y.2 [] [] else none
def rwhole (l : List Int) : Option S26 := (rmust [wMagic] l).bind fun r => (rnode 32 r).bind fun x => if x.2 = [] then (if right x.1 = 0 then some x.1 else none) else none
def decode (l : List Int) : Option S26 := if 1048576 < l.length then none else rwhole l
/-! numbers -/
theorem num_be8 (v : Int) (h0 : 0 ≤ v) (h1 : v < 18446744073709551616) : num 0 (be8 v) = v := by
  simp only [be8, num]
  omega
theorem be8_num (l : List Int) (hl : l.length = 8) (hb : inB l) : be8 (num 0 l) = l ∧ 0 ≤ num 0 l := by
  match l, hl with
  | [a, b, c, d, e, f, g, h], _ =>
    have ha := hb a (by simp)
    have hb' := hb b (by simp)
    have hc := hb c (by simp)
    have hd := hb d (by simp)
    have he := hb e (by simp)
    have hf := hb f (by simp)
    have hg := hb g (by simp)
    have hh := hb h (by simp)
    simp only [num, be8, List.cons.injEq, and_true]
    refine ⟨⟨?_, ?_, ?_, ?_, ?_, ?_, ?_, ?_⟩, ?_⟩ <;> omega
theorem zeros_replicate (n : Nat) : zeros (List.replicate n 0) = true := by simp [zeros]
theorem zeros_eq {l : List Int} (h : zeros l = true) : l = List.replicate l.length 0 := by
  simp only [zeros, List.all_eq_true, decide_eq_true_eq] at h
  exact List.eq_replicate_iff.2 ⟨rfl, h⟩
theorem strOf_bytesOf (s : ByteArray) : strOfNums (bytesOf s) = s := by
  cases s with
  | mk d =>
    unfold strOfNums bytesOf
    rw [List.map_map]
    congr 1
    have : ((fun n : Int => UInt8.ofNat n.toNat) ∘ fun b : UInt8 => (b.toNat : Int)) = id := by funext b; simp
    rw [this, List.map_id]
theorem bytesOf_strOf (l : List Int) (h : inB l) : bytesOf (strOfNums l) = l := by
  unfold bytesOf strOfNums
  simp only [List.map_map]
  conv => rhs; rw [← List.map_id l]
  refine List.map_congr_left fun x hx => ?_
  have := h x hx
  simp
  omega
theorem strOf_size (l : List Int) : (strOfNums l).size = l.length := by simp [strOfNums, ByteArray.size]
theorem be8_len (v : Int) : (be8 v).length = 8 := rfl
/-- a string that was written is read -/
theorem rnext_str (s : ByteArray) (r : List Int) (hs : s.size < 9223372036854775808) : rnext (strL s ++ r) = some (s, r) := by
  have e : strL s ++ r = be8 s.size ++ (bytesOf s ++ (List.replicate (padN s.size) 0 ++ r)) := by simp [strL]
  have h8 : (strL s ++ r).take 8 = be8 s.size := by rw [e]; exact List.take_left' (be8_len _)
  have hl : rlong (strL s ++ r) = s.size := by
    unfold rlong
    rw [h8, num_be8 _ (by omega) (by omega)]
    omega
  have hn : (strL s ++ r).length = 8 + s.size + padN s.size + r.length := by rw [List.length_append, strL_len]
  have d8 : (strL s ++ r).drop 8 = bytesOf s ++ (List.replicate (padN s.size) 0 ++ r) := by rw [e]; exact List.drop_left' (be8_len _)
  have d9 : (strL s ++ r).drop (8 + s.size) = List.replicate (padN s.size) 0 ++ r := by
    rw [← List.drop_drop, d8]; exact List.drop_left' (bytesOf_length s)
  have d10 : (strL s ++ r).drop (8 + s.size + padN s.size) = r := by
    rw [← List.drop_drop, d9]; exact List.drop_left' (by simp)
  unfold rnext
  rw [hl, if_neg (by omega), if_neg (by omega), d8, d9, d10, List.take_left' (by simp), if_pos (zeros_replicate _), List.take_left' (bytesOf_length s), strOf_bytesOf]
/-- what is read was written -/
theorem rnext_inv {l r : List Int} {s : ByteArray} (hb : inB l) (h : rnext l = some (s, r)) : l = strL s ++ r ∧ inB r := by
  unfold rnext at h
  by_cases c1 : l.length < 8
  · rw [if_pos c1] at h; cases h
  · rw [if_neg c1] at h
    by_cases c2 : l.length < 8 + rlong l + padN (rlong l)
    · rw [if_pos c2] at h; cases h
    · rw [if_neg c2] at h
      by_cases c3 : zeros ((l.drop (8 + rlong l)).take (padN (rlong l))) = true
      · rw [if_pos c3] at h
        simp only [Option.some.injEq, Prod.mk.injEq] at h
        obtain ⟨rfl, rfl⟩ := h
        obtain ⟨q1, q2⟩ := be8_num (l.take 8) (by rw [List.length_take]; omega) (fun x hx => hb x (List.mem_of_mem_take hx))
        have hz := zeros_eq c3
        have hd : ((l.drop (8 + rlong l)).take (padN (rlong l))).length = padN (rlong l) := by rw [List.length_take, List.length_drop]; omega
        rw [hd] at hz
        have hlen : ((l.drop 8).take (rlong l)).length = rlong l := by rw [List.length_take, List.length_drop]; omega
        have hcast : ((rlong l : Nat) : Int) = num 0 (l.take 8) := by unfold rlong; omega
        refine ⟨?_, fun x hx => hb x (List.mem_of_mem_drop hx)⟩
        unfold strL
        rw [strOf_size, hlen, bytesOf_strOf _ (fun x hx => hb x (List.mem_of_mem_drop (List.mem_of_mem_take hx))), hcast, q1, ← hz]
        rw [← List.drop_drop (i := padN (rlong l)), List.append_assoc, List.append_assoc, List.take_append_drop, ← List.drop_drop, List.take_append_drop, List.take_append_drop]
      · rw [if_neg c3] at h; cases h
theorem rnext_len {l r : List Int} {s : ByteArray} (h : rnext l = some (s, r)) : r.length + 8 ≤ l.length := by
  unfold rnext at h
  split at h
  · cases h
  · split at h
    · cases h
    · split at h
      · simp only [Option.some.injEq, Prod.mk.injEq] at h
        obtain ⟨_, rfl⟩ := h
        rw [List.length_drop]; omega
      · cases h
theorem strL_size (s : ByteArray) : s.size + 8 ≤ (strL s).length := by rw [strL_len]; omega
theorem rmust_str : ∀ (ws : List ByteArray) (r : List Int), (strsL ws).length < 9223372036854775808 → rmust ws (strsL ws ++ r) = some r
  | [], r, _ => rfl
  | a :: ws, r, h => by
    have h1 : (strsL (a :: ws)).length = (strL a).length + (strsL ws).length := by rw [strsL, List.length_append]
    have h2 := strL_size a
    rw [rmust, strsL, List.append_assoc, rnext_str a _ (by omega)]
    simp only [Option.bind_some, if_true]
    exact rmust_str ws r (by omega)
theorem rmust_inv : ∀ (ws : List ByteArray) {l r : List Int}, inB l → rmust ws l = some r → l = strsL ws ++ r ∧ inB r
  | [], l, r, hb, h => by
    rw [rmust] at h
    cases h
    exact ⟨rfl, hb⟩
  | a :: ws, l, r, hb, h => by
    rw [rmust] at h
    obtain ⟨⟨s, q⟩, h1, h2⟩ := Option.bind_eq_some_iff.1 h
    obtain ⟨rfl, hq⟩ := rnext_inv hb h1
    dsimp only at h2
    by_cases c : s = a
    · rw [if_pos c] at h2
      obtain ⟨rfl, hr⟩ := rmust_inv ws hq h2
      exact ⟨by rw [strsL, c, List.append_assoc], hr⟩
    · rw [if_neg c] at h2; cases h2
theorem rmust_len : ∀ (ws : List ByteArray) {l r : List Int}, rmust ws l = some r → r.length ≤ l.length
  | [], l, r, h => by rw [rmust] at h; cases h; exact Nat.le_refl _
  | a :: ws, l, r, h => by
    rw [rmust] at h
    obtain ⟨⟨s, q⟩, h1, h2⟩ := Option.bind_eq_some_iff.1 h
    have := rnext_len h1
    dsimp only at h2
    by_cases c : s = a
    · rw [if_pos c] at h2
      have := rmust_len ws h2
      omega
    · rw [if_neg c] at h2; cases h2
theorem rdata_str (d r : List Int) (h : (strsL [strOfNums d, wEnd]).length < 9223372036854775808) : rdata (strsL [strOfNums d, wEnd] ++ r) = some (bytesOf (strOfNums d), r) := by
  have e : strsL [strOfNums d, wEnd] ++ r = strL (strOfNums d) ++ (strsL [wEnd] ++ r) := by simp [strsL]
  have h1 : (strsL [strOfNums d, wEnd]).length = (strL (strOfNums d)).length + (strsL [wEnd]).length := by simp [strsL]
  have h2 := strL_size (strOfNums d)
  unfold rdata
  rw [e, rnext_str _ _ (by omega)]
  simp only [Option.bind_some]
  rw [rmust_str _ _ (by omega)]
  rfl
theorem rdata_inv {l d r : List Int} (hb : inB l) (h : rdata l = some (d, r)) : l = strsL [strOfNums d, wEnd] ++ r ∧ inB r ∧ ∃ s, d = bytesOf s := by
  unfold rdata at h
  obtain ⟨⟨s, q⟩, h1, h2⟩ := Option.bind_eq_some_iff.1 h
  obtain ⟨rfl, hq⟩ := rnext_inv hb h1
  obtain ⟨q2, h3, h4⟩ := Option.bind_eq_some_iff.1 h2
  obtain ⟨hq3, hq4⟩ := rmust_inv _ hq h3
  simp only [Option.some.injEq, Prod.mk.injEq] at h4
  obtain ⟨rfl, rfl⟩ := h4
  refine ⟨?_, hq4, s, rfl⟩
  rw [strOf_bytesOf, hq3]
  simp [strsL]
theorem rdata_len {l d r : List Int} (h : rdata l = some (d, r)) : r.length ≤ l.length := by
  unfold rdata at h
  obtain ⟨⟨s, q⟩, h1, h2⟩ := Option.bind_eq_some_iff.1 h
  obtain ⟨q2, h3, h4⟩ := Option.bind_eq_some_iff.1 h2
  simp only [Option.some.injEq, Prod.mk.injEq] at h4
  obtain ⟨rfl, rfl⟩ := h4
  have := rnext_len h1
  have := rmust_len _ h3
  dsimp only at this
  omega
mutual
/-- a node, its data as bytes are -/
def norm : S26 → S26
  | ⟨f0, f1, f2, f3, f4⟩ => ⟨f0, f1, bytesOf (strOfNums f2), f3, normL f4⟩
def normL : List S26 → List S26
  | [] => []
  | x :: xs => norm x :: normL xs
end
mutual
/-- each node has the form of its kind -/
def good : S26 → Prop
  | ⟨f0, f1, f2, f3, f4⟩ => kindOk ⟨f0, f1, f2, f3, f4⟩ = true ∧ goodL f4
def goodL : List S26 → Prop
  | [] => True
  | x :: xs => good x ∧ goodL xs
end
theorem good_eq (x : S26) : good x ↔ (kindOk x = true ∧ goodL x.f4) := by cases x; rw [good]
theorem good_mem {x : S26} {l : List S26} (h : goodL l) (hx : x ∈ l) : good x := by
  induction l with
  | nil => cases hx
  | cons y l ih =>
    rw [goodL] at h
    rcases List.mem_cons.1 hx with rfl | hx
    · exact h.1
    · exact ih h.2 hx
theorem goodL_app {xs ys : List S26} (h : goodL xs) (k : goodL ys) : goodL (xs ++ ys) := by
  induction xs with
  | nil => exact k
  | cons x xs ih => rw [goodL] at h; rw [List.cons_append, goodL]; exact ⟨h.1, ih h.2⟩
theorem norm_eq (x : S26) : norm x = ⟨x.f0, x.f1, bytesOf (strOfNums x.f2), x.f3, normL x.f4⟩ := by cases x; rw [norm]
theorem normL_app (xs ys : List S26) : normL (xs ++ ys) = normL xs ++ normL ys := by
  induction xs with
  | nil => rfl
  | cons x xs ih => rw [List.cons_append, normL, normL, ih, List.cons_append]
theorem normL_len (xs : List S26) : (normL xs).length = xs.length := by
  induction xs with
  | nil => rfl
  | cons x xs ih => rw [normL, List.length_cons, List.length_cons, ih]
theorem kind_cases {x : S26} (h : kindOk x = true) : (x.f0 = 2 ∧ x.f2 = [] ∧ x.f3.length = x.f4.length ∧ x.f1 = false) ∨ (x.f0 = 3 ∧ x.f3 = [] ∧ x.f4 = [] ∧ x.f1 = false) ∨ (x.f0 = 1 ∧ x.f3 = [] ∧ x.f4 = []) := by
  unfold kindOk at h
  by_cases c2 : x.f0 = 2
  · rw [if_pos c2] at h
    simp only [Bool.and_eq_true, decide_eq_true_eq, Bool.not_eq_true'] at h
    exact Or.inl ⟨c2, List.eq_nil_of_length_eq_zero h.1.1, h.1.2, h.2⟩
  · rw [if_neg c2] at h
    by_cases c3 : x.f0 = 3
    · rw [if_pos c3] at h
      simp only [Bool.and_eq_true, decide_eq_true_eq, Bool.not_eq_true'] at h
      exact Or.inr (Or.inl ⟨c3, List.eq_nil_of_length_eq_zero h.1.1, List.eq_nil_of_length_eq_zero h.1.2, h.2⟩)
    · rw [if_neg c3] at h
      by_cases c1 : x.f0 = 1
      · rw [if_pos c1] at h
        simp only [Bool.and_eq_true, decide_eq_true_eq] at h
        exact Or.inr (Or.inr ⟨c1, List.eq_nil_of_length_eq_zero h.1, List.eq_nil_of_length_eq_zero h.2⟩)
      · rw [if_neg c1] at h
        cases h
theorem strsL_two (a : ByteArray) (l : List ByteArray) : strsL (a :: l) = strL a ++ strsL l := rfl
theorem strs_len (a : ByteArray) (l : List ByteArray) : (strsL (a :: l)).length = (strL a).length + (strsL l).length := by rw [strsL, List.length_append]
theorem rents_str (rn : List Int → Option (S26 × List Int)) (xs : List S26) : ∀ (ms : List ByteArray), xs.length = ms.length → (∀ x ∈ xs, ∀ r, rn (nodeL x ++ r) = some (norm x, r)) → (entsL xs ms).length < 4611686018427387904 →
    ∀ (f : Nat) (ns : List ByteArray) (ys : List S26) (r : List Int), xs.length < f → rents rn f (entsL xs ms ++ (strsL [wEnd] ++ r)) ns ys = some (⟨2, false, [], ns ++ ms, ys ++ normL xs⟩, r) := by
  induction xs with
  | nil =>
    intro ms hm _ _ f ns ys r hf
    obtain rfl : ms = [] := List.eq_nil_of_length_eq_zero (by simpa using hm.symm)
    obtain ⟨f, rfl⟩ : ∃ m, f = m + 1 := ⟨f - 1, by omega⟩
    have e : entsL [] [] ++ (strsL [wEnd] ++ r) = strL wEnd ++ r := by simp [entsL, strsL]
    rw [e, rents, rnext_str _ _ (by decide)]
    simp only [Option.bind_some, if_true, normL, List.append_nil]
  | cons x xs ih =>
    intro ms hm hx hl f ns ys r hf
    cases ms with
    | nil => simp at hm
    | cons m ms =>
      obtain ⟨f, rfl⟩ : ∃ m, f = m + 1 := ⟨f - 1, by rw [List.length_cons] at hf; omega⟩
      have hl' : (entsL (x :: xs) (m :: ms)).length = (strsL [wEntry, wParen, wName, m, wNode]).length + (nodeL x).length + (strsL [wEnd]).length + (entsL xs ms).length := by
        rw [entsL]; simp only [List.length_append]
      have hm1 : (strsL [wEntry, wParen, wName, m, wNode]).length = (strL wEntry).length + ((strsL [wParen, wName]).length + ((strL m).length + (strsL [wNode]).length)) := by simp only [strsL, List.length_append, List.length_nil]; omega
      have hm2 := strL_size m
      have e : entsL (x :: xs) (m :: ms) ++ (strsL [wEnd] ++ r) = strL wEntry ++ (strsL [wParen, wName] ++ (strL m ++ (strsL [wNode] ++ (nodeL x ++ (strsL [wEnd] ++ (entsL xs ms ++ (strsL [wEnd] ++ r))))))) := by
        rw [entsL]; simp only [strsL, List.append_assoc, List.nil_append, List.append_nil]
      rw [e, rents, rnext_str _ _ (by decide)]
      simp only [Option.bind_some]
      rw [if_neg (by decide), if_pos trivial, rmust_str _ _ (by omega)]
      simp only [Option.bind_some]
      rw [rnext_str _ _ (by omega)]
      simp only [Option.bind_some]
      rw [rmust_str _ _ (by omega)]
      simp only [Option.bind_some]
      rw [hx x List.mem_cons_self]
      simp only [Option.bind_some]
      rw [rmust_str _ _ (by omega)]
      simp only [Option.bind_some]
      rw [ih ms (by simpa using hm) (fun y hy => hx y (List.mem_cons_of_mem _ hy)) (by omega) f _ _ r (by rw [List.length_cons] at hf; omega)]
      simp only [normL, List.append_assoc, List.singleton_append]
theorem ents_ge (xs : List S26) : ∀ ms : List ByteArray, xs.length = ms.length → xs.length ≤ (entsL xs ms).length := by
  induction xs with
  | nil => intro _ _; simp
  | cons x xs ih =>
    intro ms hm
    cases ms with
    | nil => simp at hm
    | cons m ms =>
      have := ih ms (by simpa using hm)
      have h1 := strs_len wEntry [wParen, wName, m, wNode]
      have h2 := strL_size wEntry
      rw [entsL]
      simp only [List.length_append, List.length_cons]
      omega
theorem node_ents (xs : List S26) : ∀ (ms : List ByteArray), xs.length = ms.length → ∀ x ∈ xs, (nodeL x).length ≤ (entsL xs ms).length := by
  induction xs with
  | nil => intro _ _ x hx; cases hx
  | cons y xs ih =>
    intro ms hm x hx
    cases ms with
    | nil => simp at hm
    | cons m ms =>
      rw [entsL]
      simp only [List.length_append]
      rcases List.mem_cons.1 hx with rfl | hx
      · omega
      · have := ih ms (by simpa using hm) x hx; omega
theorem name_ents (xs : List S26) : ∀ (ms : List ByteArray), xs.length = ms.length → ∀ s ∈ ms, s.size ≤ (entsL xs ms).length := by
  induction xs with
  | nil => intro ms hm s hs; obtain rfl : ms = [] := List.eq_nil_of_length_eq_zero (by simpa using hm.symm); cases hs
  | cons y xs ih =>
    intro ms hm s hs
    cases ms with
    | nil => simp at hm
    | cons m ms =>
      have hm1 : (strsL [wEntry, wParen, wName, m, wNode]).length = (strL wEntry).length + ((strsL [wParen, wName]).length + ((strL m).length + (strsL [wNode]).length)) := by simp only [strsL, List.length_append, List.length_nil]; omega
      have hm2 := strL_size m
      rw [entsL]
      simp only [List.length_append]
      rcases List.mem_cons.1 hs with rfl | hs
      · omega
      · have := ih ms (by simpa using hm) s hs; omega
theorem rreg_str (x : S26) (r : List Int) (h1 : x.f0 = 1) (h3 : x.f3 = []) (h4 : x.f4 = []) (hl : (strsL [strOfNums x.f2, wEnd]).length < 9223372036854775808) :
    rreg ((if x.f1 = true then strsL [wExec, wNone] else []) ++ (strsL [wCont, strOfNums x.f2, wEnd] ++ r)) = some (norm x, r) := by
  have e2 : strsL [wCont, strOfNums x.f2, wEnd] ++ r = strL wCont ++ (strsL [strOfNums x.f2, wEnd] ++ r) := by simp [strsL]
  have en : norm x = ⟨1, x.f1, bytesOf (strOfNums x.f2), [], []⟩ := by rw [norm_eq, h1, h3, h4]; rfl
  unfold rreg
  rw [en, e2]
  by_cases c : x.f1 = true
  · have e : (strsL [wExec, wNone] ++ (strL wCont ++ (strsL [strOfNums x.f2, wEnd] ++ r))) = strL wExec ++ (strsL [wNone] ++ (strL wCont ++ (strsL [strOfNums x.f2, wEnd] ++ r))) := by simp [strsL]
    rw [if_pos c, e, rnext_str _ _ (by decide), c]
    simp only [Option.bind_some]
    rw [if_pos trivial, rmust_str _ _ (by decide)]
    simp only [Option.bind_some]
    rw [rnext_str _ _ (by decide)]
    simp only [Option.bind_some, rcont, if_true]
    rw [rdata_str _ _ hl]
    rfl
  · rw [if_neg c, List.nil_append, rnext_str _ _ (by decide)]
    simp only [Option.bind_some]
    rw [if_neg (by decide)]
    simp only [rcont, if_true]
    rw [rdata_str _ _ hl, (by simpa using c : x.f1 = false)]
    rfl
/-- a node that was written is read -/
theorem rnode_str (n : Nat) : ∀ (x : S26), nodes x ≤ n → good x → ∀ (k : Nat) (r : List Int), deep x ≤ k → (nodeL x).length < 4611686018427387904 → rnode k (nodeL x ++ r) = some (norm x, r) := by
  induction n with
  | zero => intro x hx; have := nodes_pos x; omega
  | succ n ih =>
    intro x hx hg k r hd hl
    have hno := nodes_eq x
    have hde := deep_eq x
    obtain ⟨k, rfl⟩ : ∃ m, k = m + 1 := ⟨k - 1, by omega⟩
    obtain ⟨hk, hg4⟩ := (good_eq x).1 hg
    have hne := nodeL_eq x
    rw [hne] at hl ⊢
    simp only [List.append_assoc, List.length_append] at hl ⊢
    rw [rnode, rmust_str _ _ (by decide)]
    simp only [Option.bind_some]
    rcases kind_cases hk with ⟨c0, c2, c3, c1⟩ | ⟨c0, c3, c4, c1⟩ | ⟨c0, c3, c4⟩
    · rw [if_neg (by omega), if_neg (by omega)] at hl ⊢
      have e : ∀ q, strsL [wDir] ++ q = strL wDir ++ q := fun q => by simp [strsL]
      rw [List.append_assoc, e, rnext_str _ _ (by decide)]
      rw [List.length_append] at hl
      simp only [Option.bind_some]
      rw [if_neg (by decide), if_neg (by decide), if_pos trivial]
      rw [rents_str (rnode k) x.f4 x.f3 c3.symm (fun y hy r => ih y (by have := nodes_mem hy; omega) (good_mem hg4 hy) k r (by have := deep_mem hy; omega) (by have := node_ents x.f4 x.f3 c3.symm y hy; omega)) (by omega) _ _ _ _ (by
        have := ents_ge x.f4 x.f3 c3.symm
        rw [List.length_append]; omega)]
      rw [norm_eq, c0, c1, c2]
      rfl
    · rw [if_neg (by omega), if_pos c0] at hl ⊢
      have e : ∀ q, strsL [wSym, wTarget, strOfNums x.f2] ++ (strsL [wEnd] ++ q) = strL wSym ++ (strsL [wTarget] ++ (strsL [strOfNums x.f2, wEnd] ++ q)) := fun q => by simp [strsL]
      have hl2 : (strsL [strOfNums x.f2, wEnd]).length ≤ (strsL [wSym, wTarget, strOfNums x.f2]).length + (strsL [wEnd]).length := by simp only [strsL, List.length_append, List.length_nil]; omega
      rw [e, rnext_str _ _ (by decide)]
      simp only [Option.bind_some]
      rw [if_neg (by decide), if_pos trivial]
      unfold rsym
      rw [rmust_str _ _ (by decide)]
      simp only [Option.bind_some]
      rw [rdata_str _ _ (by omega), norm_eq, c0, c1, c3, c4]
      rfl
    · rw [if_pos c0] at hl ⊢
      have e : ∀ q, strsL [wReg] ++ q = strL wReg ++ q := fun q => by simp [strsL]
      have e2 : ∀ q, strsL [wCont, strOfNums x.f2] ++ (strsL [wEnd] ++ q) = strsL [wCont, strOfNums x.f2, wEnd] ++ q := fun q => by simp [strsL]
      simp only [List.append_assoc, List.length_append] at hl ⊢
      have hl2 : (strsL [strOfNums x.f2, wEnd]).length ≤ (strsL [wCont, strOfNums x.f2]).length + (strsL [wEnd]).length := by simp only [strsL, List.length_append, List.length_nil]; omega
      rw [e, rnext_str _ _ (by decide)]
      simp only [Option.bind_some]
      rw [if_pos trivial, e2]
      exact rreg_str x r c0 c3 c4 (by omega)
theorem norm_strOf (s : ByteArray) : bytesOf (strOfNums (bytesOf s)) = bytesOf s := by rw [strOf_bytesOf]
theorem rcont_inv {b : Bool} {s : ByteArray} {l r : List Int} {x : S26} (hb : inB l) (h : rcont b (s, l) = some (x, r)) : strL s ++ l = strsL [wCont, strOfNums x.f2, wEnd] ++ r ∧ inB r ∧ norm x = x ∧ good x ∧ x.f0 = 1 ∧ x.f1 = b := by
  unfold rcont at h
  dsimp only at h
  by_cases c : s = wCont
  · rw [if_pos c] at h
    obtain ⟨⟨d, q⟩, h1, h2⟩ := Option.bind_eq_some_iff.1 h
    simp only [Option.some.injEq, Prod.mk.injEq] at h2
    obtain ⟨rfl, rfl⟩ := h2
    obtain ⟨rfl, hr, u, rfl⟩ := rdata_inv hb h1
    subst c
    refine ⟨?_, hr, ?_, ?_, rfl, rfl⟩
    · show strL wCont ++ (strsL [strOfNums (bytesOf u), wEnd] ++ q) = strsL [wCont, strOfNums (bytesOf u), wEnd] ++ q
      simp [strsL]
    · rw [norm_eq]
      show (⟨1, b, bytesOf (strOfNums (bytesOf u)), [], []⟩ : S26) = _
      rw [norm_strOf]
    · rw [good_eq]
      exact ⟨rfl, trivial⟩
  · rw [if_neg c] at h; cases h
theorem node_reg (x : S26) (h : x.f0 = 1) (r : List Int) : nodeL x ++ r = strsL [wParen, wType] ++ (strL wReg ++ ((if x.f1 = true then strsL [wExec, wNone] else []) ++ (strsL [wCont, strOfNums x.f2, wEnd] ++ r))) := by
  rw [nodeL_eq, if_pos h]
  have e2 : strsL [wCont, strOfNums x.f2, wEnd] = strsL [wCont, strOfNums x.f2] ++ strsL [wEnd] := by simp [strsL]
  have e1 : strsL [wReg] = strL wReg := by simp [strsL]
  rw [e2, e1]
  simp only [List.append_assoc]
theorem rreg_inv {l r : List Int} {x : S26} (hb : inB l) (h : rreg l = some (x, r)) : strsL [wParen, wType] ++ (strL wReg ++ l) = nodeL x ++ r ∧ inB r ∧ norm x = x ∧ good x := by
  unfold rreg at h
  obtain ⟨⟨s, q⟩, h1, h2⟩ := Option.bind_eq_some_iff.1 h
  obtain ⟨rfl, hq⟩ := rnext_inv hb h1
  dsimp only at h2
  by_cases c : s = wExec
  · rw [if_pos c] at h2
    obtain ⟨q2, h3, h4⟩ := Option.bind_eq_some_iff.1 h2
    obtain ⟨hq2, hq3⟩ := rmust_inv _ hq h3
    obtain ⟨⟨s4, q4⟩, h5, h6⟩ := Option.bind_eq_some_iff.1 h4
    obtain ⟨hq5, hq6⟩ := rnext_inv hq3 h5
    obtain ⟨k1, k2, k3, k4, k5, k6⟩ := rcont_inv hq6 h6
    refine ⟨?_, k2, k3, k4⟩
    rw [node_reg x k5, if_pos k6, c, hq2, hq5, k1]
    simp [strsL]
  · rw [if_neg c] at h2
    obtain ⟨k1, k2, k3, k4, k5, k6⟩ := rcont_inv hq h2
    refine ⟨?_, k2, k3, k4⟩
    rw [node_reg x k5, if_neg (by rw [k6]; decide), k1, List.nil_append]
theorem rsym_inv {l r : List Int} {x : S26} (hb : inB l) (h : rsym l = some (x, r)) : strsL [wParen, wType] ++ (strL wSym ++ l) = nodeL x ++ r ∧ inB r ∧ norm x = x ∧ good x := by
  unfold rsym at h
  obtain ⟨q, h1, h2⟩ := Option.bind_eq_some_iff.1 h
  obtain ⟨rfl, hq⟩ := rmust_inv _ hb h1
  obtain ⟨⟨d, q2⟩, h3, h4⟩ := Option.bind_eq_some_iff.1 h2
  simp only [Option.some.injEq, Prod.mk.injEq] at h4
  obtain ⟨rfl, rfl⟩ := h4
  obtain ⟨rfl, hr, u, rfl⟩ := rdata_inv hq h3
  refine ⟨?_, hr, ?_, ?_⟩
  · rw [nodeL_eq]
    simp only [strsL, List.append_assoc, List.append_nil, List.nil_append]
    rw [if_neg (by decide), if_pos trivial]
    simp only [List.append_assoc]
  · rw [norm_eq]
    show (⟨3, false, bytesOf (strOfNums (bytesOf u)), [], []⟩ : S26) = _
    rw [norm_strOf]
  · rw [good_eq]
    exact ⟨rfl, trivial⟩
theorem rents_inv (rn : List Int → Option (S26 × List Int)) (ih : ∀ l x r, inB l → rn l = some (x, r) → l = nodeL x ++ r ∧ inB r ∧ norm x = x ∧ good x) :
    ∀ (f : Nat) (l : List Int) (ns : List ByteArray) (xs : List S26) (y : S26) (r : List Int), inB l → rents rn f l ns xs = some (y, r) →
      ∃ ms ys, y = ⟨2, false, [], ns ++ ms, xs ++ ys⟩ ∧ ms.length = ys.length ∧ l = entsL ys ms ++ (strsL [wEnd] ++ r) ∧ inB r ∧ normL ys = ys ∧ goodL ys := by
  intro f
  induction f with
  | zero => intro l ns xs y r _ h; rw [rents] at h; cases h
  | succ f ihf =>
    intro l ns xs y r hb h
    rw [rents] at h
    obtain ⟨⟨s, q⟩, h1, h2⟩ := Option.bind_eq_some_iff.1 h
    obtain ⟨rfl, hq⟩ := rnext_inv hb h1
    dsimp only at h2
    by_cases c : s = wEnd
    · rw [if_pos c] at h2
      simp only [Option.some.injEq, Prod.mk.injEq] at h2
      obtain ⟨rfl, rfl⟩ := h2
      subst c
      refine ⟨[], [], by simp, rfl, ?_, hq, rfl, trivial⟩
      simp [entsL, strsL]
    · rw [if_neg c] at h2
      by_cases c2 : s = wEntry
      · rw [if_pos c2] at h2
        obtain ⟨q2, h3, h4⟩ := Option.bind_eq_some_iff.1 h2
        obtain ⟨rfl, hq2⟩ := rmust_inv _ hq h3
        obtain ⟨⟨m, q3⟩, h5, h6⟩ := Option.bind_eq_some_iff.1 h4
        obtain ⟨rfl, hq3⟩ := rnext_inv hq2 h5
        obtain ⟨q4, h7, h8⟩ := Option.bind_eq_some_iff.1 h6
        obtain ⟨hq4e, hq4⟩ := rmust_inv _ hq3 h7
        obtain ⟨⟨x, q5⟩, h9, h10⟩ := Option.bind_eq_some_iff.1 h8
        obtain ⟨hq5e, hq5, hx, hgx⟩ := ih _ _ _ hq4 h9
        obtain ⟨q6, h11, h12⟩ := Option.bind_eq_some_iff.1 h10
        obtain ⟨hq6e, hq6⟩ := rmust_inv _ hq5 h11
        obtain ⟨ms, ys, rfl, hml, rfl, hr, hn, hg⟩ := ihf _ _ _ _ _ hq6 h12
        refine ⟨m :: ms, x :: ys, by simp, by simpa using hml, ?_, hr, by rw [normL, hx, hn], ⟨hgx, hg⟩⟩
        rw [c2, hq4e, hq5e, hq6e, entsL]
        simp only [strsL, List.append_assoc, List.append_nil, List.nil_append]
      · rw [if_neg c2] at h2; cases h2
/-- what is read was written -/
theorem rnode_inv : ∀ (k : Nat) (l : List Int) (x : S26) (r : List Int), inB l → rnode k l = some (x, r) → l = nodeL x ++ r ∧ inB r ∧ norm x = x ∧ good x := by
  intro k
  induction k with
  | zero => intro l x r _ h; rw [rnode] at h; cases h
  | succ k ih =>
    intro l x r hb h
    rw [rnode] at h
    obtain ⟨q, h1, h2⟩ := Option.bind_eq_some_iff.1 h
    obtain ⟨rfl, hq⟩ := rmust_inv _ hb h1
    obtain ⟨⟨s, q2⟩, h3, h4⟩ := Option.bind_eq_some_iff.1 h2
    obtain ⟨rfl, hq2⟩ := rnext_inv hq h3
    dsimp only at h4
    by_cases c1 : s = wReg
    · rw [if_pos c1] at h4
      rw [c1]
      exact rreg_inv hq2 h4
    · rw [if_neg c1] at h4
      by_cases c2 : s = wSym
      · rw [if_pos c2] at h4
        rw [c2]
        exact rsym_inv hq2 h4
      · rw [if_neg c2] at h4
        by_cases c3 : s = wDir
        · rw [if_pos c3] at h4
          obtain ⟨ms, ys, rfl, hml, rfl, hr, hn, hg⟩ := rents_inv (rnode k) ih _ _ _ _ _ _ hq2 h4
          refine ⟨?_, hr, ?_, ?_⟩
          · rw [nodeL_eq, c3]
            simp only [strsL, List.append_assoc, List.append_nil, List.nil_append]
            rw [if_neg (by decide), if_neg (by decide)]
            simp only [List.append_assoc]
          · rw [norm_eq]
            simp only [List.nil_append]
            rw [hn]
            rfl
          · rw [good_eq]
            refine ⟨?_, by simpa using hg⟩
            simp [kindOk, hml]
        · rw [if_neg c3] at h4; cases h4
/-- the lists of a node whose archive is short are short -/
theorem fits_len (n : Nat) : ∀ x : S26, nodes x ≤ n → good x → (nodeL x).length ≤ 1048576 → fits x := by
  induction n with
  | zero => intro x hx; have := nodes_pos x; omega
  | succ n ih =>
    intro x hx hg hl
    have hno := nodes_eq x
    obtain ⟨hk, hg4⟩ := (good_eq x).1 hg
    rw [nodeL_eq] at hl
    simp only [List.length_append] at hl
    have key : ∀ l : List S26, (∀ y ∈ l, fits y) → fitsL l := by
      intro l
      induction l with
      | nil => intro _; rw [fitsL]; trivial
      | cons y l ih2 => intro h; rw [fitsL]; exact ⟨h y List.mem_cons_self, ih2 fun z hz => h z (List.mem_cons_of_mem _ hz)⟩
    have hd : (strsL [strOfNums x.f2]).length = 8 + x.f2.length + padN x.f2.length := by simp only [strsL, List.append_nil]; rw [strL_len, strOf_size]
    rw [fits_eq]
    rcases kind_cases hk with ⟨c0, c2, c3, c1⟩ | ⟨c0, c3, c4, c1⟩ | ⟨c0, c3, c4⟩
    · rw [if_neg (by omega), if_neg (by omega), List.length_append] at hl
      have h1 := ents_ge x.f4 x.f3 c3.symm
      refine ⟨by rw [c2]; simp, ⟨by omega, fun s hs => by have := name_ents x.f4 x.f3 c3.symm s hs; omega⟩, by omega, key _ fun y hy => ih y (by have := nodes_mem hy; omega) (good_mem hg4 hy) (by have := node_ents x.f4 x.f3 c3.symm y hy; omega)⟩
    · rw [if_neg (by omega), if_pos c0] at hl
      have e : (strsL [wSym, wTarget, strOfNums x.f2]).length = (strsL [wSym, wTarget]).length + (strsL [strOfNums x.f2]).length := by simp only [strsL, List.length_append, List.length_nil]; omega
      refine ⟨by omega, ⟨by rw [c3]; simp, by rw [c3]; simp⟩, by rw [c4]; simp, by rw [c4]; trivial⟩
    · rw [if_pos c0] at hl
      simp only [List.length_append] at hl
      have e : (strsL [wCont, strOfNums x.f2]).length = (strsL [wCont]).length + (strsL [strOfNums x.f2]).length := by simp only [strsL, List.length_append, List.length_nil]; omega
      refine ⟨by omega, ⟨by rw [c3]; simp, by rw [c3]; simp⟩, by rw [c4]; simp, by rw [c4]; trivial⟩
theorem good_of_bad (n : Nat) : ∀ x : S26, nodes x ≤ n → bad x = 0 → good x := by
  induction n with
  | zero => intro x hx; have := nodes_pos x; omega
  | succ n ih =>
    intro x hx hb
    have hno := nodes_eq x
    obtain ⟨h1, _, _, h4⟩ := bad_zero hb
    rw [good_eq]
    refine ⟨h1, ?_⟩
    have key : ∀ l : List S26, (∀ y ∈ l, good y) → goodL l := by
      intro l
      induction l with
      | nil => intro _; trivial
      | cons y l ih2 => intro h; exact ⟨h y List.mem_cons_self, ih2 fun z hz => h z (List.mem_cons_of_mem _ hz)⟩
    exact key _ fun y hy => ih y (by have := nodes_mem hy; omega) (badL_mem h4 hy)
theorem arch_len (x : S26) : (arch x).length = 24 + (nodeL x).length := by rw [arch, List.length_append, magic_len]
/-- what is decoded is right, and its archive was there -/
theorem decode_inv {l : List Int} {x : S26} (hb : inB l) (h : decode l = some x) : l = arch x ∧ right x = 0 ∧ norm x = x ∧ fits x := by
  unfold decode at h
  by_cases c : 1048576 < l.length
  · rw [if_pos c] at h; cases h
  · rw [if_neg c] at h
    unfold rwhole at h
    obtain ⟨q, h1, h2⟩ := Option.bind_eq_some_iff.1 h
    obtain ⟨rfl, hq⟩ := rmust_inv _ hb h1
    obtain ⟨⟨y, q2⟩, h3, h4⟩ := Option.bind_eq_some_iff.1 h2
    obtain ⟨rfl, _, hn, hg⟩ := rnode_inv _ _ _ _ hq h3
    dsimp only at h4
    by_cases c2 : q2 = []
    · rw [if_pos c2] at h4
      by_cases c3 : right y = 0
      · rw [if_pos c3] at h4
        cases h4
        subst c2
        have e : strsL [wMagic] ++ (nodeL x ++ []) = arch x := by rw [List.append_nil]; rfl
        rw [e] at c ⊢
        rw [arch_len] at c
        exact ⟨rfl, c3, hn, fits_len _ x (Nat.le_refl _) hg (by omega)⟩
      · rw [if_neg c3] at h4; cases h4
    · rw [if_neg c2] at h4; cases h4
theorem norm_data (l : List Int) : (bytesOf (strOfNums l)).length = l.length := by rw [bytesOf_length, strOf_size]
theorem norm_nodes (n : Nat) : ∀ x : S26, nodes x ≤ n → nodes (norm x) = nodes x ∧ deep (norm x) = deep x ∧ bad (norm x) = bad x := by
  induction n with
  | zero => intro x hx; have := nodes_pos x; omega
  | succ n ih =>
    intro x hx
    have hno := nodes_eq x
    have key : ∀ l : List S26, (∀ y ∈ l, nodes (norm y) = nodes y ∧ deep (norm y) = deep y ∧ bad (norm y) = bad y) → nodesL (normL l) = nodesL l ∧ deepL (normL l) = deepL l ∧ badL (normL l) = badL l := by
      intro l
      induction l with
      | nil => intro _; exact ⟨rfl, rfl, rfl⟩
      | cons y l ih2 =>
        intro h
        obtain ⟨a1, a2, a3⟩ := h y List.mem_cons_self
        obtain ⟨b1, b2, b3⟩ := ih2 fun z hz => h z (List.mem_cons_of_mem _ hz)
        rw [normL, nodesL, nodesL, deepL, deepL, badL, badL, a1, a2, a3, b1, b2, b3]
        exact ⟨rfl, rfl, rfl⟩
    obtain ⟨k1, k2, k3⟩ := key x.f4 fun y hy => ih y (by have := nodes_mem hy; omega)
    have hk : kindOk (norm x) = kindOk x := by
      rw [norm_eq]
      unfold kindOk
      simp only [norm_data, normL_len]
    refine ⟨?_, ?_, ?_⟩
    · rw [nodes_eq, nodes_eq x, norm_eq]
      simp only [k1]
    · rw [deep_eq, deep_eq x, norm_eq]
      simp only [k2]
    · rw [bad_eq, bad_eq x, hk, norm_eq]
      simp only [norm_data, k3]
theorem norm_right (x : S26) (h : right x = 0) : right (norm x) = 0 := by
  obtain ⟨h1, h2, h3⟩ := norm_nodes _ x (Nat.le_refl _)
  unfold right at h ⊢
  rw [h1, h2, h3]
  exact h
theorem decode_arch {x : S26} (h : right x = 0) (hl : (arch x).length ≤ 1048576) : decode (arch x) = some (norm x) := by
  unfold decode
  rw [if_neg (by omega)]
  have h2 := arch_len x
  obtain ⟨hn, hb⟩ := right_zero h
  have hd : deep x ≤ 32 := by
    unfold right at h
    by_cases c : deep x ≤ 32 ∧ nodes x ≤ 1024
    · exact c.1
    · rw [if_neg c] at h; exact absurd h (by decide)
  unfold rwhole arch
  rw [rmust_str _ _ (by decide)]
  simp only [Option.bind_some]
  have := rnode_str _ x (Nat.le_refl _) (good_of_bad _ x (Nat.le_refl _) hb) 32 [] hd (by omega)
  rw [List.append_nil] at this
  rw [this]
  simp only [Option.bind_some, if_true]
  rw [if_pos (norm_right x h)]
end Go.Proofs.YtdehcojmgmjcmaaDoor
