/- object.Text: an info's text. -/
import Derived.Test.YtcmlifbfegblgaaDoorBl
namespace Go.Proofs.YtcmlifbfegblgaaDoor
set_option linter.unusedVariables false
set_option linter.unusedSimpArgs false
open Go.RowKit Go.Proofs.YtcmlifbfegblgaaDoorW.PrintWords Go.Proofs.YtcmlifbfegblgaaDoorW.PrintLast Go.Proofs.YtcmlifbfegblgaaDoorW.PrintMore
open Go.Proofs.YtcmlifbfegblgaaDoor.QObjectTexts

def hashW : ByteArray := ⟨#[104, 97, 115, 104, 32]⟩
def derW : ByteArray := ⟨#[100, 101, 114, 105, 118, 101, 114, 32]⟩
def refW : ByteArray := ⟨#[114, 101, 102, 32]⟩
def nlW : ByteArray := ⟨#[10]⟩
/-- An info's lines. -/
def rows (h d : ByteArray) : List ByteArray := if d.toList = [] then [hashW ++ h] else [hashW ++ h, derW ++ d]
def rowsAll (h d : ByteArray) (l : List ByteArray) : List ByteArray := rows h d ++ l.map (refW ++ ·)
def textOf (h d : ByteArray) (l : List ByteArray) : ByteArray := (⟨(Lib.join ((rowsAll h d l).map (·.data.toList)) nlW.data.toList).toArray⟩ : ByteArray) ++ nlW
theorem lens_le : ∀ (xs : List (List UInt8)) (m : Nat), (∀ x ∈ xs, x.length ≤ m) → Lib.lens xs ≤ xs.length * m
  | [], m, _ => by simp [Lib.lens]
  | x :: r, m, h => by
    have h1 := h x (by simp)
    have h2 := lens_le r m (fun z hz => h z (by simp [hz]))
    have h3 : Lib.lens (x :: r) = x.length + Lib.lens r := by simp [Lib.lens]
    rw [h3, List.length_cons, Nat.add_mul, Nat.one_mul]
    omega
theorem join_len (xs : List (List UInt8)) (m : Nat) (h : ∀ x ∈ xs, x.length ≤ m) : (Lib.join xs nlW.data.toList).length ≤ xs.length * (m + 1) := by
  cases xs with
  | nil => simp [Lib.join_nil]
  | cons x r =>
    rw [Lib.join_length]
    have h1 := lens_le (x :: r) m h
    have h3 : nlW.data.toList.length = 1 := rfl
    rw [h3, Nat.mul_add, List.length_cons] at *
    omega
theorem own_new (w : World) (base : Nat) (s : ByteArray) (h : base ≤ w.heap.size) : (w.alloc (.cells #[Value.string s] 9)).ownsRow base 9 1 (.slice (some ⟨w.heap.size, 0, none⟩) 1 1) (strs [s]).length (strs [s]) :=
  ⟨rfl, .inr ⟨w.heap.size, 1, _, rfl, h, heap_alloc_new w _, Nat.le_refl _, by simp [maxLen], rfl, rfl⟩⟩
theorem size_app (a b : ByteArray) : (a ++ b).data.toList.length = a.size + b.size := by
  rw [ByteArray.data_append, Array.toList_append, List.length_append, Array.length_toList, Array.length_toList]
  rfl
theorem rows_short (h d : ByteArray) (l : List ByteArray) (hh : h.size ≤ 16777216) (hd : d.size ≤ 16777216) (hs : Short l) : ∀ x ∈ (rowsAll h d l).map (·.data.toList), x.length ≤ 16777224 := by
  intro x hx
  obtain ⟨y, hy, rfl⟩ := List.mem_map.1 hx
  have hr : ∀ z ∈ rows h d, z.data.toList.length ≤ 16777224 := by
    intro z hz
    unfold rows at hz
    have e1 : hashW.size = 5 := rfl
    have e2 : derW.size = 8 := rfl
    split at hz <;> simp only [List.mem_cons, List.not_mem_nil, or_false] at hz
    · rw [hz, size_app]; omega
    · rcases hz with hz | hz <;> rw [hz, size_app] <;> omega
  rcases List.mem_append.1 hy with e | e
  · exact hr y e
  · obtain ⟨z, hz, rfl⟩ := List.mem_map.1 e
    obtain ⟨i, hi, rfl⟩ := List.mem_iff_getElem.1 hz
    have := hs i
    have e1 : refW.size = 4 := rfl
    rw [size_app]
    simp [hi, List.getD] at this
    omega
/-- What the loop has behind k references. -/
structure Lined (w0 w : World) (b : Nat) (p h d : ByteArray) (l : List ByteArray) (iv : Value) (k : Nat) (v : Value) : Prop where
  below : Below w0.heap.size w0 w
  info : InfoAt w b p h d iv
  row : w.ownsRow (b + 1) 9 1 v (strs (rows h d ++ (l.take k).map (refW ++ ·))).length (strs (rows h d ++ (l.take k).map (refW ++ ·)))
theorem InfoAt.grown {w w' : World} {b : Nat} {p h d : ByteArray} {iv v : Value} {e n : Nat} {xs : List Value} (hi : InfoAt w b p h d iv) (ho : w.ownsRow (b + 1) e 1 v n xs) (hg : w.grownBy w' v.ownBlock) : InfoAt w' b p h d iv :=
  (hg.block b (Array.getElem?_eq_some_iff.1 hi).1 (fun e => by have := (ho.lt b e.symm).1; omega)).trans hi
set_option maxHeartbeats 4000000 in
set_option maxRecDepth 100000 in
theorem text_of (p h d : ByteArray) (l : List ByteArray) (A : Option Addr) (c : Nat) (w : World) (hp : p.size ≤ 16777216) (hh : h.size ≤ 16777216) (hd : d.size ≤ 16777216) (hr : Kd.C Kd.string w A l.length l) (hc : l.length ≤ c) (hl : l.length ≤ 1000000000) (hs : Short l) (T : Tabs w) :
    Calls Tryd.prog 5 #[.agg #[.string p, .string h, .string d, .slice A l.length c]] w fun e w' => ∃ t x, e = .returned (.tuple #[.string t, .int .i64 x]) ∧ Below w.heap.size w w' ∧ ((InfoOk p h d l ∧ x = 0 ∧ t = textOf h d l) ∨ (¬ InfoOk p h d l ∧ x = 10 ∧ t = ⟨#[]⟩)) := by
  have HT := Lib.hid T
  have HR := Lib.hid hr
  have HC := Lib.hid hc
  have HL := Lib.hid hl
  have HS := Lib.hid hs
  clear T hr hc hl hs
  go_enter Tryd.func5, Tryd.ntmps5
  go_wp2_with (go_at_call 17; refine (may_of p h d l A c _ hp hh hd (Kd.C_below HR.out ((Below.refl _ _).alloc (Nat.le_refl _) _)) HC.out HL.out HS.out (HT.out.of ((Below.refl _ _).alloc (Nat.le_refl _) _))).mono ?_; rintro e w' ⟨b, rfl, hb, hx⟩; refine Hid.out ?_)
  refine Lib.hid ?_
  have hI : InfoAt w' w.heap.size p h d (.slice A l.length c) := (hb.block _ (by simp)).trans (heap_alloc_new w _)
  have hB : Below w.heap.size w w' := ((Below.refl _ _).alloc (Nat.le_refl _) _).trans (hb.mono (by simp))
  obtain ⟨c0, c1, c2, c3⟩ := info_cells hI
  have HI := Lib.hid hI
  have HB := Lib.hid hB
  have HX := Lib.hid hx
  clear hb hx hI hB
  cases b with
  | false =>
    have HE := Lib.hid (show ¬ InfoOk p h d l from fun H => by have := HX.out.2 H; cases this)
    go_wp2_with fail
    go_ret2
    exact ⟨_, _, rfl, HB.out, .inr ⟨HE.out, rfl, rfl⟩⟩
  | true =>
    have HE := Lib.hid (HX.out.1 rfl)
    by_cases hde : d.toList = []
    · have hdb : (d.toList != ([] : List UInt8)) = false := by simp [hde]
      have c2a : ∀ o, (w'.alloc o).cell? ⟨w.heap.size, 2, none⟩ = some (.string d) := fun o => row_cell _ _ _ _ _ 2 ((heap_alloc_old _ _ _ (Array.getElem?_eq_some_iff.1 HI.out).1).trans HI.out)
      have c3a : ∀ o, (w'.alloc o).cell? ⟨w.heap.size, 3, none⟩ = some (.slice A l.length c) := fun o => row_cell _ _ _ _ _ 3 ((heap_alloc_old _ _ _ (Array.getElem?_eq_some_iff.1 HI.out).1).trans HI.out)
      have HLn0 := Lib.hid (show Lined w (w'.alloc (.cells #[.string (hashW ++ h)] 9)) w.heap.size p h d l (.slice A l.length c) 0 (.slice (some ⟨w'.heap.size, 0, none⟩) 1 1) from
        ⟨HB.out.alloc HB.out.size _, (heap_alloc_old _ _ _ (Array.getElem?_eq_some_iff.1 HI.out).1).trans HI.out, by
          have e : rows h d ++ (l.take 0).map (refW ++ ·) = [hashW ++ h] := by simp [rows, hde]
          rw [e]
          exact own_new w' _ _ (Array.getElem?_eq_some_iff.1 HI.out).1⟩)
      go_wp2_with fail
      go_loopw [4, 26] (fun v i wr => ∃ k : Nat, k ≤ l.length ∧ i = .int .i64 k ∧ Lined w wr w.heap.size p h d l (.slice A l.length c) k v) (fun _ i _ => l.length - (intOf i).toNat)
      case atStart => exact ⟨0, by omega, rfl, HLn0.out⟩
      case round =>
        obtain ⟨k, hk, rfl, hLn⟩ := hrel
        by_cases hlt : k < l.length
        · obtain ⟨ad, rfl, hx⟩ := Kd.at_string (Kd.C_below HR.out hLn.below) (k : Int) (by omega) (by omega)
          obtain ⟨x, hxe⟩ : ∃ x, rdOf ByteArray.empty l k = x := ⟨_, rfl⟩
          rw [hxe, Int.toNat_natCast] at hx
          have HXe := Lib.hid (show l.getD k ByteArray.empty = x from hxe)
          have HLn := Lib.hid hLn
          have hxs : x.size ≤ 16777216 := HXe.out ▸ HS.out _
          have HH := Lib.hid (show w.heap.size + 1 ≤ wr.heap.size from (Array.getElem?_eq_some_iff.1 hLn.info).1)
          have H64 := Lib.hid (show (strs (rows h d ++ (l.take k).map (refW ++ ·))).length + 1 ≤ 1000000 from by
            have := (HE.out.2.2.2.1).1
            rw [strs_length, List.length_append, List.length_map, List.length_take]
            unfold rows
            split <;> simp <;> omega)
          clear hxe hLn
          go_wp2_with (refine print_append (w0 := wr) (w.heap.size + 1) rfl (.tmp 30) (.tmp 33) 22 9 (.string ⟨#[]⟩) 16 rfl Tryd.underlying22 (by kernel_rfl) rfl (by decide) _ (strs (rows h d ++ (l.take k).map (refW ++ ·))) (.string (refW ++ x)) rfl rfl rfl HLn.out.row (Below.refl _ _) HH.out (by have := H64.out; omega) ?_; intro v1 w1 ho hbl hg hat; refine Hid.out ?_)
          refine Lib.hid ?_
          have hln1 : Lined w w1 w.heap.size p h d l (.slice (some ad) l.length c) (k + 1) v1 := by
            have e : strs (rows h d ++ (l.take k).map (refW ++ ·)) ++ [Value.string (refW ++ x)] = strs (rows h d ++ (l.take (k + 1)).map (refW ++ ·)) := by
              unfold strs
              rw [← List.map_singleton (f := Value.string), ← List.map_append, List.append_assoc, List.take_succ_eq_append_getElem hlt, List.map_append]
              have : l[k] = x := by rw [← HXe.out]; simp [hlt, List.getD]
              rw [this]
              simp
            rw [e] at ho
            exact ⟨HLn.out.below.trans (hbl.mono (by omega)), HLn.out.info.grown HLn.out.row hg, ho⟩
          have HLn1 := Lib.hid hln1
          have hk1 : wrap64 ((k : Int) + 1) = ((k + 1 : Nat) : Int) := by have := HL.out; unfold wrap64; omega
          clear hln1 ho hbl hg hat
          go_wp2_with fail
          go_roundw
          case rel => exact ⟨k + 1, hlt, by rw [hk1], HLn1.out⟩
          case measure =>
            rw [hk1]
            show l.length - ((k + 1 : Nat) : Int).toNat < l.length - ((k : Nat) : Int).toNat
            rw [Int.toNat_natCast, Int.toNat_natCast]
            exact Nat.sub_lt_sub_left hlt (Nat.lt_succ_self k)
        · obtain rfl : k = l.length := by omega
          have hall : rows h d ++ (l.take l.length).map (refW ++ ·) = rowsAll h d l := by rw [List.take_length]; rfl
          have hrow := hLn.row
          rw [hall] at hrow
          have h1026 : (rowsAll h d l).length ≤ 1026 := by
            have := (HE.out.2.2.2.1).1
            unfold rowsAll rows
            rw [List.length_append, List.length_map]
            split <;> simp <;> omega
          have hpos : 0 < (rowsAll h d l).length := by unfold rowsAll rows; split <;> simp
          have hjl : (Lib.join ((rowsAll h d l).map (·.data.toList)) nlW.data.toList).length ≤ 100000000000 := by
            refine Nat.le_trans (join_len _ 16777224 (rows_short h d l hh hd HS.out)) ?_
            rw [List.length_map]
            exact Nat.le_trans (Nat.mul_le_mul_right _ h1026) (by decide)
          obtain ⟨g, cap, cur, rfl, g1, g2, g3, g4, g5, g6⟩ : ∃ g cap cur, u4 = .slice (some ⟨g, 0, none⟩) (rowsAll h d l).length cap ∧ w.heap.size + 1 ≤ g ∧ wr.heap[g]? = some (.cells cur 9 (0, 0)) ∧ (rowsAll h d l).length ≤ cap ∧ cap ≤ maxLen ∧ cur.size = cap * 1 ∧ cur.toList.take ((rowsAll h d l).length * 1) = strs (rowsAll h d l) := by
            rw [strs_length] at hrow
            rcases hrow.2 with ⟨rfl, e⟩ | ⟨g, cap, cur, rfl, g1, g2⟩
            · omega
            · exact ⟨g, cap, cur, rfl, g1, g2⟩
          have hcells : ∀ (j : Nat) x, (rowsAll h d l)[j]? = some x → wr.cell? ⟨g, 0 + j, none⟩ = some (.string x) := by
            intro j x hx
            have hj : j < (rowsAll h d l).length := (List.getElem?_eq_some_iff.1 hx).1
            rw [row_cell wr g cur 9 (0, 0) (0 + j) g2, Nat.zero_add]
            have e : (cur.toList.take ((rowsAll h d l).length * 1))[j]? = cur[j]? := by rw [List.getElem?_take_of_lt (by omega)]; simp
            rw [← e, g6]
            simp [strs, hx]
          have hjoin := Tryd.strings_Join g 0 cap (rowsAll h d l) nlW wr hcells (Array.getElem?_eq_some_iff.1 g2).1 (Nat.le_trans h1026 (by decide)) g3 (Nat.le_trans hjl (by decide))
          obtain ⟨J, hJ⟩ : ∃ J : ByteArray, (⟨(Lib.join ((rowsAll h d l).map (·.data.toList)) nlW.data.toList).toArray⟩ : ByteArray) = J := ⟨_, rfl⟩
          have hJs : J.size ≤ 100000000000 := by rw [← hJ]; simpa [ByteArray.size] using hjl
          rw [hJ] at hjoin
          have HJ := Lib.hid (show textOf h d l = J ++ nlW from congrArg (· ++ nlW) hJ)
          have HB1 := Lib.hid hLn.below
          clear hLn hrow hjl hcells hJ g1 g2 g3 g4 g5 g6 hall h1026 hpos
          go_wp2_with (go_at_call 18; refine hjoin.mono ?_; rintro e w7 ⟨rfl, hb⟩; refine Hid.out ?_)
          refine Lib.hid ?_
          have HB7 := Lib.hid (show Below w.heap.size w w7 from HB1.out.trans (hb.mono HB1.out.size))
          clear hb
          go_wp2_with fail
          go_ret2
          exact ⟨_, _, rfl, HB7.out, .inl ⟨HE.out, rfl, HJ.out.symm⟩⟩
    · have hdb : (d.toList != ([] : List UInt8)) = true := by simp [hde]
      have hdb2 : d.toList.isEmpty = false := by simp [hde]
      have hi1 : InfoAt (w'.alloc (.cells #[.string (hashW ++ h)] 9)) w.heap.size p h d (.slice A l.length c) := (heap_alloc_old _ _ _ (Array.getElem?_eq_some_iff.1 HI.out).1).trans HI.out
      have hb1 : Below w.heap.size w (w'.alloc (.cells #[.string (hashW ++ h)] 9)) := HB.out.alloc HB.out.size _
      have ho1 := own_new w' (w.heap.size + 1) (hashW ++ h) (Array.getElem?_eq_some_iff.1 HI.out).1
      go_wp2_with ((with_reducible refine gate_dst (N := 15) rfl ?_); refine Hid.out ?_)
      refine Lib.hid ?_
      revert hi1 hb1 ho1
      obtain ⟨z0, hz0⟩ : ∃ z0 : ByteArray, hashW ++ h = z0 := ⟨_, rfl⟩
      rw [hz0, show (⟨#[104, 97, 115, 104, 32]⟩ : ByteArray) ++ h = z0 from hz0]
      obtain ⟨q0, hq0⟩ : ∃ q0, w'.heap.size = q0 := ⟨_, rfl⟩
      rw [hq0]
      generalize w'.alloc (.cells #[.string z0] 9) = w3
      intro hi1 hb1 ho1
      have HI1 := Lib.hid hi1
      have HB1 := Lib.hid hb1
      have HO1 := Lib.hid ho1
      have HZ0 := Lib.hid hz0
      have HS1 := Lib.hid (show w.heap.size + 1 ≤ w3.heap.size from (Array.getElem?_eq_some_iff.1 HI1.out).1)
      obtain ⟨c0, c1, c2, c3⟩ := info_cells hi1
      clear hi1 hb1 ho1 hz0 hq0
      go_wp2_with (refine print_append (w0 := w3) (w.heap.size + 1) rfl (.tmp 17) (.tmp 21) 22 9 (.string ⟨#[]⟩) 16 rfl Tryd.underlying22 (by kernel_rfl) rfl (by decide) _ (strs [z0]) (.string (derW ++ d)) rfl rfl rfl HO1.out (Below.refl _ _) HS1.out (by simp [strs]) ?_; intro v1 w1 ho hbl hg hat; refine Hid.out ?_)
      refine Lib.hid ?_
      have HLn0 := Lib.hid (show Lined w w1 w.heap.size p h d l (.slice A l.length c) 0 v1 from
        ⟨HB1.out.trans (hbl.mono (by omega)), HI1.out.grown HO1.out hg, by
          have e : strs (rows h d ++ (l.take 0).map (refW ++ ·)) = strs [z0] ++ [Value.string (derW ++ d)] := by rw [← HZ0.out]; simp [rows, hde, strs]
          rw [e]
          exact ho⟩)
      obtain ⟨c0, c1, c2, c3⟩ := info_cells HLn0.out.info
      clear ho hbl hg hat
      go_wp2_with fail
      go_loopw [4, 26] (fun v i wr => ∃ k : Nat, k ≤ l.length ∧ i = .int .i64 k ∧ Lined w wr w.heap.size p h d l (.slice A l.length c) k v) (fun _ i _ => l.length - (intOf i).toNat)
      case atStart => exact ⟨0, by omega, rfl, HLn0.out⟩
      case round =>
        obtain ⟨k, hk, rfl, hLn⟩ := hrel
        by_cases hlt : k < l.length
        · obtain ⟨ad, rfl, hx⟩ := Kd.at_string (Kd.C_below HR.out hLn.below) (k : Int) (by omega) (by omega)
          obtain ⟨x, hxe⟩ : ∃ x, rdOf ByteArray.empty l k = x := ⟨_, rfl⟩
          rw [hxe, Int.toNat_natCast] at hx
          have HXe := Lib.hid (show l.getD k ByteArray.empty = x from hxe)
          have HLn := Lib.hid hLn
          have hxs : x.size ≤ 16777216 := HXe.out ▸ HS.out _
          have HH := Lib.hid (show w.heap.size + 1 ≤ wr.heap.size from (Array.getElem?_eq_some_iff.1 hLn.info).1)
          have H64 := Lib.hid (show (strs (rows h d ++ (l.take k).map (refW ++ ·))).length + 1 ≤ 1000000 from by
            have := (HE.out.2.2.2.1).1
            rw [strs_length, List.length_append, List.length_map, List.length_take]
            unfold rows
            split <;> simp <;> omega)
          clear hxe hLn
          go_wp2_with (refine print_append (w0 := wr) (w.heap.size + 1) rfl (.tmp 30) (.tmp 33) 22 9 (.string ⟨#[]⟩) 16 rfl Tryd.underlying22 (by kernel_rfl) rfl (by decide) _ (strs (rows h d ++ (l.take k).map (refW ++ ·))) (.string (refW ++ x)) rfl rfl rfl HLn.out.row (Below.refl _ _) HH.out (by have := H64.out; omega) ?_; intro v1 w1 ho hbl hg hat; refine Hid.out ?_)
          refine Lib.hid ?_
          have hln1 : Lined w w1 w.heap.size p h d l (.slice (some ad) l.length c) (k + 1) v1 := by
            have e : strs (rows h d ++ (l.take k).map (refW ++ ·)) ++ [Value.string (refW ++ x)] = strs (rows h d ++ (l.take (k + 1)).map (refW ++ ·)) := by
              unfold strs
              rw [← List.map_singleton (f := Value.string), ← List.map_append, List.append_assoc, List.take_succ_eq_append_getElem hlt, List.map_append]
              have : l[k] = x := by rw [← HXe.out]; simp [hlt, List.getD]
              rw [this]
              simp
            rw [e] at ho
            exact ⟨HLn.out.below.trans (hbl.mono (by omega)), HLn.out.info.grown HLn.out.row hg, ho⟩
          have HLn1 := Lib.hid hln1
          have hk1 : wrap64 ((k : Int) + 1) = ((k + 1 : Nat) : Int) := by have := HL.out; unfold wrap64; omega
          clear hln1 ho hbl hg hat
          go_wp2_with fail
          go_roundw
          case rel => exact ⟨k + 1, hlt, by rw [hk1], HLn1.out⟩
          case measure =>
            rw [hk1]
            show l.length - ((k + 1 : Nat) : Int).toNat < l.length - ((k : Nat) : Int).toNat
            rw [Int.toNat_natCast, Int.toNat_natCast]
            exact Nat.sub_lt_sub_left hlt (Nat.lt_succ_self k)
        · obtain rfl : k = l.length := by omega
          have hall : rows h d ++ (l.take l.length).map (refW ++ ·) = rowsAll h d l := by rw [List.take_length]; rfl
          have hrow := hLn.row
          rw [hall] at hrow
          have h1026 : (rowsAll h d l).length ≤ 1026 := by
            have := (HE.out.2.2.2.1).1
            unfold rowsAll rows
            rw [List.length_append, List.length_map]
            split <;> simp <;> omega
          have hpos : 0 < (rowsAll h d l).length := by unfold rowsAll rows; split <;> simp
          have hjl : (Lib.join ((rowsAll h d l).map (·.data.toList)) nlW.data.toList).length ≤ 100000000000 := by
            refine Nat.le_trans (join_len _ 16777224 (rows_short h d l hh hd HS.out)) ?_
            rw [List.length_map]
            exact Nat.le_trans (Nat.mul_le_mul_right _ h1026) (by decide)
          obtain ⟨g, cap, cur, rfl, g1, g2, g3, g4, g5, g6⟩ : ∃ g cap cur, u4 = .slice (some ⟨g, 0, none⟩) (rowsAll h d l).length cap ∧ w.heap.size + 1 ≤ g ∧ wr.heap[g]? = some (.cells cur 9 (0, 0)) ∧ (rowsAll h d l).length ≤ cap ∧ cap ≤ maxLen ∧ cur.size = cap * 1 ∧ cur.toList.take ((rowsAll h d l).length * 1) = strs (rowsAll h d l) := by
            rw [strs_length] at hrow
            rcases hrow.2 with ⟨rfl, e⟩ | ⟨g, cap, cur, rfl, g1, g2⟩
            · omega
            · exact ⟨g, cap, cur, rfl, g1, g2⟩
          have hcells : ∀ (j : Nat) x, (rowsAll h d l)[j]? = some x → wr.cell? ⟨g, 0 + j, none⟩ = some (.string x) := by
            intro j x hx
            have hj : j < (rowsAll h d l).length := (List.getElem?_eq_some_iff.1 hx).1
            rw [row_cell wr g cur 9 (0, 0) (0 + j) g2, Nat.zero_add]
            have e : (cur.toList.take ((rowsAll h d l).length * 1))[j]? = cur[j]? := by rw [List.getElem?_take_of_lt (by omega)]; simp
            rw [← e, g6]
            simp [strs, hx]
          have hjoin := Tryd.strings_Join g 0 cap (rowsAll h d l) nlW wr hcells (Array.getElem?_eq_some_iff.1 g2).1 (Nat.le_trans h1026 (by decide)) g3 (Nat.le_trans hjl (by decide))
          obtain ⟨J, hJ⟩ : ∃ J : ByteArray, (⟨(Lib.join ((rowsAll h d l).map (·.data.toList)) nlW.data.toList).toArray⟩ : ByteArray) = J := ⟨_, rfl⟩
          have hJs : J.size ≤ 100000000000 := by rw [← hJ]; simpa [ByteArray.size] using hjl
          rw [hJ] at hjoin
          have HJ := Lib.hid (show textOf h d l = J ++ nlW from congrArg (· ++ nlW) hJ)
          have HB1 := Lib.hid hLn.below
          clear hLn hrow hjl hcells hJ g1 g2 g3 g4 g5 g6 hall h1026 hpos
          go_wp2_with (go_at_call 18; refine hjoin.mono ?_; rintro e w7 ⟨rfl, hb⟩; refine Hid.out ?_)
          refine Lib.hid ?_
          have HB7 := Lib.hid (show Below w.heap.size w w7 from HB1.out.trans (hb.mono HB1.out.size))
          clear hb
          go_wp2_with fail
          go_ret2
          exact ⟨_, _, rfl, HB7.out, .inl ⟨HE.out, rfl, HJ.out.symm⟩⟩
end Go.Proofs.YtcmlifbfegblgaaDoor
