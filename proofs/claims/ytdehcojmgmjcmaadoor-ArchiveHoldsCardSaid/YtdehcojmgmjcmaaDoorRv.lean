/- The archive's writer: a node, and all that is in it. -/
import Derived.Test.YtdehcojmgmjcmaaDoorRu
import Derived.Test.YtdehcojmgmjcmaaDoorRA
namespace Go.Proofs.YtdehcojmgmjcmaaDoor
set_option linter.unusedVariables false
set_option linter.unusedSimpArgs false
open Go.RowKit QArchiveBack Go.Proofs.YtdehcojmgmjcmaaDoorW.PrintWords Go.Proofs.YtdehcojmgmjcmaaDoorW.PrintLast Go.Proofs.YtdehcojmgmjcmaaDoorW.PrintMore
def wParen : ByteArray := ⟨#[40]⟩
def wType : ByteArray := ⟨#[116, 121, 112, 101]⟩
def wReg : ByteArray := ⟨#[114, 101, 103, 117, 108, 97, 114]⟩
def wExec : ByteArray := ⟨#[101, 120, 101, 99, 117, 116, 97, 98, 108, 101]⟩
def wNone : ByteArray := ⟨#[]⟩
def wCont : ByteArray := ⟨#[99, 111, 110, 116, 101, 110, 116, 115]⟩
def wSym : ByteArray := ⟨#[115, 121, 109, 108, 105, 110, 107]⟩
def wTarget : ByteArray := ⟨#[116, 97, 114, 103, 101, 116]⟩
def wDir : ByteArray := ⟨#[100, 105, 114, 101, 99, 116, 111, 114, 121]⟩
def wEntry : ByteArray := ⟨#[101, 110, 116, 114, 121]⟩
def wName : ByteArray := ⟨#[110, 97, 109, 101]⟩
def wNode : ByteArray := ⟨#[110, 111, 100, 101]⟩
def wEnd : ByteArray := ⟨#[41]⟩
mutual
/-- a node's archive -/
def nodeL : S26 → List Int
  | ⟨f0, f1, f2, f3, f4⟩ => strsL [wParen, wType] ++ (if f0 = 1 then strsL [wReg] ++ (if f1 = true then strsL [wExec, wNone] else []) ++ strsL [wCont, strOfNums f2] else if f0 = 3 then strsL [wSym, wTarget, strOfNums f2] else strsL [wDir] ++ entsL f4 f3) ++ strsL [wEnd]
def entsL : List S26 → List ByteArray → List Int
  | x :: xs, n :: ns => strsL [wEntry, wParen, wName, n, wNode] ++ nodeL x ++ strsL [wEnd] ++ entsL xs ns
  | _, _ => []
end
mutual
/-- the kinds, and as many names as nodes -/
def shape : S26 → Prop
  | ⟨f0, _, _, f3, f4⟩ => (f0 = 1 ∨ f0 = 3 ∨ f0 = 2) ∧ (f0 = 2 → f3.length = f4.length) ∧ f4.length ≤ 1000000 ∧ shapeL f4
def shapeL : List S26 → Prop
  | [] => True
  | x :: xs => shape x ∧ shapeL xs
end
theorem shape_eq (x : S26) : shape x ↔ ((x.f0 = 1 ∨ x.f0 = 3 ∨ x.f0 = 2) ∧ (x.f0 = 2 → x.f3.length = x.f4.length) ∧ x.f4.length ≤ 1000000 ∧ shapeL x.f4) := by cases x; rw [shape]
theorem shape_mem {x : S26} {l : List S26} (h : shapeL l) (hx : x ∈ l) : shape x := by
  induction l with
  | nil => cases hx
  | cons y l ih =>
    rw [shapeL] at h
    rcases List.mem_cons.1 hx with rfl | hx
    · exact h.1
    · exact ih h.2 hx
theorem entsL_take : ∀ (xs : List S26) (ns : List ByteArray) (j : Nat) (hx : j < xs.length) (hn : j < ns.length),
    entsL (xs.take (j + 1)) (ns.take (j + 1)) = entsL (xs.take j) (ns.take j) ++ (strsL [wEntry, wParen, wName, ns[j], wNode] ++ nodeL xs[j] ++ strsL [wEnd])
  | x :: xs, n :: ns, 0, _, _ => by simp [entsL]
  | x :: xs, n :: ns, j + 1, hx, hn => by
    have ih := entsL_take xs ns j (by simpa using hx) (by simpa using hn)
    simp only [List.take_succ_cons, entsL, List.getElem_cons_succ]
    rw [ih]
    simp only [List.append_assoc]
theorem entsL_take_le : ∀ (xs : List S26) (ns : List ByteArray) (j : Nat), (entsL (xs.take j) (ns.take j)).length ≤ (entsL xs ns).length
  | [], _, _ => by simp [entsL]
  | _ :: _, [], _ => by simp [entsL]
  | x :: xs, n :: ns, 0 => by simp [entsL]
  | x :: xs, n :: ns, j + 1 => by
    have ih := entsL_take_le xs ns j
    simp only [List.take_succ_cons, entsL, List.length_append]
    omega
theorem entsL_all : ∀ (xs : List S26) (ns : List ByteArray), xs.length = ns.length → entsL (xs.take ns.length) (ns.take ns.length) = entsL xs ns := by
  intro xs ns h
  rw [List.take_length, ← h, List.take_length]
/-- what holds between the writer's calls: the buffer b, and the boxed node -/
structure NS (wB w0 : World) (b gb : Nat) (cells : Array Value) (bs : List Int) (w : World) : Prop where
  wb : WB wB.heap.size b bs w
  below : Below wB.heap.size w0 w
  kept : Lib.OthersKept 5 (some b) w0 w
  box : w.heap[gb]? = some (.cells cells 26 (0, 0))
  size : wB.heap.size ≤ w.heap.size
theorem strings_lit (B b : Nat) (bs : List Int) (L : List ByteArray) (w : World) (h : WB B b bs w) (hBw : B ≤ w.heap.size) (hll : L.length ≤ 1000000) (hlim : bs.length + (strsL L).length ≤ 70368744177664) :
    Calls Tryd.prog 11 #[.pointer (some ⟨b, 0, none⟩), .slice (some ⟨w.heap.size, 0, none⟩) L.length L.length] (w.alloc (.cells (L.map Value.string).toArray 9)) fun e w' => e = .returned (.tuple #[]) ∧ WB B b (bs ++ strsL L) w' ∧ Below B w w' ∧ Lib.OthersKept 5 (some b) w w' := by
  have hlt : b < w.heap.size := LibA.IsBuffer.lt h
  refine (strings_of B b w.heap.size L.length bs L (w.alloc (.cells (L.map Value.string).toArray 9)) (LibA.IsBuffer.alloc h _) (by have := ((Below.refl B w).alloc hBw (.cells (L.map Value.string).toArray 9)).size; omega) (heap_alloc_new _ _) (by omega) hll hlim).mono ?_
  rintro e w' ⟨he, hw, hb, ho⟩
  exact ⟨he, hw, ((Below.refl B w).alloc hBw _).trans hb, ((Lib.OthersKept.refl _ _ _).alloc _).trans ho⟩
theorem NS.strings {wB w0 w : World} {b gb : Nat} {cells : Array Value} {bs : List Int} (h : NS wB w0 b gb cells bs w) (L : List ByteArray) (hgb : gb ≠ b) (hll : L.length ≤ 1000000) (hlim : bs.length + (strsL L).length ≤ 70368744177664) :
    Calls Tryd.prog 11 #[.pointer (some ⟨b, 0, none⟩), .slice (some ⟨w.heap.size, 0, none⟩) L.length L.length] (w.alloc (.cells (L.map Value.string).toArray 9)) fun e w' => e = .returned (.tuple #[]) ∧ NS wB w0 b gb cells (bs ++ strsL L) w' := by
  refine (strings_lit _ b bs L w h.wb h.size hll hlim).mono ?_
  rintro e w' ⟨he, hw, hb, ho⟩
  exact ⟨he, hw, h.below.trans hb, h.kept.trans ho, ho gb _ h.box (by intro e; exact hgb (Option.some.inj e)) (by intro c fz e; injection e with _ e2 _; exact absurd e2 (by decide)), Nat.le_trans h.size hb.size⟩
theorem NS.node {wB w0 w w' : World} {b gb : Nat} {cells : Array Value} {bs xs : List Int} (h : NS wB w0 b gb cells bs w) (hgb : gb ≠ b) (hw : WB wB.heap.size b (bs ++ xs) w') (hb : Below wB.heap.size w w') (ho : Lib.OthersKept 5 (some b) w w') : NS wB w0 b gb cells (bs ++ xs) w' :=
  ⟨hw, h.below.trans hb, h.kept.trans ho, ho gb _ h.box (by intro e; exact hgb (Option.some.inj e)) (by intro c fz e; injection e with _ e2 _; exact absurd e2 (by decide)), Nat.le_trans h.size hb.size⟩
theorem NS.cell {wB w0 w : World} {b gb : Nat} {cells : Array Value} {bs : List Int} (h : NS wB w0 b gb cells bs w) (i : Nat) : w.cell? ⟨gb, i, none⟩ = cells[i]? := cell_of_row w gb i _ _ _ h.box
set_option maxRecDepth 8000 in
set_option maxHeartbeats 8000000 in
theorem node_of (wB : World) (b : Nat) (n : Nat) : ∀ (x : S26), nodes x ≤ n → shape x → ∀ (cs : List Value) (bs : List Int) (w : World), k26.K wB x cs → WB wB.heap.size b bs w → Below wB.heap.size wB w → bs.length + (nodeL x).length ≤ 70368744177664 →
    Calls Tryd.prog 12 #[.pointer (some ⟨b, 0, none⟩), .agg cs.toArray] w fun e w' => e = .returned (.tuple #[]) ∧ WB wB.heap.size b (bs ++ nodeL x) w' ∧ Below wB.heap.size w w' ∧ Lib.OthersKept 5 (some b) w w' := by
  induction n with
  | zero => intro x hx; have := nodes_eq x; omega
  | succ n ih =>
    intro x hx hsh cs bs w hK hW hBw hlim
    obtain ⟨A2, c2, A3, c3, A4, c4, rfl, l2, g2, l3, g3, l4, g4⟩ := k26_open hK
    rw [shape_eq] at hsh
    have hno := nodes_eq x
    obtain ⟨f0, f1, f2, f3, f4⟩ := x
    simp only at hsh hno l2 g2 l3 g3 l4 g4
    obtain ⟨hkind, hlen, hl4, hsl⟩ := hsh
    have hlt : b < w.heap.size := LibA.IsBuffer.lt hW
    have hsz : wB.heap.size ≤ w.heap.size := hBw.size
    have HS0 : NS wB w b w.heap.size #[.int .i64 f0, .bool f1, .slice A2 f2.length c2, .slice A3 f3.length c3, .slice A4 f4.length c4] bs (w.alloc (.cells #[.int .i64 f0, .bool f1, .slice A2 f2.length c2, .slice A3 f3.length c3, .slice A4 f4.length c4] 26)) :=
      ⟨LibA.IsBuffer.alloc hW _, (Below.refl _ _).alloc hsz _, (Lib.OthersKept.refl _ _ _).alloc _, heap_alloc_new _ _, by have := ((Below.refl wB.heap.size w).alloc hsz (.cells #[.int .i64 f0, .bool f1, .slice A2 f2.length c2, .slice A3 f3.length c3, .slice A4 f4.length c4] 26)).size; omega⟩
    have HBW := Lib.hid hBw
    have HLM := Lib.hid hlim
    have G2 := Lib.hid g2
    have G3 := Lib.hid g3
    have G4 := Lib.hid g4
    have HX := Lib.hid hx
    have HNO := Lib.hid hno
    have HSL := Lib.hid hsl
    have HL4 := Lib.hid hl4
    clear hW hBw hlim g2 g3 g4 hx hno hsl hl4 hK
    go_enter Tryd.func12, Tryd.ntmps12
    go_upto_region 1 with fail
    generalize w.alloc (.cells #[.int .i64 f0, .bool f1, .slice A2 f2.length c2, .slice A3 f3.length c3, .slice A4 f4.length c4] 26) = w1 at HS0 ⊢
    have hgb : w.heap.size ≠ b := by omega
    generalize w.heap.size = gb at HS0 hgb ⊢
    have H1 := Lib.hid HS0
    clear HS0 hlt hsz
    have BW : ∀ w', Below wB.heap.size w w' → Below wB.heap.size wB w' := fun w' h => HBW.out.trans h
    rcases hkind with rfl | rfl | rfl
    · skip
      have hN : nodeL ⟨1, f1, f2, f3, f4⟩ = strsL [wParen, wType] ++ (strsL [wReg] ++ (if f1 = true then strsL [wExec, wNone] else []) ++ strsL [wCont, strOfNums f2]) ++ strsL [wEnd] := by rw [nodeL]; simp
      have hM := HLM.out
      rw [hN] at hM
      simp only [List.length_append] at hM
      have HN := Lib.hid hN
      have HM := Lib.hid hM
      clear hN hM HLM
      go_wp2_with (go_at_call 11; refine Hid.out ?_)
      refine Lib.hid ?_
      refine (H1.out.strings [wParen, wType] hgb (by simp) (by (try simp only [List.length_append]); have := HM.out; omega)).mono ?_
      rintro e w2 ⟨rfl, hs⟩
      refine Lib.hid ?_
      have H2 := Lib.hid hs
      clear hs H1
      have q0 := H2.out.cell 0
      simp only [List.getElem?_toArray, List.getElem?_cons_succ, List.getElem?_cons_zero] at q0
      go_upto_region 4 with fail
      clear q0
      go_wp2_with (go_at_call 11; refine Hid.out ?_)
      refine Lib.hid ?_
      refine (H2.out.strings [wReg] hgb (by simp) (by (try simp only [List.length_append]); have := HM.out; omega)).mono ?_
      rintro e w3 ⟨rfl, hs⟩
      refine Lib.hid ?_
      have H3 := Lib.hid hs
      clear hs H2
      have q1 := H3.out.cell 1
      simp only [List.getElem?_toArray, List.getElem?_cons_succ, List.getElem?_cons_zero] at q1
      cases f1
      · skip
        go_upto_region 7 with fail
        clear q1
        have q2 := H3.out.cell 2
        simp only [List.getElem?_toArray, List.getElem?_cons_succ, List.getElem?_cons_zero] at q2
        have hcv := Kd.C_string (P := Tryd.prog) (src := 22) (dst := 9) (e := 5) (c := c2) Tryd.underlying22 Tryd.underlying5 Tryd.underlying9 (Kd.C_below G2.out (BW w3 H3.out.below))
        go_wp2_with (go_at_call 11; refine Hid.out ?_)
        refine Lib.hid ?_
        refine (H3.out.strings [wCont, strOfNums f2] hgb (by simp) (by have := HM.out; simp only [if_true, Bool.false_eq_true, if_false, List.length_append, List.length_nil] at this ⊢; omega)).mono ?_
        rintro e w5 ⟨rfl, hs⟩
        refine Lib.hid ?_
        have H5 := Lib.hid hs
        clear hs H3
        clear q2 hcv
        go_wp2_with (go_at_call 11; refine Hid.out ?_)
        refine Lib.hid ?_
        refine (H5.out.strings [wEnd] hgb (by simp) (by have := HM.out; simp only [if_true, Bool.false_eq_true, if_false, List.length_append, List.length_nil] at this ⊢; omega)).mono ?_
        rintro e w6 ⟨rfl, hs⟩
        refine Lib.hid ?_
        have H6 := Lib.hid hs
        clear hs H5
        go_wp2_with fail
        go_end0
        have hw := H6.out.wb
        rw [HN.out]
        refine ⟨rfl, ?_, H6.out.below, H6.out.kept⟩
        simpa only [if_true, Bool.false_eq_true, if_false, List.append_assoc, List.append_nil, List.nil_append] using hw
      · skip
        go_upto_region 6 with fail
        clear q1
        go_wp2_with (go_at_call 11; refine Hid.out ?_)
        refine Lib.hid ?_
        refine (H3.out.strings [wExec, wNone] hgb (by simp) (by have := HM.out; simp only [if_true, List.length_append] at this ⊢; omega)).mono ?_
        rintro e w4 ⟨rfl, hs⟩
        refine Lib.hid ?_
        have H4 := Lib.hid hs
        clear hs H3
        go_upto_region 7 with fail
        have q2 := H4.out.cell 2
        simp only [List.getElem?_toArray, List.getElem?_cons_succ, List.getElem?_cons_zero] at q2
        have hcv := Kd.C_string (P := Tryd.prog) (src := 22) (dst := 9) (e := 5) (c := c2) Tryd.underlying22 Tryd.underlying5 Tryd.underlying9 (Kd.C_below G2.out (BW w4 H4.out.below))
        go_wp2_with (go_at_call 11; refine Hid.out ?_)
        refine Lib.hid ?_
        refine (H4.out.strings [wCont, strOfNums f2] hgb (by simp) (by have := HM.out; simp only [if_true, Bool.false_eq_true, if_false, List.length_append, List.length_nil] at this ⊢; omega)).mono ?_
        rintro e w5 ⟨rfl, hs⟩
        refine Lib.hid ?_
        have H5 := Lib.hid hs
        clear hs H4
        clear q2 hcv
        go_wp2_with (go_at_call 11; refine Hid.out ?_)
        refine Lib.hid ?_
        refine (H5.out.strings [wEnd] hgb (by simp) (by have := HM.out; simp only [if_true, Bool.false_eq_true, if_false, List.length_append, List.length_nil] at this ⊢; omega)).mono ?_
        rintro e w6 ⟨rfl, hs⟩
        refine Lib.hid ?_
        have H6 := Lib.hid hs
        clear hs H5
        go_wp2_with fail
        go_end0
        have hw := H6.out.wb
        rw [HN.out]
        refine ⟨rfl, ?_, H6.out.below, H6.out.kept⟩
        simpa only [if_true, Bool.false_eq_true, if_false, List.append_assoc, List.append_nil, List.nil_append] using hw
    · skip
      have hN : nodeL ⟨3, f1, f2, f3, f4⟩ = strsL [wParen, wType] ++ strsL [wSym, wTarget, strOfNums f2] ++ strsL [wEnd] := by rw [nodeL]; simp
      have hM := HLM.out
      rw [hN] at hM
      simp only [List.length_append] at hM
      have HN := Lib.hid hN
      have HM := Lib.hid hM
      clear hN hM HLM
      go_wp2_with (go_at_call 11; refine Hid.out ?_)
      refine Lib.hid ?_
      refine (H1.out.strings [wParen, wType] hgb (by simp) (by (try simp only [List.length_append]); have := HM.out; omega)).mono ?_
      rintro e w2 ⟨rfl, hs⟩
      refine Lib.hid ?_
      have H2 := Lib.hid hs
      clear hs H1
      have q0 := H2.out.cell 0
      simp only [List.getElem?_toArray, List.getElem?_cons_succ, List.getElem?_cons_zero] at q0
      go_upto_region 9 with fail
      clear q0
      have q2 := H2.out.cell 2
      simp only [List.getElem?_toArray, List.getElem?_cons_succ, List.getElem?_cons_zero] at q2
      have hcv := Kd.C_string (P := Tryd.prog) (src := 22) (dst := 9) (e := 5) (c := c2) Tryd.underlying22 Tryd.underlying5 Tryd.underlying9 (Kd.C_below G2.out (BW w2 H2.out.below))
      go_wp2_with (go_at_call 11; refine Hid.out ?_)
      refine Lib.hid ?_
      refine (H2.out.strings [wSym, wTarget, strOfNums f2] hgb (by simp) (by (try simp only [List.length_append]); have := HM.out; omega)).mono ?_
      rintro e w5 ⟨rfl, hs⟩
      refine Lib.hid ?_
      have H5 := Lib.hid hs
      clear hs H2
      clear q2 hcv
      go_wp2_with (go_at_call 11; refine Hid.out ?_)
      refine Lib.hid ?_
      refine (H5.out.strings [wEnd] hgb (by simp) (by (try simp only [List.length_append]); have := HM.out; omega)).mono ?_
      rintro e w6 ⟨rfl, hs⟩
      refine Lib.hid ?_
      have H6 := Lib.hid hs
      clear hs H5
      go_wp2_with fail
      go_end0
      have hw := H6.out.wb
      rw [HN.out]
      refine ⟨rfl, ?_, H6.out.below, H6.out.kept⟩
      simpa only [List.append_assoc] using hw
    · skip
      have hN : nodeL ⟨2, f1, f2, f3, f4⟩ = strsL [wParen, wType] ++ (strsL [wDir] ++ entsL f4 f3) ++ strsL [wEnd] := by rw [nodeL]; simp
      have hM := HLM.out
      rw [hN] at hM
      simp only [List.length_append] at hM
      have HN := Lib.hid hN
      have HM := Lib.hid hM
      clear hN hM HLM
      have HLEN := Lib.hid (hlen rfl)
      clear hlen
      go_wp2_with (go_at_call 11; refine Hid.out ?_)
      refine Lib.hid ?_
      refine (H1.out.strings [wParen, wType] hgb (by simp) (by (try simp only [List.length_append]); have := HM.out; omega)).mono ?_
      rintro e w2 ⟨rfl, hs⟩
      refine Lib.hid ?_
      have H2 := Lib.hid hs
      clear hs H1
      have q0 := H2.out.cell 0
      simp only [List.getElem?_toArray, List.getElem?_cons_succ, List.getElem?_cons_zero] at q0
      go_upto_region 11 with fail
      clear q0
      go_wp2_with (go_at_call 11; refine Hid.out ?_)
      refine Lib.hid ?_
      refine (H2.out.strings [wDir] hgb (by simp) (by (try simp only [List.length_append]); have := HM.out; omega)).mono ?_
      rintro e w3 ⟨rfl, hs⟩
      refine Lib.hid ?_
      have H3 := Lib.hid hs
      clear hs H2
      have q3 := H3.out.cell 3
      simp only [List.getElem?_toArray, List.getElem?_cons_succ, List.getElem?_cons_zero] at q3
      go_wp2_with fail
      clear q3
      have H3b : Hid (NS wB w b gb #[.int .i64 2, .bool f1, .slice A2 f2.length c2, .slice A3 f3.length c3, .slice A4 f4.length c4] (bs ++ strsL [wParen, wType] ++ strsL [wDir] ++ entsL (f4.take 0) (f3.take 0)) w3) := by simpa [entsL] using H3
      clear H3
      go_loopw [43] (fun i wr => ∃ j : Nat, j ≤ f3.length ∧ i = .int .i64 j ∧ Hid (NS wB w b gb #[.int .i64 2, .bool f1, .slice A2 f2.length c2, .slice A3 f3.length c3, .slice A4 f4.length c4] (bs ++ strsL [wParen, wType] ++ strsL [wDir] ++ entsL (f4.take j) (f3.take j)) wr)) (fun i _ => f3.length - (intOf i).toNat)
      case atStart => exact ⟨0, Nat.zero_le _, rfl, H3b⟩
      case round =>
        clear H3b
        obtain ⟨j, hj, rfl, H3⟩ := hrel
        by_cases hlt : j < f3.length
        · skip
          have hlt4 : j < f4.length := by have := HLEN.out; omega
          have hs1 := entsL_take f4 f3 j hlt4 hlt
          have hs2 := entsL_take_le f4 f3 (j + 1)
          rw [hs1] at hs2
          simp only [List.length_append] at hs2
          have HS1 := Lib.hid hs1
          have HS2 := Lib.hid hs2
          clear hs1 hs2
          obtain ⟨ad3, e3, hx3⟩ := Kd.at_string G3.out (j : Int) (by omega) (by omega)
          subst e3
          rw [rdn_at hlt, Int.toNat_natCast] at hx3
          replace hx3 := ((BW wr H3.out.below).cell (World.block_lt_of_cell? wB _ hx3)).trans hx3
          obtain ⟨ad4, B2, d2, B3, d3, B4, d4, e4, y0, y1, y2, y3, y4, m2, k2, m3, k3, m4, k4⟩ := at_T26 G4.out (j : Int) (by omega) (by omega)
          subst e4
          rw [rd_at hlt4] at y0 y1 y2 y3 y4 m2 k2 m3 k3 m4 k4
          rw [Int.toNat_natCast] at y0 y1 y2 y3 y4
          have hmem : f4[j] ∈ f4 := List.getElem_mem hlt4
          have hKj := Lib.hid (k26_mk wB f4[j] m2 k2 m3 k3 m4 k4)
          have hnj : Hid (nodes f4[j] ≤ n) := by have := nodes_mem hmem; have := HX.out; have := HNO.out; show _ ≤ _; omega
          have hsj := Lib.hid (shape_mem HSL.out hmem)
          clear m2 k2 m3 k3 m4 k4 hmem
          generalize f4[j] = xj at y0 y1 y2 y3 y4 hKj hnj hsj HS1 HS2
          generalize f3[j] = nj at hx3 HS1 HS2
          have gl : (j : Int) < (f3.length : Int) := by omega
          have gl4 : (j : Int) < (f4.length : Int) := by omega
          have lm : bs.length + ((strsL [wParen, wType]).length + (strsL [wDir]).length + (entsL (f4.take j) (f3.take j)).length + ((strsL [wEntry, wParen, wName, nj, wNode]).length + (nodeL xj).length + (strsL [wEnd]).length)) + (strsL [wEnd]).length ≤ 70368744177664 := by have := HM.out; have := HS2.out; omega
          have LM := Lib.hid lm
          clear lm
          go_wp2_with (go_at_call 11; refine Hid.out ?_)
          refine Lib.hid ?_
          refine (H3.out.strings [wEntry, wParen, wName, nj, wNode] hgb (by simp) (by (try simp only [List.length_append]); have := LM.out; omega)).mono ?_
          rintro e w4 ⟨rfl, hs⟩
          refine Lib.hid ?_
          have H4 := Lib.hid hs
          clear hs H3
          clear hx3
          have BW4 := BW w4 H4.out.below
          replace y0 := (BW4.cell (World.block_lt_of_cell? wB _ y0)).trans y0
          replace y1 := (BW4.cell (World.block_lt_of_cell? wB _ y1)).trans y1
          replace y2 := (BW4.cell (World.block_lt_of_cell? wB _ y2)).trans y2
          replace y3 := (BW4.cell (World.block_lt_of_cell? wB _ y3)).trans y3
          replace y4 := (BW4.cell (World.block_lt_of_cell? wB _ y4)).trans y4
          have q4 := H4.out.cell 4
          simp only [List.getElem?_toArray, List.getElem?_cons_succ, List.getElem?_cons_zero] at q4
          go_wp2_with fail
          clear q4 y0 y1 y2 y3 y4
          refine (ih xj hnj.out hsj.out _ _ w4 hKj.out H4.out.wb BW4 (by (try simp only [List.length_append]); have := LM.out; omega)).mono ?_
          rintro e w5 ⟨rfl, hw5, hb5, ho5⟩
          have H5 := Lib.hid (H4.out.node hgb hw5 hb5 ho5)
          clear hw5 hb5 ho5 H4 BW4
          go_wp2_with (go_at_call 11; refine Hid.out ?_)
          refine Lib.hid ?_
          refine (H5.out.strings [wEnd] hgb (by simp) (by (try simp only [List.length_append]); have := LM.out; omega)).mono ?_
          rintro e w6 ⟨rfl, hs⟩
          refine Lib.hid ?_
          have H6 := Lib.hid hs
          clear hs H5
          go_wp2_with fail
          have eL : bs ++ strsL [wParen, wType] ++ strsL [wDir] ++ entsL (f4.take j) (f3.take j) ++ strsL [wEntry, wParen, wName, nj, wNode] ++ nodeL xj ++ strsL [wEnd] = bs ++ strsL [wParen, wType] ++ strsL [wDir] ++ entsL (f4.take (j + 1)) (f3.take (j + 1)) := by
            rw [HS1.out]
            simp only [List.append_assoc]
          rw [eL] at H6
          have hl6 := HL4.out
          have hl7 := HLEN.out
          first
            | exact ⟨⟨j + 1, by omega, by go_num, H6⟩, by simp [intOf]; omega⟩
            | (refine ⟨⟨j + 1, by omega, by rw [w64' (by omega)]; rfl, H6⟩, ?_⟩; rw [w64' (by omega)]; simp [intOf]; omega)
        · skip
          obtain rfl : j = f3.length := by omega
          have gl : ¬ ((f3.length : Int) < (f3.length : Int)) := by omega
          rw [entsL_all f4 f3 HLEN.out.symm] at H3
          go_wp2_with (go_at_call 11; refine Hid.out ?_)
          refine Lib.hid ?_
          refine (H3.out.strings [wEnd] hgb (by simp) (by (try simp only [List.length_append]); have := HM.out; omega)).mono ?_
          rintro e w6 ⟨rfl, hs⟩
          refine Lib.hid ?_
          have H6 := Lib.hid hs
          clear hs H3
          go_wp2_with fail
          go_end0
          have hw := H6.out.wb
          rw [HN.out]
          refine ⟨rfl, ?_, H6.out.below, H6.out.kept⟩
          simpa only [List.append_assoc] using hw
theorem nodeL_eq (x : S26) : nodeL x = strsL [wParen, wType] ++ (if x.f0 = 1 then strsL [wReg] ++ (if x.f1 = true then strsL [wExec, wNone] else []) ++ strsL [wCont, strOfNums x.f2] else if x.f0 = 3 then strsL [wSym, wTarget, strOfNums x.f2] else strsL [wDir] ++ entsL x.f4 x.f3) ++ strsL [wEnd] := by cases x; rw [nodeL]
end Go.Proofs.YtdehcojmgmjcmaaDoor
