/- The reference's strings, and its node: as the plain archive has them. -/
import Derived.Test.YtepdnknhejjgnaaDoorSv
import Derived.Test.YtepdnknhejjgnaaDoorQArchiveEncodesx5
import Derived.Test.YtepdnknhejjgnaaDoorANdAll
namespace Go.Proofs.YtepdnknhejjgnaaDoor
set_option linter.unusedVariables false
set_option linter.unusedSimpArgs false
open Go.RowKit QArchiveEncodes Go.Proofs.YtepdnknhejjgnaaDoorW.PrintWords Go.Proofs.YtepdnknhejjgnaaDoorW.PrintLast Go.Proofs.YtepdnknhejjgnaaDoorW.PrintMore
theorem str_l0 : ∀ (m : Nat) (x : List Int), (x.length + m) % 8 = 0 → m < 8 → x.length + m < 140737488355328 → stillroomref07_Str.l0 (m + 1) x = some (x ++ List.replicate m 0)
  | 0, x, h, _, _ => by
    rw [stillroomref07_Str.l0, if_pos (by omega)]
    simp
  | m + 1, x, h, hm, hl => by
    have e : (x ++ [(0 : Int)]).length = x.length + 1 := by simp
    have ih := str_l0 m (x ++ [0]) (by rw [e]; omega) (by omega) (by rw [e]; omega)
    rw [stillroomref07_Str.l0, if_neg (by omega), if_pos (by omega), ih, List.append_assoc]
    rfl
theorem str_ev (s : ByteArray) (hs : s.size < 70368744177664) : Ev (fun k => stillroomref07_Str.f k s) (strL s) := by
  have hw : IntKind.u64.wrap ((s.size : Int)) = (s.size : Int) := by rw [IntKind.wrap_u64]; omega
  have hb : Ev (fun k => stillroomref01_Bytes.f k (s.size : Int) 8) (be8 (s.size : Int), 0) := Ev.of (fun k => stillroomref01_Bytes.mono _ _ k) (rbits8 _ (by omega) (by omega))
  unfold stillroomref07_Str.f
  rw [hw]
  refine Ev.bind hb ?_
  refine Ev.pos (by show 8 + s.size < _; omega) ?_
  refine Ev.of (fun k => stillroomref07_Str.mono_l k _) (k := padN s.size + 1) ?_
  have hp : padN s.size < 8 := Nat.mod_lt _ (by decide)
  exact str_l0 (padN s.size) (be8 (s.size : Int) ++ bytesOf s) (by rw [List.length_append, bytesOf_length]; show (8 + s.size + padN s.size) % 8 = 0; unfold padN; omega) hp (by rw [List.length_append, bytesOf_length]; show 8 + s.size + padN s.size < _; omega)
theorem all_l (l : List ByteArray) (hl : l.length < 1000000) (hs : ∀ s ∈ l, s.size < 70368744177664) :
    ∀ (d i : Nat) (x : List Int), l.length - i = d → i ≤ l.length → x.length + (strsL (l.drop i)).length ≤ 70368744177664 → Ev (fun k => stillroomref07_all.l0 k l x (i : Int)) (x ++ strsL (l.drop i)) := by
  intro d
  induction d with
  | zero =>
    intro i x h1 h2 h3
    have e : l.drop i = [] := List.drop_eq_nil_of_le (by omega)
    refine Ev.step (f := fun _ => some x) (fun k => ?_) ?_
    · simp only [stillroomref07_all.l0]
      rw [if_neg (by omega)]
    · rw [e]
      show Ev _ (x ++ [])
      rw [List.append_nil]
      exact Ev.now _
  | succ d ihd =>
    intro i x h1 h2 h3
    have hi : i < l.length := by omega
    have e := drop_at hi
    rw [e] at h3
    have h3 : x.length + (strL l[i] ++ strsL (l.drop (i + 1))).length ≤ 70368744177664 := h3
    rw [List.length_append] at h3
    refine Ev.step (f := fun k => (stillroomref07_Str.f k l[i]).bind fun t => (if x.length + t.length < 140737488355328 then stillroomref07_all.l0 k l (x ++ t) ((i + 1 : Nat) : Int) else none)) (fun k => ?_) ?_
    · simp only [stillroomref07_all.l0]
      rw [if_pos (by omega), if_pos (by omega), rdn_at hi, w64 (x := (i : Int) + 1) (by omega) (by omega)]
      rfl
    · rw [e]
      refine Ev.bind (f := fun k t => (if x.length + t.length < 140737488355328 then stillroomref07_all.l0 k l (x ++ t) ((i + 1 : Nat) : Int) else none)) (str_ev _ (hs _ (List.getElem_mem hi))) ?_
      refine Ev.pos (by omega) ?_
      have := ihd (i + 1) (x ++ strL l[i]) (by omega) (by omega) (by rw [List.length_append]; omega)
      rw [List.append_assoc] at this
      exact this
theorem all_ev (l : List ByteArray) (hl : l.length < 1000000) (hs : ∀ s ∈ l, s.size < 70368744177664) (h : (strsL l).length ≤ 70368744177664) : Ev (fun k => stillroomref07_all.f k l) (strsL l) := by
  have := all_l l hl hs l.length 0 [] (by omega) (by omega) (by rw [List.drop_zero]; simpa using h)
  rw [List.drop_zero, List.nil_append] at this
  exact this
theorem strs_sizes : ∀ (l : List ByteArray), (strsL l).length ≤ 70368744177664 → ∀ s ∈ l, s.size < 70368744177664
  | [], _, s, hs => by cases hs
  | t :: l, h, s, hs => by
    have h2 : (strL t ++ strsL l).length ≤ 70368744177664 := h
    rw [List.length_append, strL_len] at h2
    rcases List.mem_cons.1 hs with rfl | hs
    · omega
    · exact strs_sizes l (by omega) s hs
theorem all_ev' (l : List ByteArray) (hl : l.length < 1000000) (h : (strsL l).length ≤ 70368744177664) : Ev (fun k => stillroomref07_all.f k l) (strsL l) := all_ev l hl (strs_sizes l h) h
theorem str_ev' (s : ByteArray) (h : (strsL [s]).length ≤ 70368744177664) : Ev (fun k => stillroomref07_Str.f k s) (strsL [s]) := by
  have e : strsL [s] = strL s := List.append_nil _
  rw [e]
  exact str_ev s (strs_sizes [s] h s List.mem_cons_self)
theorem nodeL_eq (x : S26) : nodeL x = strsL [wParen, wType] ++ (if x.f0 = 1 then strsL [wReg] ++ (if x.f1 = true then strsL [wExec, wNone] else []) ++ strsL [wCont, strOfNums x.f2] else if x.f0 = 3 then strsL [wSym, wTarget, strOfNums x.f2] else strsL [wDir] ++ entsL x.f4 x.f3) ++ strsL [wEnd] := by cases x; rw [nodeL]
theorem lit_C (W : World) (L : List ByteArray) (hl : L.length ≤ 1000000) : Kd.C Kd.string (W.alloc (.cells (L.map Value.string).toArray 9)) (some ⟨W.heap.size, 0, none⟩) L.length L :=
  (Kd.R_reads' (Kd.R_of_own (enc := Value.string) (h1 := fun _ => rfl) (ok := fun _ => True) (own_lit_of (enc := Value.string) W W.heap.size 9 L (Nat.le_refl _) (by omega)) (fun _ _ => trivial))).2.2
theorem all_lit (W : World) (L : List ByteArray) (hl : L.length < 1000000) (h : (strsL L).length ≤ 70368744177664) :
    Calls Tryd.prog 28 #[.slice (some ⟨W.heap.size, 0, none⟩) L.length L.length] (W.alloc (.cells (L.map Value.string).toArray 9)) fun e w' => ∃ v, e = .returned v ∧ Kd.R (Kd.int .u8) 5 w' W.heap.size (fun _ => True) v (strsL L) ∧ Below W.heap.size W w' := by
  obtain ⟨k, hk⟩ := (all_ev' L hl h).rounds
  have hb0 := (Below.refl W.heap.size W).alloc (Nat.le_refl _) (.cells (L.map Value.string).toArray 9)
  refine (stillroomref07_all.calls k _ _ L _ _ (lit_C W L (by omega)) (Nat.le_refl _) hk).mono ?_
  rintro e w' ⟨v, he, hR, hb⟩
  exact ⟨v, he, Kd.R_lower hR hb0.size, hb0.trans (hb.mono hb0.size)⟩
theorem str_lit (W : World) (s : ByteArray) (h : (strsL [s]).length ≤ 70368744177664) :
    Calls Tryd.prog 16 #[.string s] W fun e w' => ∃ v, e = .returned v ∧ Kd.R (Kd.int .u8) 5 w' W.heap.size (fun _ => True) v (strsL [s]) ∧ Below W.heap.size W w' := by
  obtain ⟨k, hk⟩ := (str_ev' s h).rounds
  exact stillroomref07_Str.calls k s _ W hk
/-- what holds between the calls: the bytes so far (v), and the boxed node -/
structure NR (w0 : World) (gb : Nat) (cells : Array Value) (v : Value) (bs : List Int) (w : World) : Prop where
  own : Kd.R (Kd.int .u8) 5 w w0.heap.size (fun _ => True) v bs
  below : Below w0.heap.size w0 w
  box : w.heap[gb]? = some (.cells cells 26 (0, 0))
theorem NR.size {w0 w : World} {gb : Nat} {cells : Array Value} {v : Value} {bs : List Int} (h : NR w0 gb cells v bs w) : w0.heap.size ≤ w.heap.size := h.below.size
theorem NR.cell {w0 w : World} {gb : Nat} {cells : Array Value} {v : Value} {bs : List Int} (h : NR w0 gb cells v bs w) (i : Nat) : w.cell? ⟨gb, i, none⟩ = cells[i]? := cell_of_row w gb i _ _ _ h.box
theorem NR.next {w0 w w1 : World} {gb : Nat} {cells : Array Value} {v : Value} {bs : List Int} (h : NR w0 gb cells v bs w) (hb : Below w.heap.size w w1) : NR w0 gb cells v bs w1 :=
  ⟨Kd.R_below h.own hb, h.below.trans (hb.mono h.below.size), (hb.block gb (Array.getElem?_eq_some_iff.1 h.box).1).trans h.box⟩
theorem NR.grow {w0 w w1 : World} {gb : Nat} {cells : Array Value} {v v1 : Value} {bs xs : List Int} (h : NR w0 gb cells v bs w) (ho : Kd.R (Kd.int .u8) 5 w1 w0.heap.size (fun _ => True) v1 (bs ++ xs)) (hb : Below w0.heap.size w0 w1) (hg : w.grownBy w1 v.ownBlock) : NR w0 gb cells v1 (bs ++ xs) w1 := by
  refine ⟨ho, hb, (hg.block gb (Array.getElem?_eq_some_iff.1 h.box).1 (fun e => ?_)).trans h.box⟩
  obtain ⟨cs, hc⟩ := Kd.R_typed h.own gb e.symm
  rw [h.box] at hc
  injection hc with hc
  injection hc with _ h2 _
  exact absurd h2 (by decide)
set_option maxRecDepth 8000 in
set_option maxHeartbeats 8000000 in
theorem rnode_of (n : Nat) : ∀ (x : S26), nodes x ≤ n → shape x → ∀ (cs : List Value) (w : World), k26.K w x cs → (nodeL x).length ≤ 70368744177664 →
    Calls Tryd.prog 17 #[.agg cs.toArray] w fun e w' => ∃ v, e = .returned v ∧ Kd.R (Kd.int .u8) 5 w' w.heap.size (fun _ => True) v (nodeL x) ∧ Below w.heap.size w w' := by
  induction n with
  | zero => intro x hx; have := nodes_pos x; omega
  | succ n ih =>
    intro x hx hsh cs w hK hlim
    obtain ⟨A2, c2, A3, c3, A4, c4, rfl, l2, g2, l3, g3, l4, g4⟩ := k26_open hK
    rw [shape_eq] at hsh
    have hno := nodes_eq x
    obtain ⟨f0, f1, f2, f3, f4⟩ := x
    simp only at hsh hno l2 g2 l3 g3 l4 g4
    obtain ⟨hkind, hlen, hl4, hsl⟩ := hsh
    have bx := (Below.refl w.heap.size w).alloc (Nat.le_refl _) (.cells #[.int .i64 f0, .bool f1, .slice A2 f2.length c2, .slice A3 f3.length c3, .slice A4 f4.length c4] 26)
    have HS0 : NR w w.heap.size #[.int .i64 f0, .bool f1, .slice A2 f2.length c2, .slice A3 f3.length c3, .slice A4 f4.length c4] (.slice none 0 0) [] (w.alloc (.cells #[.int .i64 f0, .bool f1, .slice A2 f2.length c2, .slice A3 f3.length c3, .slice A4 f4.length c4] 26)) :=
      ⟨Kd.R_nil _ _ _ _ _, bx, heap_alloc_new _ _⟩
    have HLM := Lib.hid hlim
    have G2 := Lib.hid g2
    have G3 := Lib.hid g3
    have G4 := Lib.hid g4
    have HX := Lib.hid hx
    have HNO := Lib.hid hno
    have HSL := Lib.hid hsl
    have HL4 := Lib.hid hl4
    clear bx hlim g2 g3 g4 hx hno hsl hl4 hK
    go_enter Tryd.func17, Tryd.ntmps17
    go_upto_region 1 with fail
    generalize w.alloc (.cells #[.int .i64 f0, .bool f1, .slice A2 f2.length c2, .slice A3 f3.length c3, .slice A4 f4.length c4] 26) = w1 at HS0 ⊢
    have H1 := Lib.hid HS0
    clear HS0
    rcases hkind with rfl | rfl | rfl
    · skip
      have hN : nodeL ⟨1, f1, f2, f3, f4⟩ = strsL [wParen, wType] ++ (strsL [wReg] ++ (if f1 = true then strsL [wExec, wNone] else []) ++ strsL [wCont, strOfNums f2]) ++ strsL [wEnd] := by rw [nodeL]; simp
      have hM := HLM.out
      rw [hN] at hM
      have HN := Lib.hid hN
      have HM := Lib.hid hM
      clear hN hM HLM
      go_wp2_with (go_at_call 28; refine Hid.out ?_)
      refine Lib.hid ?_
      refine (all_lit w1 [wParen, wType] (by simp) (by have := HM.out; (try simp only [if_true, Bool.false_eq_true, if_false, List.length_append, List.length_nil] at this ⊢); omega)).mono ?_
      rintro e w1 ⟨y1, rfl, ho, hb⟩
      have J10 := H1.out.next hb
      have J1 : Hid (NR w w.heap.size _ y1 (strsL [wParen, wType]) w1) := Lib.hid ⟨Kd.R_lower ho H1.out.size, J10.below, J10.box⟩
      clear ho hb J10 H1
      have q0 := J1.out.cell 0
      simp only [List.getElem?_toArray, List.getElem?_cons_succ, List.getElem?_cons_zero] at q0
      go_upto_region 11 with fail
      clear q0
      go_wp2_with (go_at_call 16; refine Hid.out ?_)
      refine Lib.hid ?_
      refine (str_lit w1 wReg (by have := HM.out; (try simp only [if_true, Bool.false_eq_true, if_false, List.length_append, List.length_nil] at this ⊢); omega)).mono ?_
      rintro e u2 ⟨z2, rfl, ho, hb⟩
      have K2 := Lib.hid (J1.out.next hb)
      obtain ⟨A20, c20, rfl⟩ := R_slice' ho rfl
      have C2 := (Kd.R_reads' ho).2.2
      clear ho hb J1
      go_wp2_with ((with_reducible refine gate_builtin (b := .append) (xs := #[.tmp 41, .tmp 42]) rfl ?_); refine Hid.out ?_)
      refine Lib.hid ?_
      refine Kd.R_append_rows (Kd.int .u8) (w0 := w) w.heap.size rfl (.tmp 41) (.tmp 42) 22 5 (.int .u8 0) 1 rfl Tryd.underlying22 info5 rfl (by decide) (by omega) y1 (strsL [wParen, wType]) (strsL [wReg]) A20 _ c20 (fun _ => True) (fun _ => False) rfl rfl K2.out.own C2 (fun _ _ h => h) (fun _ h => h.elim) (fun _ _ => trivial) K2.out.below K2.out.size (by have := HM.out; (try simp only [if_true, Bool.false_eq_true, if_false, List.length_append, List.length_nil] at this ⊢); omega) ?_
      intro y2 w2 ho hb hg _
      have J2 := Lib.hid (K2.out.grow ho hb hg)
      clear ho hb hg C2 K2
      have q1 := J2.out.cell 1
      simp only [List.getElem?_toArray, List.getElem?_cons_succ, List.getElem?_cons_zero] at q1
      cases f1
      · skip
        go_upto_region 14 with fail
        clear q1
        have q2 := J2.out.cell 2
        simp only [List.getElem?_toArray, List.getElem?_cons_succ, List.getElem?_cons_zero] at q2
        have hcv := Kd.C_string (P := Tryd.prog) (src := 22) (dst := 9) (e := 5) (c := c2) Tryd.underlying22 Tryd.underlying5 Tryd.underlying9 (Kd.C_below G2.out J2.out.below)
        go_wp2_with (go_at_call 28; refine Hid.out ?_)
        refine Lib.hid ?_
        refine (all_lit w2 [wCont, strOfNums f2] (by simp) (by have := HM.out; (try simp only [if_true, Bool.false_eq_true, if_false, List.length_append, List.length_nil] at this ⊢); omega)).mono ?_
        rintro e u3 ⟨z3, rfl, ho, hb⟩
        clear q2 hcv
        have K3 := Lib.hid (J2.out.next hb)
        obtain ⟨A30, c30, rfl⟩ := R_slice' ho rfl
        have C3 := (Kd.R_reads' ho).2.2
        clear ho hb J2
        go_wp2_with ((with_reducible refine gate_builtin (b := .append) (xs := #[.tmp 50, .tmp 55]) rfl ?_); refine Hid.out ?_)
        refine Lib.hid ?_
        refine Kd.R_append_rows (Kd.int .u8) (w0 := w) w.heap.size rfl (.tmp 50) (.tmp 55) 22 5 (.int .u8 0) 1 rfl Tryd.underlying22 info5 rfl (by decide) (by omega) y2 (strsL [wParen, wType] ++ strsL [wReg]) (strsL [wCont, strOfNums f2]) A30 _ c30 (fun _ => True) (fun _ => False) rfl rfl K3.out.own C3 (fun _ _ h => h) (fun _ h => h.elim) (fun _ _ => trivial) K3.out.below K3.out.size (by have := HM.out; (try simp only [if_true, Bool.false_eq_true, if_false, List.length_append, List.length_nil] at this ⊢); omega) ?_
        intro y3 w3 ho hb hg _
        have J3 := Lib.hid (K3.out.grow ho hb hg)
        clear ho hb hg C3 K3
        go_wp2_with (go_at_call 16; refine Hid.out ?_)
        refine Lib.hid ?_
        refine (str_lit w3 wEnd (by have := HM.out; (try simp only [if_true, Bool.false_eq_true, if_false, List.length_append, List.length_nil] at this ⊢); omega)).mono ?_
        rintro e u4 ⟨z4, rfl, ho, hb⟩
        have K4 := Lib.hid (J3.out.next hb)
        obtain ⟨A40, c40, rfl⟩ := R_slice' ho rfl
        have C4 := (Kd.R_reads' ho).2.2
        clear ho hb J3
        go_wp2_with ((with_reducible refine gate_builtin (b := .append) (xs := #[.tmp 66, .tmp 67]) rfl ?_); refine Hid.out ?_)
        refine Lib.hid ?_
        refine Kd.R_append_rows (Kd.int .u8) (w0 := w) w.heap.size rfl (.tmp 66) (.tmp 67) 22 5 (.int .u8 0) 1 rfl Tryd.underlying22 info5 rfl (by decide) (by omega) y3 (strsL [wParen, wType] ++ strsL [wReg] ++ strsL [wCont, strOfNums f2]) (strsL [wEnd]) A40 _ c40 (fun _ => True) (fun _ => False) rfl rfl K4.out.own C4 (fun _ _ h => h) (fun _ h => h.elim) (fun _ _ => trivial) K4.out.below K4.out.size (by have := HM.out; (try simp only [if_true, Bool.false_eq_true, if_false, List.length_append, List.length_nil] at this ⊢); omega) ?_
        intro y4 w4 ho hb hg _
        have J4 := Lib.hid (K4.out.grow ho hb hg)
        clear ho hb hg C4 K4
        go_wp2_with fail
        go_ret
        have hw := J4.out.own
        refine ⟨_, rfl, ?_, J4.out.below⟩
        rw [HN.out]
        simp only [if_true, Bool.false_eq_true, if_false, List.append_assoc, List.append_nil, List.nil_append] at hw ⊢
        exact hw
      · skip
        go_upto_region 13 with fail
        clear q1
        go_wp2_with (go_at_call 28; refine Hid.out ?_)
        refine Lib.hid ?_
        refine (all_lit w2 [wExec, wNone] (by simp) (by have := HM.out; (try simp only [if_true, Bool.false_eq_true, if_false, List.length_append, List.length_nil] at this ⊢); omega)).mono ?_
        rintro e u5 ⟨z5, rfl, ho, hb⟩
        have K5 := Lib.hid (J2.out.next hb)
        obtain ⟨A50, c50, rfl⟩ := R_slice' ho rfl
        have C5 := (Kd.R_reads' ho).2.2
        clear ho hb J2
        go_wp2_with ((with_reducible refine gate_builtin (b := .append) (xs := #[.tmp 46, .tmp 48]) rfl ?_); refine Hid.out ?_)
        refine Lib.hid ?_
        refine Kd.R_append_rows (Kd.int .u8) (w0 := w) w.heap.size rfl (.tmp 46) (.tmp 48) 22 5 (.int .u8 0) 1 rfl Tryd.underlying22 info5 rfl (by decide) (by omega) y2 (strsL [wParen, wType] ++ strsL [wReg]) (strsL [wExec, wNone]) A50 _ c50 (fun _ => True) (fun _ => False) rfl rfl K5.out.own C5 (fun _ _ h => h) (fun _ h => h.elim) (fun _ _ => trivial) K5.out.below K5.out.size (by have := HM.out; (try simp only [if_true, Bool.false_eq_true, if_false, List.length_append, List.length_nil] at this ⊢); omega) ?_
        intro y5 w5 ho hb hg _
        have J5 := Lib.hid (K5.out.grow ho hb hg)
        clear ho hb hg C5 K5
        go_upto_region 14 with fail
        have q2 := J5.out.cell 2
        simp only [List.getElem?_toArray, List.getElem?_cons_succ, List.getElem?_cons_zero] at q2
        have hcv := Kd.C_string (P := Tryd.prog) (src := 22) (dst := 9) (e := 5) (c := c2) Tryd.underlying22 Tryd.underlying5 Tryd.underlying9 (Kd.C_below G2.out J5.out.below)
        go_wp2_with (go_at_call 28; refine Hid.out ?_)
        refine Lib.hid ?_
        refine (all_lit w5 [wCont, strOfNums f2] (by simp) (by have := HM.out; (try simp only [if_true, Bool.false_eq_true, if_false, List.length_append, List.length_nil] at this ⊢); omega)).mono ?_
        rintro e u6 ⟨z6, rfl, ho, hb⟩
        clear q2 hcv
        have K6 := Lib.hid (J5.out.next hb)
        obtain ⟨A60, c60, rfl⟩ := R_slice' ho rfl
        have C6 := (Kd.R_reads' ho).2.2
        clear ho hb J5
        go_wp2_with ((with_reducible refine gate_builtin (b := .append) (xs := #[.tmp 50, .tmp 55]) rfl ?_); refine Hid.out ?_)
        refine Lib.hid ?_
        refine Kd.R_append_rows (Kd.int .u8) (w0 := w) w.heap.size rfl (.tmp 50) (.tmp 55) 22 5 (.int .u8 0) 1 rfl Tryd.underlying22 info5 rfl (by decide) (by omega) y5 (strsL [wParen, wType] ++ strsL [wReg] ++ strsL [wExec, wNone]) (strsL [wCont, strOfNums f2]) A60 _ c60 (fun _ => True) (fun _ => False) rfl rfl K6.out.own C6 (fun _ _ h => h) (fun _ h => h.elim) (fun _ _ => trivial) K6.out.below K6.out.size (by have := HM.out; (try simp only [if_true, Bool.false_eq_true, if_false, List.length_append, List.length_nil] at this ⊢); omega) ?_
        intro y6 w6 ho hb hg _
        have J6 := Lib.hid (K6.out.grow ho hb hg)
        clear ho hb hg C6 K6
        go_wp2_with (go_at_call 16; refine Hid.out ?_)
        refine Lib.hid ?_
        refine (str_lit w6 wEnd (by have := HM.out; (try simp only [if_true, Bool.false_eq_true, if_false, List.length_append, List.length_nil] at this ⊢); omega)).mono ?_
        rintro e u7 ⟨z7, rfl, ho, hb⟩
        have K7 := Lib.hid (J6.out.next hb)
        obtain ⟨A70, c70, rfl⟩ := R_slice' ho rfl
        have C7 := (Kd.R_reads' ho).2.2
        clear ho hb J6
        go_wp2_with ((with_reducible refine gate_builtin (b := .append) (xs := #[.tmp 66, .tmp 67]) rfl ?_); refine Hid.out ?_)
        refine Lib.hid ?_
        refine Kd.R_append_rows (Kd.int .u8) (w0 := w) w.heap.size rfl (.tmp 66) (.tmp 67) 22 5 (.int .u8 0) 1 rfl Tryd.underlying22 info5 rfl (by decide) (by omega) y6 (strsL [wParen, wType] ++ strsL [wReg] ++ strsL [wExec, wNone] ++ strsL [wCont, strOfNums f2]) (strsL [wEnd]) A70 _ c70 (fun _ => True) (fun _ => False) rfl rfl K7.out.own C7 (fun _ _ h => h) (fun _ h => h.elim) (fun _ _ => trivial) K7.out.below K7.out.size (by have := HM.out; (try simp only [if_true, Bool.false_eq_true, if_false, List.length_append, List.length_nil] at this ⊢); omega) ?_
        intro y7 w7 ho hb hg _
        have J7 := Lib.hid (K7.out.grow ho hb hg)
        clear ho hb hg C7 K7
        go_wp2_with fail
        go_ret
        have hw := J7.out.own
        refine ⟨_, rfl, ?_, J7.out.below⟩
        rw [HN.out]
        simp only [if_true, Bool.false_eq_true, if_false, List.append_assoc, List.append_nil, List.nil_append] at hw ⊢
        exact hw
    · skip
      have hN : nodeL ⟨3, f1, f2, f3, f4⟩ = strsL [wParen, wType] ++ strsL [wSym, wTarget, strOfNums f2] ++ strsL [wEnd] := by rw [nodeL]; simp
      have hM := HLM.out
      rw [hN] at hM
      have HN := Lib.hid hN
      have HM := Lib.hid hM
      clear hN hM HLM
      go_wp2_with (go_at_call 28; refine Hid.out ?_)
      refine Lib.hid ?_
      refine (all_lit w1 [wParen, wType] (by simp) (by have := HM.out; (try simp only [if_true, Bool.false_eq_true, if_false, List.length_append, List.length_nil] at this ⊢); omega)).mono ?_
      rintro e w8 ⟨y8, rfl, ho, hb⟩
      have J80 := H1.out.next hb
      have J8 : Hid (NR w w.heap.size _ y8 (strsL [wParen, wType]) w8) := Lib.hid ⟨Kd.R_lower ho H1.out.size, J80.below, J80.box⟩
      clear ho hb J80 H1
      have q0 := J8.out.cell 0
      simp only [List.getElem?_toArray, List.getElem?_cons_succ, List.getElem?_cons_zero] at q0
      go_upto_region 16 with fail
      clear q0
      have q2 := J8.out.cell 2
      simp only [List.getElem?_toArray, List.getElem?_cons_succ, List.getElem?_cons_zero] at q2
      have hcv := Kd.C_string (P := Tryd.prog) (src := 22) (dst := 9) (e := 5) (c := c2) Tryd.underlying22 Tryd.underlying5 Tryd.underlying9 (Kd.C_below G2.out J8.out.below)
      go_wp2_with (go_at_call 28; refine Hid.out ?_)
      refine Lib.hid ?_
      refine (all_lit w8 [wSym, wTarget, strOfNums f2] (by simp) (by have := HM.out; (try simp only [if_true, Bool.false_eq_true, if_false, List.length_append, List.length_nil] at this ⊢); omega)).mono ?_
      rintro e u9 ⟨z9, rfl, ho, hb⟩
      clear q2 hcv
      have K9 := Lib.hid (J8.out.next hb)
      obtain ⟨A90, c90, rfl⟩ := R_slice' ho rfl
      have C9 := (Kd.R_reads' ho).2.2
      clear ho hb J8
      go_wp2_with ((with_reducible refine gate_builtin (b := .append) (xs := #[.tmp 59, .tmp 64]) rfl ?_); refine Hid.out ?_)
      refine Lib.hid ?_
      refine Kd.R_append_rows (Kd.int .u8) (w0 := w) w.heap.size rfl (.tmp 59) (.tmp 64) 22 5 (.int .u8 0) 1 rfl Tryd.underlying22 info5 rfl (by decide) (by omega) y8 (strsL [wParen, wType]) (strsL [wSym, wTarget, strOfNums f2]) A90 _ c90 (fun _ => True) (fun _ => False) rfl rfl K9.out.own C9 (fun _ _ h => h) (fun _ h => h.elim) (fun _ _ => trivial) K9.out.below K9.out.size (by have := HM.out; (try simp only [if_true, Bool.false_eq_true, if_false, List.length_append, List.length_nil] at this ⊢); omega) ?_
      intro y9 w9 ho hb hg _
      have J9 := Lib.hid (K9.out.grow ho hb hg)
      clear ho hb hg C9 K9
      go_wp2_with (go_at_call 16; refine Hid.out ?_)
      refine Lib.hid ?_
      refine (str_lit w9 wEnd (by have := HM.out; (try simp only [if_true, Bool.false_eq_true, if_false, List.length_append, List.length_nil] at this ⊢); omega)).mono ?_
      rintro e u10 ⟨z10, rfl, ho, hb⟩
      have K10 := Lib.hid (J9.out.next hb)
      obtain ⟨A100, c100, rfl⟩ := R_slice' ho rfl
      have C10 := (Kd.R_reads' ho).2.2
      clear ho hb J9
      go_wp2_with ((with_reducible refine gate_builtin (b := .append) (xs := #[.tmp 66, .tmp 67]) rfl ?_); refine Hid.out ?_)
      refine Lib.hid ?_
      refine Kd.R_append_rows (Kd.int .u8) (w0 := w) w.heap.size rfl (.tmp 66) (.tmp 67) 22 5 (.int .u8 0) 1 rfl Tryd.underlying22 info5 rfl (by decide) (by omega) y9 (strsL [wParen, wType] ++ strsL [wSym, wTarget, strOfNums f2]) (strsL [wEnd]) A100 _ c100 (fun _ => True) (fun _ => False) rfl rfl K10.out.own C10 (fun _ _ h => h) (fun _ h => h.elim) (fun _ _ => trivial) K10.out.below K10.out.size (by have := HM.out; (try simp only [if_true, Bool.false_eq_true, if_false, List.length_append, List.length_nil] at this ⊢); omega) ?_
      intro y10 w10 ho hb hg _
      have J10 := Lib.hid (K10.out.grow ho hb hg)
      clear ho hb hg C10 K10
      go_wp2_with fail
      go_ret
      have hw := J10.out.own
      refine ⟨_, rfl, ?_, J10.out.below⟩
      rw [HN.out]
      simp only [if_true, Bool.false_eq_true, if_false, List.append_assoc, List.append_nil, List.nil_append] at hw ⊢
      exact hw
    · skip
      have hN : nodeL ⟨2, f1, f2, f3, f4⟩ = strsL [wParen, wType] ++ (strsL [wDir] ++ entsL f4 f3) ++ strsL [wEnd] := by rw [nodeL]; simp
      have hM := HLM.out
      rw [hN] at hM
      have HN := Lib.hid hN
      have HM := Lib.hid hM
      clear hN hM HLM
      go_wp2_with (go_at_call 28; refine Hid.out ?_)
      refine Lib.hid ?_
      refine (all_lit w1 [wParen, wType] (by simp) (by have := HM.out; (try simp only [if_true, Bool.false_eq_true, if_false, List.length_append, List.length_nil] at this ⊢); omega)).mono ?_
      rintro e w11 ⟨y11, rfl, ho, hb⟩
      have J110 := H1.out.next hb
      have J11 : Hid (NR w w.heap.size _ y11 (strsL [wParen, wType]) w11) := Lib.hid ⟨Kd.R_lower ho H1.out.size, J110.below, J110.box⟩
      clear ho hb J110 H1
      have HLEN := Lib.hid (show f3.length = f4.length by simpa using hlen)
      clear hlen
      have q0 := J11.out.cell 0
      simp only [List.getElem?_toArray, List.getElem?_cons_succ, List.getElem?_cons_zero] at q0
      go_upto_region 3 with fail
      clear q0
      go_wp2_with (go_at_call 16; refine Hid.out ?_)
      refine Lib.hid ?_
      refine (str_lit w11 wDir (by have := HM.out; (try simp only [if_true, Bool.false_eq_true, if_false, List.length_append, List.length_nil] at this ⊢); omega)).mono ?_
      rintro e u12 ⟨z12, rfl, ho, hb⟩
      have K12 := Lib.hid (J11.out.next hb)
      obtain ⟨A120, c120, rfl⟩ := R_slice' ho rfl
      have C12 := (Kd.R_reads' ho).2.2
      clear ho hb J11
      go_wp2_with ((with_reducible refine gate_builtin (b := .append) (xs := #[.tmp 9, .tmp 10]) rfl ?_); refine Hid.out ?_)
      refine Lib.hid ?_
      refine Kd.R_append_rows (Kd.int .u8) (w0 := w) w.heap.size rfl (.tmp 9) (.tmp 10) 22 5 (.int .u8 0) 1 rfl Tryd.underlying22 info5 rfl (by decide) (by omega) y11 (strsL [wParen, wType]) (strsL [wDir]) A120 _ c120 (fun _ => True) (fun _ => False) rfl rfl K12.out.own C12 (fun _ _ h => h) (fun _ h => h.elim) (fun _ _ => trivial) K12.out.below K12.out.size (by have := HM.out; (try simp only [if_true, Bool.false_eq_true, if_false, List.length_append, List.length_nil] at this ⊢); omega) ?_
      intro y12 w12 ho hb hg _
      have J12 := Lib.hid (K12.out.grow ho hb hg)
      clear ho hb hg C12 K12
      go_wp2_with fail
      have Hb : Hid (NR w w.heap.size #[.int .i64 2, .bool f1, .slice A2 f2.length c2, .slice A3 f3.length c3, .slice A4 f4.length c4] y12 (strsL [wParen, wType] ++ strsL [wDir] ++ entsL (f4.take 0) (f3.take 0)) w12) := by simpa [entsL] using J12
      clear J12
      go_loopw [3, 4] (fun v i wr => ∃ j : Nat, j ≤ f3.length ∧ i = .int .i64 j ∧ Hid (NR w w.heap.size #[.int .i64 2, .bool f1, .slice A2 f2.length c2, .slice A3 f3.length c3, .slice A4 f4.length c4] v (strsL [wParen, wType] ++ strsL [wDir] ++ entsL (f4.take j) (f3.take j)) wr)) (fun _ i _ => f3.length - (intOf i).toNat)
      case atStart => exact ⟨0, Nat.zero_le _, rfl, Hb⟩
      case round =>
        clear Hb
        obtain ⟨j, hj, rfl, H3⟩ := hrel
        have q3 := H3.out.cell 3
        simp only [List.getElem?_toArray, List.getElem?_cons_succ, List.getElem?_cons_zero] at q3
        by_cases hlt : j < f3.length
        · skip
          have hlt4 : j < f4.length := by have := HLEN.out; omega
          have hs1 := entsL_take f4 f3 j hlt4 hlt
          have hs2 := entsL_take_le f4 f3 (j + 1)
          rw [hs1] at hs2
          simp only [List.length_append] at hs2
          have HS1 := Lib.hid hs1
          have HS2 := Lib.hid hs2
          clear hs1 hs2
          obtain ⟨ad3, e3, hx3⟩ := Kd.at_string G3.out (j : Int) (by omega) (by omega)
          subst e3
          rw [rdn_at hlt, Int.toNat_natCast] at hx3
          replace hx3 := (H3.out.below.cell (World.block_lt_of_cell? w _ hx3)).trans hx3
          obtain ⟨ad4, B2, d2, B3, d3, B4, d4, e4, y0, y1, y2, y3, y4, m2, k2, m3, k3, m4, k4⟩ := at_T26 G4.out (j : Int) (by omega) (by omega)
          subst e4
          rw [rd_at hlt4] at y0 y1 y2 y3 y4 m2 k2 m3 k3 m4 k4
          rw [Int.toNat_natCast] at y0 y1 y2 y3 y4
          have hmem : f4[j] ∈ f4 := List.getElem_mem hlt4
          have hKj := Lib.hid (k26_mk w f4[j] m2 k2 m3 k3 m4 k4)
          have hnj : Hid (nodes f4[j] ≤ n) := by have := nodes_mem hmem; have := HX.out; have := HNO.out; show _ ≤ _; omega
          have hsj := Lib.hid (shape_mem HSL.out hmem)
          clear m2 k2 m3 k3 m4 k4 hmem
          generalize f4[j] = xj at y0 y1 y2 y3 y4 hKj hnj hsj HS1 HS2
          generalize f3[j] = nj at hx3 HS1 HS2
          have gl : (j : Int) < (f3.length : Int) := by omega
          have gl4 : (j : Int) < (f4.length : Int) := by omega
          have lm : (strsL [wParen, wType]).length + (strsL [wDir]).length + (entsL (f4.take j) (f3.take j)).length + ((strsL [wEntry, wParen, wName, nj, wNode]).length + (nodeL xj).length + (strsL [wEnd]).length) + (strsL [wEnd]).length ≤ 70368744177664 := by have := HS2.out; (try simp only [List.length_append] at this); have h3 := HM.out; (try simp only [List.length_append] at h3); omega
          have LM := Lib.hid lm
          clear lm
          go_wp2_with (go_at_call 28; refine Hid.out ?_)
          refine Lib.hid ?_
          refine (all_lit wr [wEntry, wParen, wName, nj, wNode] (by simp) (by have := LM.out; (try simp only [List.length_append] at this ⊢); omega)).mono ?_
          rintro e u13 ⟨z13, rfl, ho, hb⟩
          clear q3 hx3
          have K13 := Lib.hid (H3.out.next hb)
          obtain ⟨A130, c130, rfl⟩ := R_slice' ho rfl
          have C13 := (Kd.R_reads' ho).2.2
          clear ho hb H3
          go_wp2_with ((with_reducible refine gate_builtin (b := .append) (xs := #[.tmp 19, .tmp 26]) rfl ?_); refine Hid.out ?_)
          refine Lib.hid ?_
          refine Kd.R_append_rows (Kd.int .u8) (w0 := w) w.heap.size rfl (.tmp 19) (.tmp 26) 22 5 (.int .u8 0) 1 rfl Tryd.underlying22 info5 rfl (by decide) (by omega) u3 (strsL [wParen, wType] ++ strsL [wDir] ++ entsL (f4.take j) (f3.take j)) (strsL [wEntry, wParen, wName, nj, wNode]) A130 _ c130 (fun _ => True) (fun _ => False) rfl rfl K13.out.own C13 (fun _ _ h => h) (fun _ h => h.elim) (fun _ _ => trivial) K13.out.below K13.out.size (by have := LM.out; (try simp only [List.length_append] at this ⊢); omega) ?_
          intro y13 w13 ho hb hg _
          have J13 := Lib.hid (K13.out.grow ho hb hg)
          clear ho hb hg C13 K13
          have BW4 := J13.out.below
          replace y0 := (BW4.cell (World.block_lt_of_cell? w _ y0)).trans y0
          replace y1 := (BW4.cell (World.block_lt_of_cell? w _ y1)).trans y1
          replace y2 := (BW4.cell (World.block_lt_of_cell? w _ y2)).trans y2
          replace y3 := (BW4.cell (World.block_lt_of_cell? w _ y3)).trans y3
          replace y4 := (BW4.cell (World.block_lt_of_cell? w _ y4)).trans y4
          have q4 := J13.out.cell 4
          simp only [List.getElem?_toArray, List.getElem?_cons_succ, List.getElem?_cons_zero] at q4
          go_wp2_with (go_at_call 17; refine Hid.out ?_)
          refine Lib.hid ?_
          refine (ih xj hnj.out hsj.out _ w13 (k26.K_below BW4 hKj.out) (by have := LM.out; omega)).mono ?_
          rintro e u14 ⟨z14, rfl, ho, hb⟩
          clear q4 y0 y1 y2 y3 y4 BW4
          have K14 := Lib.hid (J13.out.next hb)
          obtain ⟨A140, c140, rfl⟩ := R_slice' ho rfl
          have C14 := (Kd.R_reads' ho).2.2
          clear ho hb J13
          go_wp2_with ((with_reducible refine gate_builtin (b := .append) (xs := #[.tmp 28, .tmp 34]) rfl ?_); refine Hid.out ?_)
          refine Lib.hid ?_
          refine Kd.R_append_rows (Kd.int .u8) (w0 := w) w.heap.size rfl (.tmp 28) (.tmp 34) 22 5 (.int .u8 0) 1 rfl Tryd.underlying22 info5 rfl (by decide) (by omega) y13 (strsL [wParen, wType] ++ strsL [wDir] ++ entsL (f4.take j) (f3.take j) ++ strsL [wEntry, wParen, wName, nj, wNode]) (nodeL xj) A140 _ c140 (fun _ => True) (fun _ => False) rfl rfl K14.out.own C14 (fun _ _ h => h) (fun _ h => h.elim) (fun _ _ => trivial) K14.out.below K14.out.size (by have := LM.out; (try simp only [List.length_append] at this ⊢); omega) ?_
          intro y14 w14 ho hb hg _
          have J14 := Lib.hid (K14.out.grow ho hb hg)
          clear ho hb hg C14 K14
          go_wp2_with (go_at_call 16; refine Hid.out ?_)
          refine Lib.hid ?_
          refine (str_lit w14 wEnd (by have := LM.out; (try simp only [List.length_append] at this ⊢); omega)).mono ?_
          rintro e u15 ⟨z15, rfl, ho, hb⟩
          have K15 := Lib.hid (J14.out.next hb)
          obtain ⟨A150, c150, rfl⟩ := R_slice' ho rfl
          have C15 := (Kd.R_reads' ho).2.2
          clear ho hb J14
          go_wp2_with ((with_reducible refine gate_builtin (b := .append) (xs := #[.tmp 36, .tmp 37]) rfl ?_); refine Hid.out ?_)
          refine Lib.hid ?_
          refine Kd.R_append_rows (Kd.int .u8) (w0 := w) w.heap.size rfl (.tmp 36) (.tmp 37) 22 5 (.int .u8 0) 1 rfl Tryd.underlying22 info5 rfl (by decide) (by omega) y14 (strsL [wParen, wType] ++ strsL [wDir] ++ entsL (f4.take j) (f3.take j) ++ strsL [wEntry, wParen, wName, nj, wNode] ++ nodeL xj) (strsL [wEnd]) A150 _ c150 (fun _ => True) (fun _ => False) rfl rfl K15.out.own C15 (fun _ _ h => h) (fun _ h => h.elim) (fun _ _ => trivial) K15.out.below K15.out.size (by have := LM.out; (try simp only [List.length_append] at this ⊢); omega) ?_
          intro y15 w15 ho hb hg _
          have J15 := Lib.hid (K15.out.grow ho hb hg)
          clear ho hb hg C15 K15
          go_wp2_with fail
          have eL : strsL [wParen, wType] ++ strsL [wDir] ++ entsL (f4.take j) (f3.take j) ++ strsL [wEntry, wParen, wName, nj, wNode] ++ nodeL xj ++ strsL [wEnd] = strsL [wParen, wType] ++ strsL [wDir] ++ entsL (f4.take (j + 1)) (f3.take (j + 1)) := by
            rw [HS1.out]
            simp only [List.append_assoc]
          rw [eL] at J15
          have hl6 := HL4.out
          have hl7 := HLEN.out
          first
            | exact ⟨⟨j + 1, by omega, by go_num, J15⟩, by simp [intOf]; omega⟩
            | (refine ⟨⟨j + 1, by omega, by rw [w64' (by omega)]; rfl, J15⟩, ?_⟩; rw [w64' (by omega)]; simp [intOf]; omega)
        · skip
          obtain rfl : j = f3.length := by omega
          have gl : ¬ ((f3.length : Int) < (f3.length : Int)) := by omega
          rw [entsL_all f4 f3 HLEN.out.symm] at H3
          go_upto_region 17 with fail
          clear q3
          go_wp2_with (go_at_call 16; refine Hid.out ?_)
          refine Lib.hid ?_
          refine (str_lit wr wEnd (by have := HM.out; (try simp only [if_true, Bool.false_eq_true, if_false, List.length_append, List.length_nil] at this ⊢); omega)).mono ?_
          rintro e u16 ⟨z16, rfl, ho, hb⟩
          have K16 := Lib.hid (H3.out.next hb)
          obtain ⟨A160, c160, rfl⟩ := R_slice' ho rfl
          have C16 := (Kd.R_reads' ho).2.2
          clear ho hb H3
          go_wp2_with ((with_reducible refine gate_builtin (b := .append) (xs := #[.tmp 66, .tmp 67]) rfl ?_); refine Hid.out ?_)
          refine Lib.hid ?_
          refine Kd.R_append_rows (Kd.int .u8) (w0 := w) w.heap.size rfl (.tmp 66) (.tmp 67) 22 5 (.int .u8 0) 1 rfl Tryd.underlying22 info5 rfl (by decide) (by omega) u3 (strsL [wParen, wType] ++ strsL [wDir] ++ entsL f4 f3) (strsL [wEnd]) A160 _ c160 (fun _ => True) (fun _ => False) rfl rfl K16.out.own C16 (fun _ _ h => h) (fun _ h => h.elim) (fun _ _ => trivial) K16.out.below K16.out.size (by have := HM.out; (try simp only [if_true, Bool.false_eq_true, if_false, List.length_append, List.length_nil] at this ⊢); omega) ?_
          intro y16 w16 ho hb hg _
          have J16 := Lib.hid (K16.out.grow ho hb hg)
          clear ho hb hg C16 K16
          go_wp2_with fail
          go_ret
          have hw := J16.out.own
          refine ⟨_, rfl, ?_, J16.out.below⟩
          rw [HN.out]
          simp only [if_true, Bool.false_eq_true, if_false, List.append_assoc, List.append_nil, List.nil_append] at hw ⊢
          exact hw
end Go.Proofs.YtepdnknhejjgnaaDoor
