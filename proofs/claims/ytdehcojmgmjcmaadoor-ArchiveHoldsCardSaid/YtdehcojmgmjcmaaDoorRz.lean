/- archive.Encode, by its contract. -/
import Derived.Test.YtdehcojmgmjcmaaDoorRy
namespace Go.Proofs.YtdehcojmgmjcmaaDoor
set_option linter.unusedVariables false
set_option linter.unusedSimpArgs false
open Go.RowKit QArchiveBack Go.Proofs.YtdehcojmgmjcmaaDoorW.PrintWords Go.Proofs.YtdehcojmgmjcmaaDoorW.PrintLast Go.Proofs.YtdehcojmgmjcmaaDoorW.PrintMore
theorem inB_bytesOf (s : ByteArray) : inB (bytesOf s) := by
  intro x hx
  obtain ⟨b, _, rfl⟩ := List.mem_map.1 hx
  have := b.toNat_lt
  omega
theorem inB_zero (n : Nat) : inB (List.replicate n 0) := fun x hx => by have := List.eq_of_mem_replicate hx; omega
theorem inB_strsL : ∀ l, inB (strsL l)
  | [] => fun x hx => by cases hx
  | s :: l => (((inB_be8 _).app (inB_bytesOf s)).app (inB_zero _)).app (inB_strsL l)
theorem inB_nil : inB [] := fun x hx => by cases hx
theorem inB_ents (xs : List S26) : ∀ ns : List ByteArray, (∀ x ∈ xs, inB (nodeL x)) → inB (entsL xs ns) := by
  induction xs with
  | nil => intro ns _; rw [entsL]; exact inB_nil; simp
  | cons x xs ih =>
    intro ns h
    cases ns with
    | nil => rw [entsL]; exact inB_nil; simp
    | cons m ns =>
      rw [entsL]
      exact (((inB_strsL _).app (h x List.mem_cons_self)).app (inB_strsL _)).app (ih ns fun y hy => h y (List.mem_cons_of_mem _ hy))
theorem inB_nodeL (n : Nat) : ∀ x : S26, nodes x ≤ n → inB (nodeL x) := by
  induction n with
  | zero => intro x hx; have := nodes_pos x; omega
  | succ n ih =>
    intro x hx
    have hno := nodes_eq x
    rw [nodeL_eq]
    refine ((inB_strsL _).app ?_).app (inB_strsL _)
    split
    · refine ((inB_strsL _).app ?_).app (inB_strsL _)
      split
      · exact inB_strsL _
      · exact inB_nil
    · split
      · exact inB_strsL _
      · exact (inB_strsL _).app (inB_ents _ _ fun y hy => ih y (by have := nodes_mem hy; omega))
theorem inB_arch (x : S26) : inB (arch x) := (inB_strsL _).app (inB_nodeL _ x (Nat.le_refl _))
theorem cut_zero (g N cap : Nat) : ∀ W, (Instr.slice 22 (.slice (some ⟨g, 0, none⟩) N cap) (some (.int .i64 0)) none none).run Tryd.prog W = .ok (.slice (some ⟨g, 0, none⟩) N cap) W := by
  intro W
  have he : Tryd.prog.elem 22 = 5 := by kernel_rfl
  rw [run_slice_l W 22 _ N cap (by rw [he]; exact Tryd.underlying22) .i64 0 (by omega) (by omega), he, Tryd.sizeOf5]
  simp [sliced, Addr.add]
set_option maxHeartbeats 2000000 in
theorem bytes_of (B b : Nat) (bs : List Int) (w : World) (h : WB B b bs w) (h0 : bs ≠ []) (hi : inB bs) :
    Calls Tryd.prog 13 #[.pointer (some ⟨b, 0, none⟩)] w fun e w' => ∃ g cap, e = .returned (.slice (some ⟨g, 0, none⟩) bs.length cap) ∧ bs.length ≤ cap ∧ Byts w' g 0 bs.length bs ∧ g < w'.heap.size ∧ Below w.heap.size w w' := by
  obtain ⟨hB, lr, hc⟩ := LibA.IsBuffer.cases h
  rcases hc with ⟨hn, _⟩ | ⟨g, cap, cur, h3, hBg, hcur, hle, hmax, hsz, htk, hgb⟩
  · exact absurd (by simpa [nums] using hn) h0
  · rw [nums_length] at h3 hle htk
    have c0 := h3.c0
    have c1 := h3.c1
    have hcut := cut_zero g bs.length cap
    have hgl : g < w.heap.size := (Array.getElem?_eq_some_iff.1 hcur).1
    have hby : Byts w g 0 bs.length bs := by
      refine ⟨rfl, fun i hi2 => ?_, fun i => (hi.getD i).1, fun i => (hi.getD i).2⟩
      rw [Nat.zero_add, cell_of_row w g i _ _ _ hcur]
      have e1 : cur[i]? = (cur.toList.take bs.length)[i]? := by rw [List.getElem?_take_of_lt hi2, Array.getElem?_toList]
      rw [e1, htk, nums, List.getElem?_map, List.getElem?_eq_getElem hi2]
      simp [List.getD, hi2]
    have HBY := Lib.hid hby
    have HLE := Lib.hid hle
    have HGL := Lib.hid hgl
    clear hcur htk hle hmax hsz hby hgl h h3
    go_enter Tryd.func13, Tryd.ntmps13
    go_wp2_with fail
    go_quiet (fail)
    go_wp2_with fail
    go_ret
    have hbd : Below w.heap.size w (w.drewN nq) := pw_below_drewN (Below.refl _ _) nq
    exact ⟨g, cap, rfl, HLE.out, HBY.out.below hbd, Nat.lt_of_lt_of_le HGL.out hbd.size, hbd⟩
theorem k26_K {w : World} {x : S26} {cs : List Value} (h : k26.K w x cs) : cs.length = 5 := by
  obtain ⟨A2, c2, A3, c3, A4, c4, rfl, _⟩ := k26_open h
  rfl
theorem right_of (w : World) (x : S26) (cs : List Value) (hk : k26.K w x cs) (hf : fits x) : Calls Tryd.prog 10 #[.agg cs.toArray] w fun e w' => e = .returned (.int .i64 (right x)) ∧ Below w.heap.size w w' := by
  obtain ⟨A2, c2, A3, c3, A4, c4, rfl, l2, g2, l3, g3, l4, g4⟩ := k26_open hk
  obtain ⟨k, h⟩ := (tright_all x hf).rounds
  exact tree_Right.calls k _ _ _ _ _ _ _ _ _ _ _ (right x) w g2 l2 g3 l3 g4 l4 h
/-- what Encode hands back -/
def Enc (w0 : World) (x : S26) (e : Ending) (w' : World) : Prop :=
  Below w0.heap.size w0 w' ∧ ((right x = 0 ∧ ∃ g cap, e = .returned (.tuple #[.slice (some ⟨g, 0, none⟩) (arch x).length cap, .int .i64 0]) ∧ (arch x).length ≤ cap ∧ Byts w' g 0 (arch x).length (arch x) ∧ g < w'.heap.size) ∨ (right x ≠ 0 ∧ ∃ A c, e = .returned (.tuple #[.slice A 0 c, .int .i64 (right x)])))
set_option maxHeartbeats 4000000 in
theorem encode_of (w : World) (x : S26) (cs : List Value) (hk : k26.K w x cs) (hf : fits x) : Calls Tryd.prog 6 #[.agg cs.toArray] w fun e w' => Enc w x e w' := by
  have HK := Lib.hid hk
  obtain ⟨A2, c2, A3, c3, A4, c4, rfl, _⟩ := k26_open hk
  clear hk
  have bx := (Below.refl w.heap.size w).alloc (Nat.le_refl _) (.cells #[.int .i64 x.f0, .bool x.f1, .slice A2 x.f2.length c2, .slice A3 x.f3.length c3, .slice A4 x.f4.length c4] 26)
  have hx : (w.alloc (.cells #[.int .i64 x.f0, .bool x.f1, .slice A2 x.f2.length c2, .slice A3 x.f3.length c3, .slice A4 x.f4.length c4] 26)).heap[w.heap.size]? = some (.cells #[.int .i64 x.f0, .bool x.f1, .slice A2 x.f2.length c2, .slice A3 x.f3.length c3, .slice A4 x.f4.length c4] 26 (0, 0)) := heap_alloc_new _ _
  go_enter Tryd.func6, Tryd.ntmps6
  go_upto_region 1 with fail
  generalize w.alloc (.cells #[.int .i64 x.f0, .bool x.f1, .slice A2 x.f2.length c2, .slice A3 x.f3.length c3, .slice A4 x.f4.length c4] 26) = w1 at bx hx ⊢
  have BX := Lib.hid bx
  have q0 := cell_of_row w1 w.heap.size 0 _ _ _ hx
  have q1 := cell_of_row w1 w.heap.size 1 _ _ _ hx
  have q2 := cell_of_row w1 w.heap.size 2 _ _ _ hx
  have q3 := cell_of_row w1 w.heap.size 3 _ _ _ hx
  have q4 := cell_of_row w1 w.heap.size 4 _ _ _ hx
  simp only [List.getElem?_toArray, List.getElem?_cons_succ, List.getElem?_cons_zero] at q0 q1 q2 q3 q4
  have hgs : w.heap.size < w1.heap.size := (Array.getElem?_eq_some_iff.1 hx).1
  generalize hgb : w.heap.size = gb at q0 q1 q2 q3 q4 hx hgs ⊢
  have HGB := Lib.hid hgb
  have HX := Lib.hid hx
  clear hgb bx hx
  have HK1 := Lib.hid (k26.K_below BX.out HK.out)
  go_wp2_with (go_at_call 10; refine (right_of w1 x _ HK1.out hf).mono ?_; rintro e w2 ⟨rfl, hb2⟩; refine Hid.out ?_)
  refine Lib.hid ?_
  clear q0 q1 q2 q3 q4
  have HB2 := Lib.hid (BX.out.trans (hb2.mono BX.out.size))
  have HX2 := Lib.hid ((hb2.block _ hgs).trans HX.out)
  have hgs2 : gb < w2.heap.size := Nat.lt_of_lt_of_le hgs hb2.size
  clear hb2 HX hgs BX
  by_cases hr : right x = 0
  · rw [hr]
    go_upto_region 5 with fail
    obtain ⟨hlen, hsh⟩ := right_len hr
    have HK2 := Lib.hid (k26.K_below HB2.out HK.out)
    have hW3 : WB w2.heap.size w2.heap.size [] (w2.alloc (.cells #[.slice none 0 0, .int .i64 0, .int .i8 0] 45)) := LibA.zero_isBuffer (Nat.le_refl _) (LibA.three_whole (heap_alloc_new _ _))
    have hB3 : Below w2.heap.size w2 (w2.alloc (.cells #[.slice none 0 0, .int .i64 0, .int .i8 0] 45)) := (Below.refl _ _).alloc (Nat.le_refl _) _
    generalize w2.alloc (.cells #[.slice none 0 0, .int .i64 0, .int .i8 0] 45) = w3 at hW3 hB3 ⊢
    generalize hb : w2.heap.size = b at hW3 hB3 hgs2 ⊢
    have HBB := Lib.hid hb
    have HLEN := Lib.hid hlen
    have HSH := Lib.hid hsh
    have HW3 := Lib.hid hW3
    have HB3 := Lib.hid hB3
    clear hb hW3 hB3 hlen hsh HK1 w1
    have hbs3 : b ≤ w3.heap.size := by rw [← HBB.out]; exact HB3.out.size
    go_wp2_with (go_at_call 11; refine Hid.out ?_)
    refine Lib.hid ?_
    refine (strings_lit b b [] [wMagic] w3 HW3.out hbs3 (by simp) (by rw [magic_len]; decide)).mono ?_
    rintro e w4 ⟨rfl, hw4, hb4, _⟩
    rw [List.nil_append] at hw4
    have HW4 := Lib.hid hw4
    have HB4 := Lib.hid (HB3.out.trans hb4)
    have hx4 := (HB4.out.block gb hgs2).trans HX2.out
    have q0 := cell_of_row w4 gb 0 _ _ _ hx4
    have q1 := cell_of_row w4 gb 1 _ _ _ hx4
    have q2 := cell_of_row w4 gb 2 _ _ _ hx4
    have q3 := cell_of_row w4 gb 3 _ _ _ hx4
    have q4 := cell_of_row w4 gb 4 _ _ _ hx4
    simp only [List.getElem?_toArray, List.getElem?_cons_succ, List.getElem?_cons_zero] at q0 q1 q2 q3 q4
    clear hw4 hb4 HW3 hx4 HB3
    go_wp2_with (go_at_call 12; refine Hid.out ?_)
    refine Lib.hid ?_
    obtain rfl := HBB.out
    refine (node_of w2 w2.heap.size (nodes x) x (Nat.le_refl _) HSH.out _ (strsL [wMagic]) w4 HK2.out HW4.out HB4.out (by rw [magic_len]; have := HLEN.out; omega)).mono ?_
    rintro e w5 ⟨rfl, hw5, hb5, _⟩
    have HW5 : Hid (WB w2.heap.size w2.heap.size (arch x) w5) := Lib.hid hw5
    have HB5 := Lib.hid (HB4.out.trans hb5)
    clear hw5 hb5 HW4 HB4 q0 q1 q2 q3 q4
    have hne : arch x ≠ [] := by
      intro e
      have := congrArg List.length e
      rw [arch, List.length_append, magic_len] at this
      simp at this
    go_wp2_with (go_at_call 13; refine (bytes_of w2.heap.size w2.heap.size (arch x) w5 HW5.out hne (inB_arch x)).mono ?_; rintro e w6 ⟨g, cap, rfl, hcap, hby, hgl, hb6⟩; refine Hid.out ?_)
    refine Lib.hid ?_
    have HBY := Lib.hid hby
    have HCAP := Lib.hid hcap
    have HGL := Lib.hid hgl
    have hs2 : w.heap.size ≤ w2.heap.size := HB2.out.size
    have HB6 := Lib.hid (HB2.out.trans ((HB5.out.trans (hb6.mono HB5.out.size)).mono hs2))
    clear hby hcap hgl hb6
    go_wp2_with fail
    go_ret2
    exact ⟨HB6.out, Or.inl ⟨hr, g, cap, rfl, HCAP.out, HBY.out, HGL.out⟩⟩
  · have b0 : (right x == 0) = false := by simpa using hr
    have b1 : (right x != 0) = true := by simpa using hr
    go_wp2_with fail
    go_ret2
    exact ⟨HB2.out, Or.inr ⟨hr, none, 0, rfl⟩⟩
theorem large_of (w : World) (x : S26) (cs : List Value) (hk : k26.K w x cs) (hf : fits x) : Calls Tryd.prog 5 #[.agg cs.toArray, .int .i64 0] w fun e w' => (∃ r, e = .returned (.bool r)) ∧ Below w.heap.size w w' := by
  obtain ⟨A2, c2, A3, c3, A4, c4, rfl, l2, g2, l3, g3, l4, g4⟩ := k26_open hk
  obtain ⟨k, r, h⟩ := large_some x hf
  refine (stillroomlaw07_large.calls k _ _ _ _ _ _ _ _ _ _ _ 0 r w g2 l2 g3 l3 g4 l4 h).mono ?_
  rintro e w' ⟨rfl, hb⟩
  exact ⟨⟨r, rfl⟩, hb⟩
/-- the text of what Encode hands back -/
theorem enc_text {w0 w1 w : World} {x : S26} {e : Ending} (h : Enc w0 x e w1) (hb : Below w1.heap.size w1 w) : ∃ A n c, e = .returned (.tuple #[.slice A n c, .int .i64 (right x)]) ∧ (convert 22 9 (.slice A n c)).run Tryd.prog w = .ok (.string (strOfNums (if right x = 0 then arch x else []))) w := by
  rcases h with ⟨_, ⟨hr, g, cap, rfl, hc, hby, hg⟩ | ⟨hr, A, c, rfl⟩⟩
  · refine ⟨some ⟨g, 0, none⟩, (arch x).length, cap, by rw [hr], ?_⟩
    rw [if_pos hr]
    have hl := (right_len hr).1
    exact Kd.C_string Tryd.underlying22 Tryd.underlying5 Tryd.underlying9 ((hby.below hb).to_C (by rw [arch, List.length_append, magic_len]; omega))
  · refine ⟨A, 0, c, rfl, ?_⟩
    rw [if_neg hr]
    exact Kd.C_string Tryd.underlying22 Tryd.underlying5 Tryd.underlying9 ⟨rfl, by decide, fun h => absurd h (Nat.lt_irrefl 0)⟩
end Go.Proofs.YtdehcojmgmjcmaaDoor
