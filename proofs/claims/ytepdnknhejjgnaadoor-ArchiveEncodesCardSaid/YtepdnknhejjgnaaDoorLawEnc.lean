/- ArchiveEncodes, walked: for every node the law returns true. -/
import Derived.Test.YtepdnknhejjgnaaDoorSz
import Derived.Test.YtepdnknhejjgnaaDoorQArchiveEncodesx1
import Derived.ChangeKeysEq
import Derived.Laws.StructEq
namespace Go.Proofs.YtepdnknhejjgnaaDoor
set_option linter.unusedVariables false
set_option linter.unusedSimpArgs false
open Go.RowKit QArchiveEncodes Go.Proofs.YtepdnknhejjgnaaDoorW.PrintWords Go.Proofs.YtepdnknhejjgnaaDoorW.PrintLast Go.Proofs.YtepdnknhejjgnaaDoorW.PrintMore
theorem large_of (w : World) (x : S26) (cs : List Value) (hk : k26.K w x cs) (hf : fits x) : Calls Tryd.prog 4 #[.agg cs.toArray, .int .i64 0] w fun e w' => (∃ r, e = .returned (.bool r)) ∧ Below w.heap.size w w' := by
  obtain ⟨A2, c2, A3, c3, A4, c4, rfl, l2, g2, l3, g3, l4, g4⟩ := k26_open hk
  obtain ⟨k, r, h⟩ := large_some x hf
  refine (stillroomlaw07_large.calls k _ _ _ _ _ _ _ _ _ _ _ 0 r w g2 l2 g3 l3 g4 l4 h).mono ?_
  rintro e w' ⟨rfl, hb⟩
  exact ⟨⟨r, rfl⟩, hb⟩
theorem names_of (w : World) : Calls Tryd.prog 9 #[] w fun e w' => e = .returned (.bool true) ∧ Below w.heap.size w w' := by
  refine (stillroomlaw07_names.calls true w (by rfl)).mono ?_
  rintro e w' ⟨he, hd⟩
  exact ⟨he, hd.below⟩
/-- the text of what Encode hands back -/
theorem enc_text {w0 w1 w : World} {x : S26} {e : Ending} (h : Enc w0 x e w1) (hb : Below w1.heap.size w1 w) : ∃ A n c, e = .returned (.tuple #[.slice A n c, .int .i64 (right x)]) ∧ (convert 22 9 (.slice A n c)).run Tryd.prog w = .ok (.string (strOfNums (if right x = 0 then arch x else []))) w := by
  rcases h with ⟨_, ⟨hr, g, cap, rfl, hc, hby, hg⟩ | ⟨hr, A, c, rfl⟩⟩
  · refine ⟨some ⟨g, 0, none⟩, (arch x).length, cap, by rw [hr], ?_⟩
    rw [if_pos hr]
    have hl := (right_len hr).1
    exact Kd.C_string Tryd.underlying22 Tryd.underlying5 Tryd.underlying9 ((hby.below hb).to_C (by rw [arch, List.length_append, magic_len]; omega))
  · refine ⟨A, 0, c, rfl, ?_⟩
    rw [if_neg hr]
    exact Kd.C_string Tryd.underlying22 Tryd.underlying5 Tryd.underlying9 ⟨rfl, by decide, fun h => absurd h (Nat.lt_irrefl 0)⟩
theorem part_brr (D : Nat → Int) (w : World) (i : Nat) (hi : i < 32) : (part 5 (brr 32 D) i).run Tryd.prog w = .ok (.int .u8 (D i)) w := by
  have hv := brr_at D hi
  simp [go_sem, part]
  rw [hv]
  simp
theorem eq_items (D : Nat → Int) (d : Nat) : ∀ (is : List Nat) (w : World), (∀ i ∈ is, i < 32) → (Op.eqItems (d + 1) 5 1 (brr 32 D) (brr 32 D) is).run Tryd.prog w = .ok true w
  | [], w, _ => by simp [Op.eqItems]
  | i :: is, w, h => by
    have hp := part_brr D w i (h i List.mem_cons_self)
    have he := run_equalIn_int (P := Tryd.prog) w d 5 .u8 .u8 (D i) (D i) Tryd.underlying5
    have ih := eq_items D d is w (fun j hj => h j (List.mem_cons_of_mem _ hj))
    simp only [Op.eqItems, Sem.run_bind, Nat.mul_one, hp, Result.andThen_ok, he, beq_self_eq_true, Bool.not_true, Bool.false_eq_true, if_false]
    exact ih
theorem eq_digest (D : Nat → Int) (w : World) : (Op.equalIn 10000 34 (.agg (brr 32 D)) (.agg (brr 32 D))).run Tryd.prog w = .ok true w := by
  obtain ⟨i0, hi0, _⟩ := Option.map_eq_some_iff.1 info5
  rw [show (10000 : Nat) = 9999 + 1 from rfl, run_equalIn_array (P := Tryd.prog) w 9999 (brr 32 D) (brr 32 D) Tryd.underlying34 hi0, show Tryd.prog.cellsOf 5 = 1 by kernel_rfl]
  exact eq_items D 9998 _ w (fun i hi => List.mem_range.1 hi)
theorem load_guarded {P : Program} {ops : Array Oper} {Q : Exit → Act → World → Prop} {a : Act} {w : World} {rest : List Oper} {o : Oper} (hw : Region.wanted o (yielded ops a.tmps) = true) (ty : TypeId) (x : Operand) (ho : o.op = .load ty x) (b : Nat) (hx : a.eval x = .pointer (some ⟨b, 0, none⟩)) (v : Value)
    (hl : (loadVar ty ⟨b, 0, none⟩).run P w = .ok v w) (h : wpList P ops Q rest (a.put o.dst v) w) : wpList P ops Q (o :: rest) a w := by
  unfold wpList
  rw [if_pos hw]
  refine Or.inl ?_
  have hrun : (execOp a.eval o).run P w = .ok (.value v) w := by
    unfold execOp
    simp only [ho, hx, Instr.loadAt, Instr.sureAddr, Sem.run_bind, Sem.run_pure, Result.andThen_ok, hl]
  unfold Oper.wp
  rw [hrun]
  exact h
set_option maxRecDepth 8000 in
set_option maxHeartbeats 4000000 in
theorem law_walk (w : World) (x : S26) (cs : List Value) (hk : k26.K w x cs) (hf : fits x) (hq : RowAt w 1 81 64 k0) (hsq : RowAt w 0 72 8 s0) : Calls Tryd.prog 3 #[.agg cs.toArray] w fun e w' => e = .returned (.bool true) ∧ Below w.heap.size w w' := by
  have HK := Lib.hid hk
  have HQ := Lib.hid hq
  have HSQ := Lib.hid hsq
  obtain ⟨A2, c2, A3, c3, A4, c4, rfl, _⟩ := k26_open hk
  clear hk hq hsq
  have bx := (Below.refl w.heap.size w).alloc (Nat.le_refl _) (.cells #[.int .i64 x.f0, .bool x.f1, .slice A2 x.f2.length c2, .slice A3 x.f3.length c3, .slice A4 x.f4.length c4] 26)
  have hx : (w.alloc (.cells #[.int .i64 x.f0, .bool x.f1, .slice A2 x.f2.length c2, .slice A3 x.f3.length c3, .slice A4 x.f4.length c4] 26)).heap[w.heap.size]? = some (.cells #[.int .i64 x.f0, .bool x.f1, .slice A2 x.f2.length c2, .slice A3 x.f3.length c3, .slice A4 x.f4.length c4] 26 (0, 0)) := heap_alloc_new _ _
  go_enter Tryd.func3, Tryd.ntmps3
  go_upto_region 1 with fail
  generalize w.alloc (.cells #[.int .i64 x.f0, .bool x.f1, .slice A2 x.f2.length c2, .slice A3 x.f3.length c3, .slice A4 x.f4.length c4] 26) = w1 at bx hx ⊢
  have HB1 := Lib.hid bx
  have HX1 := Lib.hid hx
  have hgs1 : w.heap.size < w1.heap.size := (Array.getElem?_eq_some_iff.1 hx).1
  have HK1 := Lib.hid (k26.K_below HB1.out HK.out)
  have hnb : w.heap.size ≤ w1.heap.size := HB1.out.size
  generalize hgb : w.heap.size = gb at HX1 hgs1 hnb ⊢
  have HGB := Lib.hid hgb
  clear hgb hx bx
  have hxq := HX1.out
  have q0 := cell_of_row w1 gb 0 _ _ _ hxq
  have q1 := cell_of_row w1 gb 1 _ _ _ hxq
  have q2 := cell_of_row w1 gb 2 _ _ _ hxq
  have q3 := cell_of_row w1 gb 3 _ _ _ hxq
  have q4 := cell_of_row w1 gb 4 _ _ _ hxq
  simp only [List.getElem?_toArray, List.getElem?_cons_succ, List.getElem?_cons_zero] at q0 q1 q2 q3 q4
  clear hxq
  go_wp2_with (go_at_call 4; refine (large_of w1 x _ HK1.out hf).mono ?_; rintro e w2 ⟨⟨r, rfl⟩, hb2⟩; refine Hid.out ?_)
  refine Lib.hid ?_
  clear q0 q1 q2 q3 q4
  have HB2 := Lib.hid (HB1.out.trans (hb2.mono HB1.out.size))
  have HX2 := Lib.hid ((hb2.block _ hgs1).trans HX1.out)
  have hgs2 : gb < w2.heap.size := Nat.lt_of_lt_of_le hgs1 hb2.size
  clear hb2
  cases r
  · have HK2 := Lib.hid (k26.K_below HB2.out HK.out)
    have hxq := HX2.out
    have q0 := cell_of_row w2 gb 0 _ _ _ hxq
    have q1 := cell_of_row w2 gb 1 _ _ _ hxq
    have q2 := cell_of_row w2 gb 2 _ _ _ hxq
    have q3 := cell_of_row w2 gb 3 _ _ _ hxq
    have q4 := cell_of_row w2 gb 4 _ _ _ hxq
    simp only [List.getElem?_toArray, List.getElem?_cons_succ, List.getElem?_cons_zero] at q0 q1 q2 q3 q4
    clear hxq
    go_wp2_with (go_at_call 5; refine (encode_of w2 x _ HK2.out hf).mono ?_; intro e w3 henc; obtain ⟨A5, n5, c5, rfl, _⟩ := enc_text henc (Below.refl _ _); refine Hid.out ?_)
    refine Lib.hid ?_
    clear q0 q1 q2 q3 q4
    have HE := Lib.hid henc
    have hb3 := henc.1
    have HB3 := Lib.hid (HB2.out.trans (hb3.mono HB2.out.size))
    have HX3 := Lib.hid ((hb3.block _ hgs2).trans HX2.out)
    have hgs3 : gb < w3.heap.size := Nat.lt_of_lt_of_le hgs2 hb3.size
    clear hb3 henc
    have HK3 := Lib.hid (k26.K_below HB3.out HK.out)
    have hxq := HX3.out
    have q0 := cell_of_row w3 gb 0 _ _ _ hxq
    have q1 := cell_of_row w3 gb 1 _ _ _ hxq
    have q2 := cell_of_row w3 gb 2 _ _ _ hxq
    have q3 := cell_of_row w3 gb 3 _ _ _ hxq
    have q4 := cell_of_row w3 gb 4 _ _ _ hxq
    simp only [List.getElem?_toArray, List.getElem?_cons_succ, List.getElem?_cons_zero] at q0 q1 q2 q3 q4
    clear hxq
    go_wp2_with (go_at_call 6; refine (rencode_of w3 x _ HK3.out hf).mono ?_; intro e w4 henc; obtain ⟨A6, n6, c6, rfl, _⟩ := enc_text henc (Below.refl _ _); refine Hid.out ?_)
    refine Lib.hid ?_
    clear q0 q1 q2 q3 q4
    have HE2 := Lib.hid henc
    have hb4 := henc.1
    have HC4 := Lib.hid hb4
    have HB4 := Lib.hid (HB3.out.trans (hb4.mono HB3.out.size))
    have HX4 := Lib.hid ((hb4.block _ hgs3).trans HX3.out)
    have hgs4 : gb < w4.heap.size := Nat.lt_of_lt_of_le hgs3 hb4.size
    clear hb4 henc
    have HK4 := Lib.hid (k26.K_below HB4.out HK.out)
    have hxq := HX4.out
    have q0 := cell_of_row w4 gb 0 _ _ _ hxq
    have q1 := cell_of_row w4 gb 1 _ _ _ hxq
    have q2 := cell_of_row w4 gb 2 _ _ _ hxq
    have q3 := cell_of_row w4 gb 3 _ _ _ hxq
    have q4 := cell_of_row w4 gb 4 _ _ _ hxq
    simp only [List.getElem?_toArray, List.getElem?_cons_succ, List.getElem?_cons_zero] at q0 q1 q2 q3 q4
    clear hxq
    go_wp2_with (go_at_call 7; refine (hash_of w4 x _ k0 s0 (HQ.out.below HB4.out HQ.out.lt) (HSQ.out.below HB4.out HSQ.out.lt) s0_ok HK4.out hf).mono ?_; rintro e w5 ⟨rfl, hb5⟩; refine Hid.out ?_)
    refine Lib.hid ?_
    clear q0 q1 q2 q3 q4
    have HC5 := Lib.hid (HC4.out.trans (hb5.mono HC4.out.size))
    have HB5 := Lib.hid (HB4.out.trans (hb5.mono HB4.out.size))
    have HX5 := Lib.hid ((hb5.block _ hgs4).trans HX4.out)
    have hgs5 : gb < w5.heap.size := Nat.lt_of_lt_of_le hgs4 hb5.size
    have HF5 := Lib.hid hb5
    clear hb5
    go_wp2_with (refine wpList_store_row rfl 34 _ _ rfl w5.heap.size (brr 32 (dig k0 s0 x)) rfl rfl 34 _ (heap_alloc_new _ _) (by rw [brr_size]; kernel_rfl) (by rw [brr_size]; rfl) (brr_one 32 _) ?_; refine Hid.out ?_)
    refine Lib.hid ?_
    have z0 : brr 32 (fun _ => 0) = #[.int .u8 0, .int .u8 0, .int .u8 0, .int .u8 0, .int .u8 0, .int .u8 0, .int .u8 0, .int .u8 0, .int .u8 0, .int .u8 0, .int .u8 0, .int .u8 0, .int .u8 0, .int .u8 0, .int .u8 0, .int .u8 0, .int .u8 0, .int .u8 0, .int .u8 0, .int .u8 0, .int .u8 0, .int .u8 0, .int .u8 0, .int .u8 0, .int .u8 0, .int .u8 0, .int .u8 0, .int .u8 0, .int .u8 0, .int .u8 0, .int .u8 0, .int .u8 0] := rfl
    have Z0 := Lib.hid z0
    clear z0
    rw [← Z0.out]
    have bz := (Below.refl w5.heap.size w5).alloc (Nat.le_refl _) (.cells (brr 32 fun _ => 0) 34 (0, 0))
    have b6 := below_setRow bz (Nat.le_refl _) (brr 32 (dig k0 s0 x))
    have d6 : BRow ((w5.alloc (.cells (brr 32 fun _ => 0) 34 (0, 0))).setRow w5.heap.size (brr 32 (dig k0 s0 x))) w5.heap.size 34 32 (dig k0 s0 x) := setRow_heap _ _ _ (brr 32 (dig k0 s0 x)) _ _ (heap_alloc_new _ _)
    change wpList _ _ _ _ _ ((w5.alloc (.cells (brr 32 fun _ => 0) 34 (0, 0))).setRow w5.heap.size (brr 32 (dig k0 s0 x)))
    generalize (w5.alloc (.cells (brr 32 fun _ => 0) 34 (0, 0))).setRow w5.heap.size (brr 32 (dig k0 s0 x)) = w6 at b6 d6 ⊢
    have HC6 := Lib.hid (HC5.out.trans (b6.mono HC5.out.size))
    have HF6 := Lib.hid (HF5.out.trans (b6.mono HF5.out.size))
    have HB6 := Lib.hid (HB5.out.trans (b6.mono HB5.out.size))
    have HX6 := Lib.hid ((b6.block _ hgs5).trans HX5.out)
    have hgs6 : gb < w6.heap.size := Nat.lt_of_lt_of_le hgs5 b6.size
    have HD6 := Lib.hid d6
    generalize w5.heap.size = b7 at HD6 ⊢
    clear bz b6 d6 HC5 HF5 HB5 HX5 hgs5
    have HK6 := Lib.hid (k26.K_below HB6.out HK.out)
    have hxq := HX6.out
    have q0 := cell_of_row w6 gb 0 _ _ _ hxq
    have q1 := cell_of_row w6 gb 1 _ _ _ hxq
    have q2 := cell_of_row w6 gb 2 _ _ _ hxq
    have q3 := cell_of_row w6 gb 3 _ _ _ hxq
    have q4 := cell_of_row w6 gb 4 _ _ _ hxq
    simp only [List.getElem?_toArray, List.getElem?_cons_succ, List.getElem?_cons_zero] at q0 q1 q2 q3 q4
    clear hxq
    go_wp2_with (go_at_call 8; refine (rhash_of w6 x _ HK6.out hf).mono ?_; rintro e w7 ⟨rfl, hb7⟩; refine Hid.out ?_)
    refine Lib.hid ?_
    clear q0 q1 q2 q3 q4
    have HC7 := Lib.hid (HC6.out.trans (hb7.mono HC6.out.size))
    have HF7 := Lib.hid (HF6.out.trans (hb7.mono HF6.out.size))
    have HB7 := Lib.hid (HB6.out.trans (hb7.mono HB6.out.size))
    have HD7 := Lib.hid (HD6.out.below hb7 HD6.out.lt)
    clear hb7 HC6 HF6 HB6 HD6 HX6 hgs6
    go_wp2_with (refine wpList_store_row rfl 33 _ _ rfl w7.heap.size (brr 32 (dig k0 s0 x)) rfl rfl 33 _ (heap_alloc_new _ _) (by rw [brr_size]; kernel_rfl) (by rw [brr_size]; rfl) (brr_one 32 _) ?_; refine Hid.out ?_)
    refine Lib.hid ?_
    rw [← Z0.out]
    have bz := (Below.refl w7.heap.size w7).alloc (Nat.le_refl _) (.cells (brr 32 fun _ => 0) 33 (0, 0))
    have b8 := below_setRow bz (Nat.le_refl _) (brr 32 (dig k0 s0 x))
    have d8 : BRow ((w7.alloc (.cells (brr 32 fun _ => 0) 33 (0, 0))).setRow w7.heap.size (brr 32 (dig k0 s0 x))) w7.heap.size 33 32 (dig k0 s0 x) := setRow_heap _ _ _ (brr 32 (dig k0 s0 x)) _ _ (heap_alloc_new _ _)
    change wpList _ _ _ _ _ ((w7.alloc (.cells (brr 32 fun _ => 0) 33 (0, 0))).setRow w7.heap.size (brr 32 (dig k0 s0 x)))
    generalize (w7.alloc (.cells (brr 32 fun _ => 0) 33 (0, 0))).setRow w7.heap.size (brr 32 (dig k0 s0 x)) = w8 at b8 d8 ⊢
    have HC8 := Lib.hid (HC7.out.trans (b8.mono HC7.out.size))
    have HF8 := Lib.hid (HF7.out.trans (b8.mono HF7.out.size))
    have HB8 := Lib.hid (HB7.out.trans (b8.mono HB7.out.size))
    have HD8 := Lib.hid (HD7.out.below b8 HD7.out.lt)
    have HR8 := Lib.hid d8
    generalize w7.heap.size = b9 at HR8 ⊢
    clear bz b8 d8 HC7 HF7 HB7 HD7
    obtain ⟨A5', n5', c5', e5, cv5⟩ := enc_text HE.out HC8.out
    obtain ⟨A6', n6', c6', e6, cv6⟩ := enc_text HE2.out HF8.out
    injection e5 with e5
    injection e5 with e5
    injection e6 with e6
    injection e6 with e6
    simp only [Array.mk.injEq, List.cons.injEq, Value.slice.injEq, and_true] at e5 e6
    obtain ⟨rfl, rfl, rfl⟩ := e5
    obtain ⟨rfl, rfl, rfl⟩ := e6
    generalize strOfNums (if right x = 0 then arch x else []) = tx at cv5 cv6
    have heq := eq_digest (dig k0 s0 x) w8
    have hl7 := run_loadVar_row (P := Tryd.prog) w8 b7 34 34 _ (0, 0) _ HD8.out Tryd.underlying34 rfl (by rw [brr_size]; kernel_rfl)
    have hl9 := run_loadVar_row (P := Tryd.prog) w8 b9 33 33 _ (0, 0) _ HR8.out Tryd.underlying33 rfl (by rw [brr_size]; kernel_rfl)
    go_wp2_with (first
      | (refine load_guarded (by kernel_rfl) 34 (.tmp 7) rfl b7 rfl (.agg (brr 32 (dig k0 s0 x))) hl7 ?_)
      | (refine load_guarded (by kernel_rfl) 33 (.tmp 9) rfl b9 rfl (.agg (brr 32 (dig k0 s0 x))) hl9 ?_)
      | (go_at_call 9; refine (names_of w8).mono ?_; rintro e w9 ⟨rfl, hb9⟩; refine Hid.out ?_))
    refine Lib.hid ?_
    go_wp2_with fail
    go_ret
    exact ⟨rfl, HB8.out.trans (hb9.mono HB8.out.size)⟩
  · go_wp2_with fail
    go_ret
    exact ⟨rfl, HB2.out⟩
end Go.Proofs.YtepdnknhejjgnaaDoor
