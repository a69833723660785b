/- archive.Encode, and Hash, of the program and of the reference. -/
import Derived.Test.YtepdnknhejjgnaaDoorSy
import Derived.Test.YtepdnknhejjgnaaDoorSt
namespace Go.Proofs.YtepdnknhejjgnaaDoor
set_option linter.unusedVariables false
set_option linter.unusedSimpArgs false
open Go.RowKit QArchiveEncodes Go.Proofs.YtepdnknhejjgnaaDoorW.PrintWords Go.Proofs.YtepdnknhejjgnaaDoorW.PrintLast Go.Proofs.YtepdnknhejjgnaaDoorW.PrintMore
theorem inB_bytesOf (s : ByteArray) : inB (bytesOf s) := by
  intro x hx
  obtain ⟨b, _, rfl⟩ := List.mem_map.1 hx
  have := b.toNat_lt
  omega
theorem inB_zero (n : Nat) : inB (List.replicate n 0) := fun x hx => by have := List.eq_of_mem_replicate hx; omega
theorem inB_strsL : ∀ l, inB (strsL l)
  | [] => fun x hx => by cases hx
  | s :: l => (((inB_be8 _).app (inB_bytesOf s)).app (inB_zero _)).app (inB_strsL l)
theorem inB_nil : inB [] := fun x hx => by cases hx
theorem inB_ents (xs : List S26) : ∀ ns : List ByteArray, (∀ x ∈ xs, inB (nodeL x)) → inB (entsL xs ns) := by
  induction xs with
  | nil => intro ns _; rw [entsL]; exact inB_nil; simp
  | cons x xs ih =>
    intro ns h
    cases ns with
    | nil => rw [entsL]; exact inB_nil; simp
    | cons m ns =>
      rw [entsL]
      exact (((inB_strsL _).app (h x List.mem_cons_self)).app (inB_strsL _)).app (ih ns fun y hy => h y (List.mem_cons_of_mem _ hy))
theorem inB_nodeL (n : Nat) : ∀ x : S26, nodes x ≤ n → inB (nodeL x) := by
  induction n with
  | zero => intro x hx; have := nodes_pos x; omega
  | succ n ih =>
    intro x hx
    have hno := nodes_eq x
    rw [nodeL_eq]
    refine ((inB_strsL _).app ?_).app (inB_strsL _)
    split
    · refine ((inB_strsL _).app ?_).app (inB_strsL _)
      split
      · exact inB_strsL _
      · exact inB_nil
    · split
      · exact inB_strsL _
      · exact (inB_strsL _).app (inB_ents _ _ fun y hy => ih y (by have := nodes_mem hy; omega))
theorem inB_arch (x : S26) : inB (arch x) := (inB_strsL _).app (inB_nodeL _ x (Nat.le_refl _))
theorem cut_zero (g N cap : Nat) : ∀ W, (Instr.slice 22 (.slice (some ⟨g, 0, none⟩) N cap) (some (.int .i64 0)) none none).run Tryd.prog W = .ok (.slice (some ⟨g, 0, none⟩) N cap) W := by
  intro W
  have he : Tryd.prog.elem 22 = 5 := by kernel_rfl
  rw [run_slice_l W 22 _ N cap (by rw [he]; exact Tryd.underlying22) .i64 0 (by omega) (by omega), he, Tryd.sizeOf5]
  simp [sliced, Addr.add]
set_option maxHeartbeats 2000000 in
theorem bytes_of (B b : Nat) (bs : List Int) (w : World) (h : WB B b bs w) (h0 : bs ≠ []) (hi : inB bs) :
    Calls Tryd.prog 14 #[.pointer (some ⟨b, 0, none⟩)] w fun e w' => ∃ g cap, e = .returned (.slice (some ⟨g, 0, none⟩) bs.length cap) ∧ bs.length ≤ cap ∧ Byts w' g 0 bs.length bs ∧ g < w'.heap.size ∧ Below w.heap.size w w' := by
  obtain ⟨hB, lr, hc⟩ := LibA.IsBuffer.cases h
  rcases hc with ⟨hn, _⟩ | ⟨g, cap, cur, h3, hBg, hcur, hle, hmax, hsz, htk, hgb⟩
  · exact absurd (by simpa [nums] using hn) h0
  · rw [nums_length] at h3 hle htk
    have c0 := h3.c0
    have c1 := h3.c1
    have hcut := cut_zero g bs.length cap
    have hgl : g < w.heap.size := (Array.getElem?_eq_some_iff.1 hcur).1
    have hby : Byts w g 0 bs.length bs := by
      refine ⟨rfl, fun i hi2 => ?_, fun i => (hi.getD i).1, fun i => (hi.getD i).2⟩
      rw [Nat.zero_add, cell_of_row w g i _ _ _ hcur]
      have e1 : cur[i]? = (cur.toList.take bs.length)[i]? := by rw [List.getElem?_take_of_lt hi2, Array.getElem?_toList]
      rw [e1, htk, nums, List.getElem?_map, List.getElem?_eq_getElem hi2]
      simp [List.getD, hi2]
    have HBY := Lib.hid hby
    have HLE := Lib.hid hle
    have HGL := Lib.hid hgl
    clear hcur htk hle hmax hsz hby hgl h h3
    go_enter Tryd.func14, Tryd.ntmps14
    go_wp2_with fail
    go_quiet (fail)
    go_wp2_with fail
    go_ret
    have hbd : Below w.heap.size w (w.drewN nq) := pw_below_drewN (Below.refl _ _) nq
    exact ⟨g, cap, rfl, HLE.out, HBY.out.below hbd, Nat.lt_of_lt_of_le HGL.out hbd.size, hbd⟩
theorem k26_K {w : World} {x : S26} {cs : List Value} (h : k26.K w x cs) : cs.length = 5 := by
  obtain ⟨A2, c2, A3, c3, A4, c4, rfl, _⟩ := k26_open h
  rfl
theorem right_of (w : World) (x : S26) (cs : List Value) (hk : k26.K w x cs) (hf : fits x) : Calls Tryd.prog 11 #[.agg cs.toArray] w fun e w' => e = .returned (.int .i64 (right x)) ∧ Below w.heap.size w w' := by
  obtain ⟨A2, c2, A3, c3, A4, c4, rfl, l2, g2, l3, g3, l4, g4⟩ := k26_open hk
  obtain ⟨k, h⟩ := (tright_all x hf).rounds
  exact tree_Right.calls k _ _ _ _ _ _ _ _ _ _ _ (right x) w g2 l2 g3 l3 g4 l4 h
/-- what Encode hands back -/
def Enc (w0 : World) (x : S26) (e : Ending) (w' : World) : Prop :=
  Below w0.heap.size w0 w' ∧ ((right x = 0 ∧ ∃ g cap, e = .returned (.tuple #[.slice (some ⟨g, 0, none⟩) (arch x).length cap, .int .i64 0]) ∧ (arch x).length ≤ cap ∧ Byts w' g 0 (arch x).length (arch x) ∧ g < w'.heap.size) ∨ (right x ≠ 0 ∧ ∃ A c, e = .returned (.tuple #[.slice A 0 c, .int .i64 (right x)])))
set_option maxHeartbeats 4000000 in
theorem encode_of (w : World) (x : S26) (cs : List Value) (hk : k26.K w x cs) (hf : fits x) : Calls Tryd.prog 5 #[.agg cs.toArray] w fun e w' => Enc w x e w' := by
  have HK := Lib.hid hk
  obtain ⟨A2, c2, A3, c3, A4, c4, rfl, _⟩ := k26_open hk
  clear hk
  have bx := (Below.refl w.heap.size w).alloc (Nat.le_refl _) (.cells #[.int .i64 x.f0, .bool x.f1, .slice A2 x.f2.length c2, .slice A3 x.f3.length c3, .slice A4 x.f4.length c4] 26)
  have hx : (w.alloc (.cells #[.int .i64 x.f0, .bool x.f1, .slice A2 x.f2.length c2, .slice A3 x.f3.length c3, .slice A4 x.f4.length c4] 26)).heap[w.heap.size]? = some (.cells #[.int .i64 x.f0, .bool x.f1, .slice A2 x.f2.length c2, .slice A3 x.f3.length c3, .slice A4 x.f4.length c4] 26 (0, 0)) := heap_alloc_new _ _
  go_enter Tryd.func5, Tryd.ntmps5
  go_upto_region 1 with fail
  generalize w.alloc (.cells #[.int .i64 x.f0, .bool x.f1, .slice A2 x.f2.length c2, .slice A3 x.f3.length c3, .slice A4 x.f4.length c4] 26) = w1 at bx hx ⊢
  have BX := Lib.hid bx
  have q0 := cell_of_row w1 w.heap.size 0 _ _ _ hx
  have q1 := cell_of_row w1 w.heap.size 1 _ _ _ hx
  have q2 := cell_of_row w1 w.heap.size 2 _ _ _ hx
  have q3 := cell_of_row w1 w.heap.size 3 _ _ _ hx
  have q4 := cell_of_row w1 w.heap.size 4 _ _ _ hx
  simp only [List.getElem?_toArray, List.getElem?_cons_succ, List.getElem?_cons_zero] at q0 q1 q2 q3 q4
  have hgs : w.heap.size < w1.heap.size := (Array.getElem?_eq_some_iff.1 hx).1
  generalize hgb : w.heap.size = gb at q0 q1 q2 q3 q4 hx hgs ⊢
  have HGB := Lib.hid hgb
  have HX := Lib.hid hx
  clear hgb bx hx
  have HK1 := Lib.hid (k26.K_below BX.out HK.out)
  go_wp2_with (go_at_call 11; refine (right_of w1 x _ HK1.out hf).mono ?_; rintro e w2 ⟨rfl, hb2⟩; refine Hid.out ?_)
  refine Lib.hid ?_
  clear q0 q1 q2 q3 q4
  have HB2 := Lib.hid (BX.out.trans (hb2.mono BX.out.size))
  have HX2 := Lib.hid ((hb2.block _ hgs).trans HX.out)
  have hgs2 : gb < w2.heap.size := Nat.lt_of_lt_of_le hgs hb2.size
  clear hb2 HX hgs BX
  by_cases hr : right x = 0
  · rw [hr]
    go_upto_region 5 with fail
    obtain ⟨hlen, hsh⟩ := right_len hr
    have HK2 := Lib.hid (k26.K_below HB2.out HK.out)
    have hW3 : WB w2.heap.size w2.heap.size [] (w2.alloc (.cells #[.slice none 0 0, .int .i64 0, .int .i8 0] 49)) := LibA.zero_isBuffer (Nat.le_refl _) (LibA.three_whole (heap_alloc_new _ _))
    have hB3 : Below w2.heap.size w2 (w2.alloc (.cells #[.slice none 0 0, .int .i64 0, .int .i8 0] 49)) := (Below.refl _ _).alloc (Nat.le_refl _) _
    generalize w2.alloc (.cells #[.slice none 0 0, .int .i64 0, .int .i8 0] 49) = w3 at hW3 hB3 ⊢
    generalize hb : w2.heap.size = b at hW3 hB3 hgs2 ⊢
    have HBB := Lib.hid hb
    have HLEN := Lib.hid hlen
    have HSH := Lib.hid hsh
    have HW3 := Lib.hid hW3
    have HB3 := Lib.hid hB3
    clear hb hW3 hB3 hlen hsh HK1 w1
    have hbs3 : b ≤ w3.heap.size := by rw [← HBB.out]; exact HB3.out.size
    go_wp2_with (go_at_call 12; refine Hid.out ?_)
    refine Lib.hid ?_
    refine (strings_lit b b [] [wMagic] w3 HW3.out hbs3 (by simp) (by rw [magic_len]; decide)).mono ?_
    rintro e w4 ⟨rfl, hw4, hb4, _⟩
    rw [List.nil_append] at hw4
    have HW4 := Lib.hid hw4
    have HB4 := Lib.hid (HB3.out.trans hb4)
    have hx4 := (HB4.out.block gb hgs2).trans HX2.out
    have q0 := cell_of_row w4 gb 0 _ _ _ hx4
    have q1 := cell_of_row w4 gb 1 _ _ _ hx4
    have q2 := cell_of_row w4 gb 2 _ _ _ hx4
    have q3 := cell_of_row w4 gb 3 _ _ _ hx4
    have q4 := cell_of_row w4 gb 4 _ _ _ hx4
    simp only [List.getElem?_toArray, List.getElem?_cons_succ, List.getElem?_cons_zero] at q0 q1 q2 q3 q4
    clear hw4 hb4 HW3 hx4 HB3
    go_wp2_with (go_at_call 13; refine Hid.out ?_)
    refine Lib.hid ?_
    obtain rfl := HBB.out
    refine (node_of w2 w2.heap.size (nodes x) x (Nat.le_refl _) HSH.out _ (strsL [wMagic]) w4 HK2.out HW4.out HB4.out (by rw [magic_len]; have := HLEN.out; omega)).mono ?_
    rintro e w5 ⟨rfl, hw5, hb5, _⟩
    have HW5 : Hid (WB w2.heap.size w2.heap.size (arch x) w5) := Lib.hid hw5
    have HB5 := Lib.hid (HB4.out.trans hb5)
    clear hw5 hb5 HW4 HB4 q0 q1 q2 q3 q4
    have hne : arch x ≠ [] := by
      intro e
      have := congrArg List.length e
      rw [arch, List.length_append, magic_len] at this
      simp at this
    go_wp2_with (go_at_call 14; refine (bytes_of w2.heap.size w2.heap.size (arch x) w5 HW5.out hne (inB_arch x)).mono ?_; rintro e w6 ⟨g, cap, rfl, hcap, hby, hgl, hb6⟩; refine Hid.out ?_)
    refine Lib.hid ?_
    have HBY := Lib.hid hby
    have HCAP := Lib.hid hcap
    have HGL := Lib.hid hgl
    have hs2 : w.heap.size ≤ w2.heap.size := HB2.out.size
    have HB6 := Lib.hid (HB2.out.trans ((HB5.out.trans (hb6.mono HB5.out.size)).mono hs2))
    clear hby hcap hgl hb6
    go_wp2_with fail
    go_ret2
    exact ⟨HB6.out, Or.inl ⟨hr, g, cap, rfl, HCAP.out, HBY.out, HGL.out⟩⟩
  · have b0 : (right x == 0) = false := by simpa using hr
    have b1 : (right x != 0) = true := by simpa using hr
    go_wp2_with fail
    go_ret2
    exact ⟨HB2.out, Or.inr ⟨hr, none, 0, rfl⟩⟩
theorem results_cell2 {P : Program} {fn : Func} {tmps : Array Value} {a b : Nat} {t : TypeId} {p : Addr} {v : Value} {w : World} (hr : fn.results = #[.cell a t, .tmp b]) (hp : tmps.getD a undef = .pointer (some p)) (hl : (loadVar t p).run P w = .ok v w) : (results fn tmps).run P w = .ok (.tuple #[v, tmps.getD b undef]) w := by
  have hp' : tmps[a]?.getD undef = .pointer (some p) := by simpa using hp
  unfold results
  rw [hr]
  simp [hp', asAddr, Array.mapM_eq_foldlM, hl, Result.andThen]
/-- the digest of a node's archive; of none: zeros -/
def dig (K s : Nat → Int) (x : S26) : Nat → Int := if right x = 0 then dgs (hsh K s (tailOf (arch x) (arch x).length) (((arch x).length + 72) / 64)) else fun _ => 0
set_option maxRecDepth 8000 in
set_option maxHeartbeats 4000000 in
theorem hash_of (w : World) (x : S26) (cs : List Value) (K s : Nat → Int) (hq : RowAt w 1 81 64 K) (hsq : RowAt w 0 72 8 s) (hs : ∀ j, 0 ≤ s j ∧ s j < 4294967296) (hk : k26.K w x cs) (hf : fits x) : Calls Tryd.prog 7 #[.agg cs.toArray] w fun e w' => e = .returned (.tuple #[.agg (brr 32 (dig K s x)), .int .i64 (right x)]) ∧ Below w.heap.size w w' := by
  have HK := Lib.hid hk
  obtain ⟨A2, c2, A3, c3, A4, c4, rfl, _⟩ := k26_open hk
  clear hk
  have z0 : brr 32 (fun _ => 0) = #[.int .u8 0, .int .u8 0, .int .u8 0, .int .u8 0, .int .u8 0, .int .u8 0, .int .u8 0, .int .u8 0, .int .u8 0, .int .u8 0, .int .u8 0, .int .u8 0, .int .u8 0, .int .u8 0, .int .u8 0, .int .u8 0, .int .u8 0, .int .u8 0, .int .u8 0, .int .u8 0, .int .u8 0, .int .u8 0, .int .u8 0, .int .u8 0, .int .u8 0, .int .u8 0, .int .u8 0, .int .u8 0, .int .u8 0, .int .u8 0, .int .u8 0, .int .u8 0] := rfl
  go_enter Tryd.func7, Tryd.ntmps7
  go_upto_region 1 with fail
  rw [← z0]
  have Z0 := Lib.hid z0
  clear z0
  have bx := (Below.refl w.heap.size w).alloc (Nat.le_refl _) (.cells #[.int .i64 x.f0, .bool x.f1, .slice A2 x.f2.length c2, .slice A3 x.f3.length c3, .slice A4 x.f4.length c4] 26)
  have hx : (w.alloc (.cells #[.int .i64 x.f0, .bool x.f1, .slice A2 x.f2.length c2, .slice A3 x.f3.length c3, .slice A4 x.f4.length c4] 26)).heap[w.heap.size]? = some (.cells #[.int .i64 x.f0, .bool x.f1, .slice A2 x.f2.length c2, .slice A3 x.f3.length c3, .slice A4 x.f4.length c4] 26 (0, 0)) := heap_alloc_new _ _
  have hs1 : (w.alloc (.cells #[.int .i64 x.f0, .bool x.f1, .slice A2 x.f2.length c2, .slice A3 x.f3.length c3, .slice A4 x.f4.length c4] 26)).heap.size = w.heap.size + 1 := by simp
  generalize w.alloc (.cells #[.int .i64 x.f0, .bool x.f1, .slice A2 x.f2.length c2, .slice A3 x.f3.length c3, .slice A4 x.f4.length c4] 26) = w1 at bx hx hs1 ⊢
  have d0 := BRow.new w1 34 32 (fun _ => 0)
  have bd := (Below.refl w1.heap.size w1).alloc (Nat.le_refl _) (.cells (brr 32 fun _ => 0) 34 (0, 0))
  have hs2 : (w1.alloc (.cells (brr 32 fun _ => 0) 34 (0, 0))).heap.size = w.heap.size + 2 := by simp [hs1]
  change Code.wp _ _ _ _ (w1.alloc (.cells (brr 32 fun _ => 0) 34 (0, 0)))
  generalize w1.alloc (.cells (brr 32 fun _ => 0) 34 (0, 0)) = w2 at d0 bd hs2 ⊢
  rw [hs1] at d0
  have HB2 := Lib.hid (bx.trans (bd.mono (show w.heap.size ≤ w1.heap.size by omega)))
  have hx2 := (bd.block w.heap.size (by omega)).trans hx
  have q0 := cell_of_row w2 w.heap.size 0 _ _ _ hx2
  have q1 := cell_of_row w2 w.heap.size 1 _ _ _ hx2
  have q2 := cell_of_row w2 w.heap.size 2 _ _ _ hx2
  have q3 := cell_of_row w2 w.heap.size 3 _ _ _ hx2
  have q4 := cell_of_row w2 w.heap.size 4 _ _ _ hx2
  simp only [List.getElem?_toArray, List.getElem?_cons_succ, List.getElem?_cons_zero] at q0 q1 q2 q3 q4
  have HK2 := Lib.hid (k26.K_below HB2.out HK.out)
  have HQ2 := Lib.hid (hq.below HB2.out hq.lt)
  have HSQ2 := Lib.hid (hsq.below HB2.out hsq.lt)
  clear hq hsq
  have HS2 := Lib.hid hs2
  clear hx bx bd hx2 hs1 hs2 w1
  
  generalize hn : w.heap.size = n at d0 HB2 HS2 q0 q1 q2 q3 q4 ⊢
  have HN := Lib.hid hn
  clear hn
  go_wp2_with (go_at_call 5; refine (encode_of w2 x _ HK2.out hf).mono ?_; rintro e w3 ⟨hb3, ⟨hr, g, cap, rfl, hcap, hby, hgl⟩ | ⟨hr, A, c, rfl⟩⟩ <;> refine Hid.out ?_)
  · refine Lib.hid ?_
    clear q0 q1 q2 q3 q4
    have HBY := Lib.hid hby
    have HCAP := Lib.hid hcap
    have HGL := Lib.hid hgl
    have d3 := Lib.hid (d0.below hb3 d0.lt)
    have HB3 := Lib.hid hb3
    have hl := (right_len hr).1
    have hN : (arch x).length ≤ 1099511627776 := by rw [arch, List.length_append, magic_len]; omega
    have hnz : 0 < (arch x).length := by rw [arch, List.length_append, magic_len]; omega
    clear hby hcap hgl hb3 d0 hl
    go_wp2_with (first
      | (go_at_call 18; refine (sum_of w3 g (arch x).length cap (arch x) s K hN HCAP.out HBY.out HGL.out (HQ2.out.below HB3.out HQ2.out.lt) (HSQ2.out.below HB3.out HSQ2.out.lt) hs).mono ?_; rintro e w4 ⟨rfl, hb4⟩; refine Hid.out ?_))
    refine Lib.hid ?_
    have d4 := d3.out.below hb4 d3.out.lt
    have HB4 := Lib.hid ((HB3.out.mono (show n ≤ w2.heap.size by rw [HS2.out]; omega)).trans (hb4.mono (show n ≤ w3.heap.size by have := HB3.out.size; have := HS2.out; omega)))
    clear hb4 HB3
    have eD : dgs (hsh K s (tailOf (arch x) (arch x).length) (((arch x).length + 72) / 64)) = dig K s x := by unfold dig; rw [if_pos hr]
    rw [eD]
    go_wp2_with (refine wpList_store_row rfl 34 _ _ rfl (n + 1) (brr 32 (dig K s x)) rfl rfl 34 _ d4 (by rw [brr_size]; kernel_rfl) (by rw [brr_size]; rfl) (brr_one 32 _) ?_)
    have HL := run_loadVar_row (P := Tryd.prog) (w4.setRow (n + 1) (brr 32 (dig K s x))) (n + 1) 34 34 _ (0, 0) _ (setRow_heap w4 (n + 1) _ (brr 32 (dig K s x)) _ _ d4) Tryd.underlying34 rfl (by rw [brr_size]; kernel_rfl)
    refine bodyPost_ret (results_cell2 Tryd.results7 rfl HL) rfl ⟨?_, ?_⟩
    · rw [hr]; rfl
    · rw [HN.out]
      exact (HB2.out.trans HB4.out).trans (below_setRow (Below.refl _ _) (by omega) _)
  · refine Lib.hid ?_
    clear q0 q1 q2 q3 q4
    have d3 := d0.below hb3 d0.lt
    have HB3 := Lib.hid hb3
    have b0 : (right x == 0) = false := by simpa using hr
    have b1 : (right x != 0) = true := by simpa using hr
    have eD := Lib.hid (show (fun _ => (0 : Int)) = dig K s x by unfold dig; rw [if_neg hr])
    clear hb3 d0
    go_wp2_with (first
      | (refine wpList_buildTo rfl 34 _ rfl (some 13) rfl (brr 32 (fun _ => 0)) (by kernel_rfl) ?_)
      | (refine wpList_store_row rfl 34 _ _ rfl (n + 1) (brr 32 (fun _ => 0)) rfl rfl 34 _ d3 (by rw [brr_size]; kernel_rfl) rfl (brr_one 32 _) ?_))
    have HL := run_loadVar_row (P := Tryd.prog) (w3.setRow (n + 1) (brr 32 (fun _ => 0))) (n + 1) 34 34 _ (0, 0) _ (setRow_heap w3 (n + 1) _ (brr 32 (fun _ => 0)) _ _ d3) Tryd.underlying34 rfl (by rw [brr_size]; kernel_rfl)
    refine bodyPost_ret (results_cell2 Tryd.results7 rfl HL) rfl ⟨?_, ?_⟩
    · rw [← eD.out]; rfl
    · rw [HN.out]
      exact (HB2.out.trans (HB3.out.mono (show n ≤ w2.heap.size by rw [HS2.out]; omega))).trans (below_setRow (Below.refl _ _) (by omega) _)
theorem rencode_of (w : World) (x : S26) (cs : List Value) (hk : k26.K w x cs) (hf : fits x) : Calls Tryd.prog 6 #[.agg cs.toArray] w fun e w' => Enc w x e w' := by
  obtain ⟨A2, c2, A3, c3, A4, c4, rfl, l2, g2, l3, g3, l4, g4⟩ := k26_open hk
  obtain ⟨k, h⟩ := (encode_ev x hf).rounds
  by_cases hr : right x = 0
  · rw [if_pos hr] at h
    refine (stillroomref07_Encode.calls k _ _ _ _ _ _ _ _ _ _ _ (arch x) 0 w g2 l2 g3 l3 g4 l4 h).mono ?_
    rintro e w' ⟨v, rfl, hR, hb⟩
    obtain ⟨g, cap, rfl, _, hgl, _⟩ := Kd.R_form hR (by rw [arch, List.length_append, magic_len]; omega)
    exact ⟨hb, Or.inl ⟨hr, g, cap, rfl, (Kd.R_reads' hR).2.1, Byts.of_R hR (inB_arch x), hgl⟩⟩
  · rw [if_neg hr] at h
    refine (stillroomref07_Encode.calls k _ _ _ _ _ _ _ _ _ _ _ [] (right x) w g2 l2 g3 l3 g4 l4 h).mono ?_
    rintro e w' ⟨v, rfl, hR, hb⟩
    obtain ⟨A, c, rfl⟩ := Kd.R_slice hR
    exact ⟨hb, Or.inr ⟨hr, A, c, rfl⟩⟩
set_option maxRecDepth 8000 in
set_option maxHeartbeats 4000000 in
theorem rhash_of (w : World) (x : S26) (cs : List Value) (hk : k26.K w x cs) (hf : fits x) : Calls Tryd.prog 8 #[.agg cs.toArray] w fun e w' => e = .returned (.tuple #[.agg (brr 32 (dig k0 s0 x)), .int .i64 (right x)]) ∧ Below w.heap.size w w' := by
  have HK := Lib.hid hk
  obtain ⟨A2, c2, A3, c3, A4, c4, rfl, _⟩ := k26_open hk
  clear hk
  have z0 : brr 32 (fun _ => 0) = #[.int .u8 0, .int .u8 0, .int .u8 0, .int .u8 0, .int .u8 0, .int .u8 0, .int .u8 0, .int .u8 0, .int .u8 0, .int .u8 0, .int .u8 0, .int .u8 0, .int .u8 0, .int .u8 0, .int .u8 0, .int .u8 0, .int .u8 0, .int .u8 0, .int .u8 0, .int .u8 0, .int .u8 0, .int .u8 0, .int .u8 0, .int .u8 0, .int .u8 0, .int .u8 0, .int .u8 0, .int .u8 0, .int .u8 0, .int .u8 0, .int .u8 0, .int .u8 0] := rfl
  go_enter Tryd.func8, Tryd.ntmps8
  go_upto_region 1 with fail
  rw [← z0]
  have Z0 := Lib.hid z0
  clear z0
  have bx := (Below.refl w.heap.size w).alloc (Nat.le_refl _) (.cells #[.int .i64 x.f0, .bool x.f1, .slice A2 x.f2.length c2, .slice A3 x.f3.length c3, .slice A4 x.f4.length c4] 26)
  have hx : (w.alloc (.cells #[.int .i64 x.f0, .bool x.f1, .slice A2 x.f2.length c2, .slice A3 x.f3.length c3, .slice A4 x.f4.length c4] 26)).heap[w.heap.size]? = some (.cells #[.int .i64 x.f0, .bool x.f1, .slice A2 x.f2.length c2, .slice A3 x.f3.length c3, .slice A4 x.f4.length c4] 26 (0, 0)) := heap_alloc_new _ _
  have hs1 : (w.alloc (.cells #[.int .i64 x.f0, .bool x.f1, .slice A2 x.f2.length c2, .slice A3 x.f3.length c3, .slice A4 x.f4.length c4] 26)).heap.size = w.heap.size + 1 := by simp
  generalize w.alloc (.cells #[.int .i64 x.f0, .bool x.f1, .slice A2 x.f2.length c2, .slice A3 x.f3.length c3, .slice A4 x.f4.length c4] 26) = w1 at bx hx hs1 ⊢
  have d0 := BRow.new w1 33 32 (fun _ => 0)
  have bd := (Below.refl w1.heap.size w1).alloc (Nat.le_refl _) (.cells (brr 32 fun _ => 0) 33 (0, 0))
  have hs2 : (w1.alloc (.cells (brr 32 fun _ => 0) 33 (0, 0))).heap.size = w.heap.size + 2 := by simp [hs1]
  change Code.wp _ _ _ _ (w1.alloc (.cells (brr 32 fun _ => 0) 33 (0, 0)))
  generalize w1.alloc (.cells (brr 32 fun _ => 0) 33 (0, 0)) = w2 at d0 bd hs2 ⊢
  rw [hs1] at d0
  have HB2 := Lib.hid (bx.trans (bd.mono (show w.heap.size ≤ w1.heap.size by omega)))
  have hx2 := (bd.block w.heap.size (by omega)).trans hx
  have q0 := cell_of_row w2 w.heap.size 0 _ _ _ hx2
  have q1 := cell_of_row w2 w.heap.size 1 _ _ _ hx2
  have q2 := cell_of_row w2 w.heap.size 2 _ _ _ hx2
  have q3 := cell_of_row w2 w.heap.size 3 _ _ _ hx2
  have q4 := cell_of_row w2 w.heap.size 4 _ _ _ hx2
  simp only [List.getElem?_toArray, List.getElem?_cons_succ, List.getElem?_cons_zero] at q0 q1 q2 q3 q4
  have HK2 := Lib.hid (k26.K_below HB2.out HK.out)
  have HS2 := Lib.hid hs2
  clear hx bx bd hx2 hs1 hs2 w1
  
  generalize hn : w.heap.size = n at d0 HB2 HS2 q0 q1 q2 q3 q4 ⊢
  have HN := Lib.hid hn
  clear hn
  go_wp2_with (go_at_call 6; refine (rencode_of w2 x _ HK2.out hf).mono ?_; rintro e w3 ⟨hb3, ⟨hr, g, cap, rfl, hcap, hby, hgl⟩ | ⟨hr, A, c, rfl⟩⟩ <;> refine Hid.out ?_)
  · refine Lib.hid ?_
    clear q0 q1 q2 q3 q4
    have HBY := Lib.hid hby
    have HCAP := Lib.hid hcap
    have HGL := Lib.hid hgl
    have d3 := Lib.hid (d0.below hb3 d0.lt)
    have HB3 := Lib.hid hb3
    have hl := (right_len hr).1
    have hN : (arch x).length ≤ 1099511627776 := by rw [arch, List.length_append, magic_len]; omega
    have hnz : 0 < (arch x).length := by rw [arch, List.length_append, magic_len]; omega
    clear hby hcap hgl hb3 d0 hl
    go_wp2_with (first
      | (go_at_call 19; refine (rsum_of w3 g (arch x).length cap (arch x) hN HCAP.out HBY.out HGL.out).mono ?_; rintro e w4 ⟨rfl, hb4⟩; refine Hid.out ?_))
    refine Lib.hid ?_
    have d4 := d3.out.below hb4 d3.out.lt
    have HB4 := Lib.hid ((HB3.out.mono (show n ≤ w2.heap.size by rw [HS2.out]; omega)).trans (hb4.mono (show n ≤ w3.heap.size by have := HB3.out.size; have := HS2.out; omega)))
    clear hb4 HB3
    have eD : dgs (hsh k0 s0 (tailOf (arch x) (arch x).length) (((arch x).length + 72) / 64)) = dig k0 s0 x := by unfold dig; rw [if_pos hr]
    rw [eD]
    go_wp2_with (refine wpList_store_row rfl 33 _ _ rfl (n + 1) (brr 32 (dig k0 s0 x)) rfl rfl 33 _ d4 (by rw [brr_size]; kernel_rfl) (by rw [brr_size]; rfl) (brr_one 32 _) ?_)
    have HL := run_loadVar_row (P := Tryd.prog) (w4.setRow (n + 1) (brr 32 (dig k0 s0 x))) (n + 1) 33 33 _ (0, 0) _ (setRow_heap w4 (n + 1) _ (brr 32 (dig k0 s0 x)) _ _ d4) Tryd.underlying33 rfl (by rw [brr_size]; kernel_rfl)
    refine bodyPost_ret (results_cell2 Tryd.results8 rfl HL) rfl ⟨?_, ?_⟩
    · rw [hr]; rfl
    · rw [HN.out]
      exact (HB2.out.trans HB4.out).trans (below_setRow (Below.refl _ _) (by omega) _)
  · refine Lib.hid ?_
    clear q0 q1 q2 q3 q4
    have d3 := d0.below hb3 d0.lt
    have HB3 := Lib.hid hb3
    have b0 : (right x == 0) = false := by simpa using hr
    have b1 : (right x != 0) = true := by simpa using hr
    have eD := Lib.hid (show (fun _ => (0 : Int)) = dig k0 s0 x by unfold dig; rw [if_neg hr])
    clear hb3 d0
    go_wp2_with (first
      | (refine wpList_buildTo rfl 33 _ rfl (some 13) rfl (brr 32 (fun _ => 0)) (by kernel_rfl) ?_)
      | (refine wpList_store_row rfl 33 _ _ rfl (n + 1) (brr 32 (fun _ => 0)) rfl rfl 33 _ d3 (by rw [brr_size]; kernel_rfl) rfl (brr_one 32 _) ?_))
    have HL := run_loadVar_row (P := Tryd.prog) (w3.setRow (n + 1) (brr 32 (fun _ => 0))) (n + 1) 33 33 _ (0, 0) _ (setRow_heap w3 (n + 1) _ (brr 32 (fun _ => 0)) _ _ d3) Tryd.underlying33 rfl (by rw [brr_size]; kernel_rfl)
    refine bodyPost_ret (results_cell2 Tryd.results8 rfl HL) rfl ⟨?_, ?_⟩
    · rw [← eD.out]; rfl
    · rw [HN.out]
      exact (HB2.out.trans (HB3.out.mono (show n ≤ w2.heap.size by rw [HS2.out]; omega))).trans (below_setRow (Below.refl _ _) (by omega) _)
end Go.Proofs.YtepdnknhejjgnaaDoor
