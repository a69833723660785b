/- The archive's writer: strings, one behind the other, into the buffer. -/
import Derived.Test.YtdehcojmgmjcmaaDoorRb
import Derived.Test.YtdehcojmgmjcmaaDoorShelf
import Derived.Lib.BufferKept
namespace Go.Proofs.YtdehcojmgmjcmaaDoor
set_option linter.unusedVariables false
set_option linter.unusedSimpArgs false
open Go.RowKit QArchiveBack Go.Proofs.YtdehcojmgmjcmaaDoorW.PrintWords Go.Proofs.YtdehcojmgmjcmaaDoorW.PrintLast Go.Proofs.YtdehcojmgmjcmaaDoorW.PrintMore
/-- how many zeros follow n bytes -/
def padN (n : Nat) : Nat := (8 - n % 8) % 8
def strL (s : ByteArray) : List Int := be8 s.size ++ bytesOf s ++ List.replicate (padN s.size) 0
def strsL : List ByteArray → List Int
  | [] => []
  | s :: l => strL s ++ strsL l
theorem strsL_app : ∀ a b, strsL (a ++ b) = strsL a ++ strsL b
  | [], b => rfl
  | s :: a, b => by
    show strL s ++ strsL (a ++ b) = strL s ++ strsL a ++ strsL b
    rw [strsL_app a b, List.append_assoc]
theorem strL_len (s : ByteArray) : (strL s).length = 8 + s.size + padN s.size := by
  simp [strL, be8, bytesOf_length]
  omega
theorem strsL_take {l : List ByteArray} {j : Nat} (hj : j < l.length) : strsL (l.take (j + 1)) = strsL (l.take j) ++ strL l[j] := by
  rw [List.take_add_one, List.getElem?_eq_getElem hj, strsL_app]
  simp [strsL]
theorem strsL_take_le (l : List ByteArray) (j : Nat) : (strsL (l.take j)).length ≤ (strsL l).length := by
  conv => rhs; rw [← List.take_append_drop j l, strsL_app, List.length_append]
  omega
theorem and_seven (n : Int) : bits .and .i64 n 7 = n % 8 := by
  have h7 : (BitVec.ofInt 64 7).toNat = 2 ^ 3 - 1 := by decide
  have key : (BitVec.ofInt 64 n &&& BitVec.ofInt 64 7).toNat = (n % ((2 ^ 64 : Nat) : Int)).toNat % 2 ^ 3 := by
    rw [BitVec.toNat_and, BitVec.toNat_ofInt, h7, Nat.and_two_pow_sub_one_eq_mod]
  show IntKind.i64.wrap ((BitVec.ofInt 64 n &&& BitVec.ofInt 64 7).toNat : Nat) = n % 8
  rw [key, IntKind.wrap_i64]
  omega
theorem pad_and (n : Nat) (hn : n < 140737488355328) : bits .and .i64 (IntKind.i64.wrap (-(n : Int))) 7 = (padN n : Int) := by
  rw [and_seven, IntKind.wrap_i64]
  unfold padN
  omega
/-- the buffer b, a writer of the call's own (from B on), holds the bytes bs -/
def WB (B b : Nat) (bs : List Int) (w : World) : Prop := LibA.IsBuffer 45 (fun _ => none) 5 B b 0 (nums .u8 bs) w
theorem nums_one (bs : List Int) : ∀ v ∈ nums .u8 bs, v.oneCell' = true := by
  intro v hv
  obtain ⟨x, _, rfl⟩ := List.mem_map.1 hv
  rfl
theorem byteCells_nums (s : ByteArray) : Lib.byteCells s.data.toList = nums .u8 (bytesOf s) := by
  simp [Lib.byteCells, nums, bytesOf]
theorem R_src {w : World} {B b' : Nat} {ok : Nat → Prop} {v : Value} {xs : List Int} (h : Kd.R (Kd.int .u8) 5 w B ok v xs) (hb : v.ownBlock = some b') :
    ∃ a c, v = .slice (some a) xs.length c ∧ a.block = b' ∧ ∀ j u, (nums .u8 xs)[j]? = some u → w.cell? (a.add j) = some u := by
  obtain ⟨A, c, rfl, _, hC⟩ := Kd.R_reads h
  cases A with
  | none => simp [Value.ownBlock] at hb
  | some a =>
    refine ⟨a, c, rfl, by simpa [Value.ownBlock] using hb, fun j u hu => ?_⟩
    rw [nums, List.getElem?_map] at hu
    obtain ⟨x, hx, rfl⟩ := Option.map_eq_some_iff.1 hu
    have hj : j < xs.length := (List.getElem?_eq_some_iff.1 hx).1
    obtain ⟨ad, he, hc⟩ := Kd.at_int hC (j : Int) (by omega) (by omega)
    cases he
    rw [Int.toNat_natCast] at hc
    rw [hc]
    simp [rd, List.getD, hx]
theorem write_of (B b : Nat) (bs xs : List Int) (a : Addr) (n c : Nat) (w : World) (h : WB B b bs w) (hBw : B ≤ w.heap.size) (hn : xs.length = n) (hab : a.block ≠ b) (hsrc : ∀ j v, (nums .u8 xs)[j]? = some v → w.cell? (a.add j) = some v) (hlim : bs.length + n ≤ 140737488355328) :
    Calls Tryd.prog 19 #[.pointer (some ⟨b, 0, none⟩), .slice (some a) n c] w fun e w' => e = .returned (.tuple #[.int .i64 n, .nilIface]) ∧ WB B b (bs ++ xs) w' ∧ Below B w w' ∧ Lib.OthersKept 5 (some b) w w' := by
  have h2 := Tryd.Buffer_Write_at _ _ B b 0 (nums .u8 bs) (nums .u8 xs) a n c w h hBw (nums_one bs) (by rw [nums_length]; exact hn) hab hsrc (nums_one xs) (by rw [nums_length]; exact hlim)
  rw [← nums_append] at h2
  exact h2
theorem writeS_of (B b : Nat) (bs : List Int) (s : ByteArray) (w : World) (h : WB B b bs w) (hBw : B ≤ w.heap.size) (hlim : bs.length + s.size ≤ 140737488355328) :
    Calls Tryd.prog 20 #[.pointer (some ⟨b, 0, none⟩), .string s] w fun e w' => e = .returned (.tuple #[.int .i64 s.size, .nilIface]) ∧ WB B b (bs ++ bytesOf s) w' ∧ Below B w w' ∧ Lib.OthersKept 5 (some b) w w' := by
  have h2 := Tryd.Buffer_WriteString_at _ _ B b 0 (nums .u8 bs) s w h hBw (nums_one bs) (by rw [nums_length]; exact hlim)
  rw [byteCells_nums, ← nums_append] at h2
  exact h2
section
variable {ops : Array Oper} {Q : Exit → Act → World → Prop} {i : Nat} {K : Act → World → Prop} {a : Act} {w : World} {o : Oper}
theorem step_make (N : Tmp) (hi : ops[i]? = some o) (hg : o.guard = none) (hd : o.dst = some N) (x y : Operand) (ho : o.op = .makeSlice 22 x y) (n : Nat) (hx : a.eval x = .int .i64 (n : Int)) (hy : a.eval y = .int .i64 (n : Int)) (hl : n ≤ 1000)
    (h : ∀ v1 w1 b', Kd.R (Kd.int .u8) 5 w1 w.heap.size (fun _ => True) v1 (List.replicate n 0) → Below w.heap.size w w1 → v1.ownBlock = some b' → w.heap.size ≤ b' → K (a.put (some N) v1) w1) : wpOp Tryd.prog ops Q i K a w := by
  refine step_wp hi hg ?_
  have hw : Region.wanted o (yielded ops a.tmps) = true := by simp [Region.wanted, hg]
  have hmk := Kd.R_make_step (P := Tryd.prog) (Q := Q) (Kc := K) (Kd.int .u8) (W := w) (w0 := w) w.heap.size 5 hw hd 22 x y ho (n : Int) hx hy Tryd.underlying22 (.int .u8 0) 1 info5 rfl (by decide) (by decide) 0 (ok := fun _ => True) (okp := fun _ => True) rfl (fun _ hk => hk) trivial (by omega) (by omega) (Below.refl _ _) (Nat.le_refl _) (fun v1 w1 hR hb _ ⟨b', e1, e2⟩ => by rw [hd]; rw [Int.toNat_natCast] at hR; exact h v1 w1 b' hR hb e1 e2)
  rw [if_pos hw] at hmk
  exact hmk
end
theorem w64' {x : Int} (h : -9223372036854775808 ≤ x ∧ x ≤ 9223372036854775807) : wrap64 x = x := by unfold wrap64; omega
theorem nil_run (ρ : Operand → Value) (o : Oper) (w : World) (x : Operand) (a : Addr) (ho : o.op = .nilCheck x) (hx : ρ x = .pointer (some a)) : (execOp ρ o).run Tryd.prog w = .ok (.value (.pointer (some a))) w := by
  unfold execOp
  simp [ho, hx, go_sem]
theorem fld_run (ρ : Operand → Value) (o : Oper) (w : World) (x : Operand) (b : Nat) (ho : o.op = .fieldAddr 45 x 0) (hx : ρ x = .pointer (some ⟨b, 0, none⟩)) : (execOp ρ o).run Tryd.prog w = .ok (.value (.pointer (some ⟨b, 0, none⟩))) w := by
  unfold execOp
  simp [ho, hx, go_sem]
theorem len_run (ρ : Operand → Value) (o : Oper) (w : World) (x : Operand) (s : ByteArray) (ho : o.op = .call { callee := .builtin .len, args := #[x], argTypes := #[9] }) (hx : ρ x = .string s) : (execOp ρ o).run Tryd.prog w = .ok (.value (.int .i64 s.size)) w := by
  unfold execOp
  simp [ho, hx, go_sem]
theorem neg_run (ρ : Operand → Value) (o : Oper) (w : World) (x : Operand) (n : Int) (ho : o.op = .unOp .neg 3 x) (hx : ρ x = .int .i64 n) : (execOp ρ o).run Tryd.prog w = .ok (.value (.int .i64 (IntKind.i64.wrap (-n)))) w := by
  unfold execOp
  simp [ho, hx, go_sem]
theorem and_run (ρ : Operand → Value) (o : Oper) (w : World) (x : Operand) (n m : Int) (ho : o.op = .binOp .and 3 x (.const (.int .i64 7)) 3) (hx : ρ x = .int .i64 n) (hk : ρ (.const (.int .i64 7)) = .int .i64 7) (hm : bits .and .i64 n 7 = m) : (execOp ρ o).run Tryd.prog w = .ok (.value (.int .i64 m)) w := by
  unfold execOp
  simp [ho, hx, hk, go_sem, hm]
set_option maxRecDepth 8000 in
set_option maxHeartbeats 8000000 in
theorem strings_of (B b k c : Nat) (bs : List Int) (l : List ByteArray) (w : World) (h : WB B b bs w) (hBw : B ≤ w.heap.size) (hk : w.heap[k]? = some (.cells (l.map Value.string).toArray 9 (0, 0))) (hkb : k ≠ b) (hll : l.length ≤ 1000000) (hlim : bs.length + (strsL l).length ≤ 70368744177664) :
    Calls Tryd.prog 11 #[.pointer (some ⟨b, 0, none⟩), .slice (some ⟨k, 0, none⟩) l.length c] w fun e w' => e = .returned (.tuple #[]) ∧ WB B b (bs ++ strsL l) w' ∧ Below B w w' ∧ Lib.OthersKept 5 (some b) w w' := by
  have H := Lib.hid h
  have HBW := Lib.hid hBw
  have HK := Lib.hid hk
  have HKB := Lib.hid hkb
  have HLL := Lib.hid hll
  have HLM := Lib.hid hlim
  clear h hBw hk hkb hll hlim
  go_enter Tryd.func11, Tryd.ntmps11
  go_wp2_with fail
  go_slots
  go_loopw [10] (fun i wr => ∃ j : Nat, j ≤ l.length ∧ i = .int .i64 j ∧ Hid (WB B b (bs ++ strsL (l.take j)) wr) ∧ Hid (Below B w wr) ∧ Hid (Lib.OthersKept 5 (some b) w wr)) (fun i _ => l.length - (intOf i).toNat)
  case atStart => exact ⟨0, Nat.zero_le _, rfl, by rw [List.take_zero]; show Hid (WB B b (bs ++ []) w); rw [List.append_nil]; exact H, Lib.hid (Below.refl _ _), Lib.hid (Lib.OthersKept.refl _ _ _)⟩
  case round =>
    obtain ⟨j, hj, rfl, HW, HB, HO⟩ := hrel
    by_cases hlt : j < l.length
    · have hrow := HO.out k _ HK.out (by intro e; exact HKB.out (Option.some.inj e)) (by intro c fz e; injection e with _ e2 _; exact absurd e2 (by decide))
      have hx : wr.cell? ⟨k, j, none⟩ = some (.string l[j]) := by
        rw [cell_of_row wr k j _ _ _ hrow]
        simp [hlt]
      have hs1 := strsL_take hlt
      have hs2 := strsL_take_le l (j + 1)
      have hs3 : (strsL (l.take (j + 1))).length = (strsL (l.take j)).length + (8 + (l[j]).size + padN (l[j]).size) := by rw [hs1, List.length_append, strL_len]
      have HS1 := Lib.hid hs1
      have hlm2 : bs.length + (strsL (l.take j)).length + (8 + (l[j]).size + padN (l[j]).size) ≤ 70368744177664 := by have := HLM.out; omega
      have HL2 := Lib.hid hlm2
      have hsz : (l[j]).size < 70368744177664 := by omega
      clear hs1 hs2 hs3 hlm2
      generalize l[j] = s at hx HS1 HL2 hsz ⊢
      have gl : (j : Int) < (l.length : Int) := by omega
      go_wp2_with fail
      refine (bits_Bytes.calls 11 (s.size : Int) 8 (be8 (s.size : Int)) 0 wr (bits8 _)).mono ?_
      rintro e w8 ⟨v8, rfl, ho8, hb8⟩
      have hbw : B ≤ wr.heap.size := Nat.le_trans HBW.out HB.out.size
      have hblt : b < wr.heap.size := LibA.IsBuffer.lt HW.out
      obtain ⟨g8, c8, rfl, hg8, _, _⟩ := Kd.R_form ho8 (Nat.succ_pos _)
      obtain ⟨a8, c8', e8, hab8, hsrc8⟩ := R_src ho8 (b' := g8) rfl
      cases e8
      have HW8 : Hid (WB B b (bs ++ strsL (l.take j)) w8) := LibA.IsBuffer.old HW.out hb8
      have HB8 := Lib.hid (HB.out.trans (hb8.mono hbw))
      have HO8 := Lib.hid (HO.out.below hb8)
      have hbw8 : B ≤ w8.heap.size := Nat.le_trans hbw hb8.size
      clear ho8 hb8 hrow hx HW HB HO
      go_wp2_with (go_at_call 19; refine (write_of B b (bs ++ strsL (l.take j)) (be8 (s.size : Int)) ⟨g8, 0, none⟩ 8 c8 w8 HW8.out hbw8 rfl (by show g8 ≠ b; omega) hsrc8 (by rw [List.length_append]; have := HL2.out; omega)).mono ?_; rintro e w9 ⟨rfl, hw9, hb9, ho9⟩; refine Hid.out ?_)
      refine Lib.hid ?_
      have HW9 := Lib.hid hw9
      have HB9 := Lib.hid (HB8.out.trans hb9)
      have HO9 := Lib.hid (HO8.out.trans ho9)
      have hbw9 : B ≤ w9.heap.size := Nat.le_trans hbw8 hb9.size
      clear hw9 hb9 ho9 HW8 HB8 HO8 hsrc8 hbw8
      go_wp2_with (go_at_call 20; refine (writeS_of B b (bs ++ strsL (l.take j) ++ be8 (s.size : Int)) s w9 HW9.out hbw9 (by rw [List.length_append, List.length_append]; show _ + 8 + _ ≤ _; have := HL2.out; omega)).mono ?_; rintro e w10 ⟨rfl, hw9, hb9, ho9⟩; refine Hid.out ?_)
      refine Lib.hid ?_
      have HW10 := Lib.hid hw9
      have HB10 := Lib.hid (HB9.out.trans hb9)
      have HO10 := Lib.hid (HO9.out.trans ho9)
      have hbw10 : B ≤ w10.heap.size := Nat.le_trans hbw9 hb9.size
      clear hw9 hb9 ho9 HW9 HB9 HO9 hbw9
      have hand := pad_and s.size (by omega)
      go_wp2_with fail
      refine wp_region_held (S := fun _ => True) (by kernel_rfl) ?_
      change wpAnyH _ _ _ _ _ 9 _ _ w10.drew
      have HW11 : Hid (WB B b (bs ++ strsL (l.take j) ++ be8 (s.size : Int) ++ bytesOf s) w10.drew) := LibA.IsBuffer.drew HW10.out
      have HB11 : Hid (Below B w w10.drew) := below_drewN HB10.out 1
      have HO11 : Hid (Lib.OthersKept 5 (some b) w w10.drew) := HO10.out.drew
      have hbw11 : B ≤ w10.drew.heap.size := hbw10
      clear HW10 HB10 HO10
      generalize w10.drew = w11 at HW11 HB11 HO11 hbw11 ⊢
      have hpn : padN s.size < 8 := Nat.mod_lt _ (by decide)
      refine wpAnyH_take (i := 0) (oi := ?oi0) (v := (.pointer (some ⟨b, 0, none⟩))) ?hi0 (by kernel_rfl) (by kernel_rfl) (by kernel_rfl) ?hq0 (Or.inl ⟨?hw0, ?hy0⟩) trivial ?rest0
      case hi0 => simp only [List.getElem?_toArray, List.getElem?_cons_zero]; exact rfl
      case hq0 => exact fun _ _ _ h => h
      case hw0 => rfl
      case hy0 => exact fun w _ => rfl
      simp only [Act.put, List.setIfInBounds_toArray, List.set_cons_zero, List.set_cons_succ]
      refine wpAnyH_take (i := 1) (oi := ?oi1) (v := (.pointer (some ⟨b, 0, none⟩))) ?hi1 (by kernel_rfl) (by kernel_rfl) (by kernel_rfl) ?hq1 (Or.inl ⟨?hw1, ?hy1⟩) trivial ?rest1
      case hi1 => simp only [List.getElem?_toArray, List.getElem?_cons_succ, List.getElem?_cons_zero]; exact rfl
      case hq1 => exact fun _ _ _ h => h
      case hw1 => rfl
      case hy1 => exact fun w _ => nil_run _ _ w _ _ rfl rfl
      simp only [Act.put, List.setIfInBounds_toArray, List.set_cons_zero, List.set_cons_succ]
      refine wpAnyH_take (i := 2) (oi := ?oi2) (v := (.pointer (some ⟨b, 0, none⟩))) ?hi2 (by kernel_rfl) (by kernel_rfl) (by kernel_rfl) ?hq2 (Or.inl ⟨?hw2, ?hy2⟩) trivial ?rest2
      case hi2 => simp only [List.getElem?_toArray, List.getElem?_cons_succ, List.getElem?_cons_zero]; exact rfl
      case hq2 => exact fun _ _ _ h => h
      case hw2 => rfl
      case hy2 => exact fun w _ => fld_run _ _ w _ b rfl rfl
      simp only [Act.put, List.setIfInBounds_toArray, List.set_cons_zero, List.set_cons_succ]
      refine wpAnyH_take (i := 3) (oi := ?oi3) (v := (.string s)) ?hi3 (by kernel_rfl) (by kernel_rfl) (by kernel_rfl) ?hq3 (Or.inl ⟨?hw3, ?hy3⟩) trivial ?rest3
      case hi3 => simp only [List.getElem?_toArray, List.getElem?_cons_succ, List.getElem?_cons_zero]; exact rfl
      case hq3 => exact fun _ _ _ h => h
      case hw3 => rfl
      case hy3 => exact fun w _ => rfl
      simp only [Act.put, List.setIfInBounds_toArray, List.set_cons_zero, List.set_cons_succ]
      refine wpAnyH_take (i := 4) (oi := ?oi4) (v := (.int .i64 s.size)) ?hi4 (by kernel_rfl) (by kernel_rfl) (by kernel_rfl) ?hq4 (Or.inl ⟨?hw4, ?hy4⟩) trivial ?rest4
      case hi4 => simp only [List.getElem?_toArray, List.getElem?_cons_succ, List.getElem?_cons_zero]; exact rfl
      case hq4 => exact fun _ _ _ h => h
      case hw4 => rfl
      case hy4 => exact fun w _ => len_run _ _ w _ s rfl rfl
      simp only [Act.put, List.setIfInBounds_toArray, List.set_cons_zero, List.set_cons_succ]
      refine wpAnyH_take (i := 5) (oi := ?oi5) (v := (.int .i64 (IntKind.i64.wrap (-(s.size : Int))))) ?hi5 (by kernel_rfl) (by kernel_rfl) (by kernel_rfl) ?hq5 (Or.inl ⟨?hw5, ?hy5⟩) trivial ?rest5
      case hi5 => simp only [List.getElem?_toArray, List.getElem?_cons_succ, List.getElem?_cons_zero]; exact rfl
      case hq5 => exact fun _ _ _ h => h
      case hw5 => rfl
      case hy5 => exact fun w _ => neg_run _ _ w _ _ rfl rfl
      simp only [Act.put, List.setIfInBounds_toArray, List.set_cons_zero, List.set_cons_succ]
      refine wpAnyH_take (i := 6) (oi := ?oi6) (v := (.int .i64 (padN s.size))) ?hi6 (by kernel_rfl) (by kernel_rfl) (by kernel_rfl) ?hq6 (Or.inl ⟨?hw6, ?hy6⟩) trivial ?rest6
      case hi6 => simp only [List.getElem?_toArray, List.getElem?_cons_succ, List.getElem?_cons_zero]; exact rfl
      case hq6 => exact fun _ _ _ h => h
      case hw6 => rfl
      case hy6 => exact fun w _ => and_run _ _ w _ _ _ rfl rfl rfl hand
      simp only [Act.put, List.setIfInBounds_toArray, List.set_cons_zero, List.set_cons_succ]
      refine wpAnyH_all (rs := [7]) (by kernel_rfl) (by simp) ?_
      intro i hi
      obtain rfl := List.mem_singleton.1 hi
      refine step_make 38 rfl rfl rfl (.tmp 37) (.tmp 37) rfl (padN s.size) rfl rfl (by omega) ?_
      intro v1 w12 b' ho12 hb12 hob hbb
      have hblt11 : b < w11.heap.size := LibA.IsBuffer.lt HW11.out
      obtain ⟨a12, c12, rfl, hab12, hsrc12⟩ := R_src ho12 hob
      have HW12 : Hid (WB B b (bs ++ strsL (l.take j) ++ be8 (s.size : Int) ++ bytesOf s) w12) := LibA.IsBuffer.old HW11.out hb12
      have HB12 := Lib.hid (HB11.out.trans (hb12.mono hbw11))
      have HO12 := Lib.hid (HO11.out.below hb12)
      have hbw12 : B ≤ w12.heap.size := Nat.le_trans hbw11 hb12.size
      have hlr : (List.replicate (padN s.size) (0 : Int)).length = padN s.size := List.length_replicate
      rw [hlr]
      refine ⟨trivial, ?_⟩
      simp only [Act.put, List.setIfInBounds_toArray, List.set_cons_zero, List.set_cons_succ]
      refine wpAnyH_all (rs := [8]) (by kernel_rfl) (by simp) ?_
      intro i hi
      obtain rfl := List.mem_singleton.1 hi
      refine step_call (some 39) rfl rfl rfl 19 #[.pointer (some ⟨b, 0, none⟩), .slice (some a12) (padN s.size) c12] (by first | rfl | (simp [execOp, go_sem]; done)) ?_
      refine (write_of B b (bs ++ strsL (l.take j) ++ be8 (s.size : Int) ++ bytesOf s) (List.replicate (padN s.size) 0) a12 (padN s.size) c12 w12 HW12.out hbw12 hlr (by omega) hsrc12 (by rw [List.length_append, List.length_append, List.length_append, bytesOf_length]; show _ + 8 + _ + _ ≤ _; have := HL2.out; omega)).mono ?_
      rintro e w13 ⟨rfl, hw13, hb13, ho13⟩
      refine ⟨_, rfl, ?_⟩
      have eL : bs ++ strsL (l.take j) ++ be8 (s.size : Int) ++ bytesOf s ++ List.replicate (padN s.size) 0 = bs ++ strsL (l.take (j + 1)) := by
        rw [HS1.out, strL]
        simp only [List.append_assoc]
      rw [eL] at hw13
      have HW13 := Lib.hid hw13
      have HB13 := Lib.hid (HB12.out.trans hb13)
      have HO13 := Lib.hid (HO12.out.trans ho13)
      clear hw13 hb13 ho13 HW12 HB12 HO12 HW11 HB11 HO11 ho12 hb12 hsrc12 eL
      refine ⟨trivial, ?_⟩
      refine wpAnyH_done (by kernel_rfl) ?_ _
      go_wp2_with fail
      refine ⟨⟨j + 1, by omega, ?_, HW13, HB13, HO13⟩, ?_⟩
      · rw [w64' (by have := HLL.out; omega)]; rfl
      · rw [w64' (by have := HLL.out; omega)]; simp [intOf]; omega
    · obtain rfl : j = l.length := by omega
      go_wp2_with fail
      go_end0
      rw [List.take_length] at HW
      exact ⟨rfl, HW.out, HB.out, HO.out⟩
end Go.Proofs.YtdehcojmgmjcmaaDoor
