/- The walks of (*alloc.Set).Clone, Same and Count: a copy in new memory; whether two are alike; how many are in it. -/
import Derived.Test.YtaadbikaeofnoaaDoorAo
import Derived.Deep.MidRow
import Derived.DeepKeys
import Derived.Deep.RegionWith
namespace Go.Proofs.YtaadbikaeofnoaaDoor
open Go.RowKit

theorem setc_inj {n m : Int} {S T : Nat} (hS : S < 2 ^ (64 * 32)) (hT : T < 2 ^ (64 * 32)) (h : setc n S = setc m T) : n = m ∧ S = T := by
  have h0 := setc_head n S
  rw [h, setc_head] at h0
  refine ⟨by injection h0 with h0; injection h0 with _ h0; exact h0.symm, Nat.eq_of_testBit_eq fun i => ?_⟩
  by_cases hi : i < 64 * 32
  · have h1 := setc_word n S (k := i / 64) (by omega)
    rw [h, setc_word m T (by omega)] at h1
    have h2 : wd S (i / 64) = wd T (i / 64) := by injection h1 with h1; injection h1 with _ h1; exact h1.symm
    have h3 : dg 64 S (i / 64) = dg 64 T (i / 64) := by unfold wd at h2; omega
    have h4 := dg_testBit 64 S (i / 64) (i % 64)
    rw [h3, dg_testBit, show 64 * (i / 64) + i % 64 = i by omega] at h4
    simpa [show i % 64 < 64 by omega] using h4.symm
  · rw [hi_bit hS (by omega), hi_bit hT (by omega)]
theorem setc_one (n : Int) (S : Nat) : (setc n S).all (·.oneCell') = true := by
  apply Array.all_eq_true_iff_forall_mem.2
  intro v hv
  simp only [setc, List.mem_toArray, List.mem_cons, List.mem_map] at hv
  rcases hv with rfl | ⟨k, _, rfl⟩ <;> rfl
theorem set_info : (Tryd.prog.info? 35).map (·.size) = some 33 := by kernel_rfl
theorem SetAt.load {w : World} {b : Nat} {n : Int} {S : Nat} (h : SetAt w b n S) : (loadVar 35 ⟨b, 0, none⟩).run Tryd.prog w = .ok (.agg (setc n S)) w :=
  run_loadVar_row w b 35 35 _ (0, 0) _ h Tryd.underlying35 rfl (by rw [setc_size]; exact set_info)

set_option maxHeartbeats 400000 in
theorem clone_nil (w : World) : Calls Tryd.prog 13 #[.pointer none] w fun e w' => e = .returned (.pointer none) ∧ w = w' := by
  go_enter Tryd.func13, Tryd.ntmps13
  go_wp2_with (go_at_call 22; refine (none_nil _).mono ?_; rintro e w' ⟨rfl, rfl⟩)
  go_ret
  exact ⟨rfl, rfl⟩
set_option maxHeartbeats 400000 in
theorem clone_zero (b : Nat) (w : World) (hc : w.cell? ⟨b, 0, none⟩ = some (.int .i64 0)) : Calls Tryd.prog 13 #[.pointer (some ⟨b, 0, none⟩)] w fun e w' => e = .returned (.pointer none) ∧ w = w' := by
  go_enter Tryd.func13, Tryd.ntmps13
  go_wp2_with (go_at_call 22; refine (none_zero _ _ hc).mono ?_; rintro e w' ⟨rfl, rfl⟩)
  go_ret
  exact ⟨rfl, rfl⟩
theorem setRow_grown {w w1 : World} (h : w.grownBy w1 none) {g : Nat} (hg : w.heap.size ≤ g) (cs : Array Value) : w.grownBy (w1.setRow g cs) none :=
  ⟨h.os, h.tape, h.output, by rw [size_setRow]; exact h.size, fun i hi hr => (setRow_other w1 g i cs (by omega)).trans (h.block i hi hr)⟩
set_option maxHeartbeats 400000 in
theorem clone_ok (b : Nat) (n : Int) (S : Nat) (w : World) (hs : SetAt w b n S) (hn : 1 ≤ n) : Calls Tryd.prog 13 #[.pointer (some ⟨b, 0, none⟩)] w fun e w' => e = .returned (.pointer (some ⟨w.heap.size, 0, none⟩)) ∧ w.grownBy w' none ∧ SetAt w' w.heap.size n S := by
  have hc := hs.head
  have HS := Lib.hid hs; clear hs
  go_enter Tryd.func13, Tryd.ntmps13
  go_wp2_with (first
    | (go_at_call 22; refine (none_no _ _ _ hc hn).mono ?_; rintro e w' ⟨rfl, rfl⟩)
    | (refine wpList_load_row rfl 35 _ rfl b rfl 35 (setc n S) (0, 0) _ HS.out Tryd.underlying35 rfl (by rw [setc_size]; exact set_info) ?_)
    | (refine wpList_store_row rfl 35 _ _ rfl w.heap.size (setc n S) rfl rfl 35 _ (heap_alloc_new _ _) (by rw [setc_size]; exact set_info) (by rw [setc_size]; rfl) (setc_one n S) ?_))
  go_ret
  refine ⟨rfl, setRow_grown (grown_alloc _ _) (Nat.le_refl _) _, setRow_heap _ _ _ _ _ _ (heap_alloc_new _ _)⟩

/-! whether two are alike -/
theorem mapM_some {α β : Type} {f : α → Option β} {g : α → β} : ∀ (l : List α), (∀ a ∈ l, f a = some (g a)) → l.mapM f = some (l.map g)
  | [], _ => by simp
  | a :: l, h => by
    rw [List.mapM_cons, h a List.mem_cons_self, mapM_some l fun x hx => h x (List.mem_cons_of_mem _ hx)]
    rfl
def setl (n : Int) (S : Nat) : List Lit := .int .i64 n :: (List.range 32).map fun k => .int .u64 (wd S k)
theorem wd_wf (S k : Nat) : (Lit.int .u64 (wd S k)).wf = true := by
  have h0 := wd_nonneg S k
  have h1 := wd_lt S k
  simp [Lit.wf, IntKind.min, IntKind.max, IntKind.bits, IntKind.signed]
  omega
theorem setl_flat (l : List Nat) (f : Nat → Lit) : (l.map fun k => [f k]).flatten = l.map f := by
  induction l with
  | nil => rfl
  | cons a l ih => simp [ih]
theorem set_cells : Tryd.prog.cellsOf 35 = 33 ∧ Tryd.prog.cellsOf 33 = 32 ∧ Tryd.prog.cellsOf 32 = 1 ∧ Tryd.prog.cellsOf 3 = 1 := by
  refine ⟨?_, ?_, ?_, ?_⟩ <;> kernel_rfl
theorem key_int (d : Nat) (n : Int) (h : (Lit.int .i64 n).wf = true) : Tryd.prog.keyLits (d + 1) 3 [.int .i64 n] = some [.int .i64 n] := by
  unfold Program.keyLits
  rw [Tryd.underlying3]
  simp [h]
theorem key_word (d : Nat) (S k : Nat) : Tryd.prog.keyLits (d + 1) 32 [.int .u64 (wd S k)] = some [.int .u64 (wd S k)] := by
  unfold Program.keyLits
  rw [Tryd.underlying32]
  simp [wd_wf S k]
theorem key_words (d S : Nat) : Tryd.prog.keyLits (d + 2) 33 ((List.range 32).map fun k => .int .u64 (wd S k)) = some ((List.range 32).map fun k => .int .u64 (wd S k)) := by
  unfold Program.keyLits
  rw [Tryd.underlying33]
  simp only [set_cells.2.1, set_cells.2.2.1, List.length_map, List.length_range, if_true]
  rw [mapM_some (g := fun k => [Lit.int .u64 (wd S k)])]
  · rw [Option.map_some, setl_flat]
  · intro k hk
    have hk' : k < 32 := by simpa using hk
    rw [Nat.mul_one, ← List.map_drop, ← List.map_take]
    have : (List.drop k (List.range 32)).take 1 = [k] := by
      apply List.ext_getElem?
      intro i
      cases i with
      | zero => simp [hk']
      | succ i => simp; omega
    rw [this]
    exact key_word d S k
theorem key_set (d : Nat) (n : Int) (S : Nat) (h : (Lit.int .i64 n).wf = true) : Tryd.prog.keyLits (d + 3) 35 (setc n S).toList = some (setl n S) := by
  unfold Program.keyLits
  rw [Tryd.underlying35]
  have hl : (setc n S).toList.length = 33 := by rw [Array.length_toList, setc_size]
  have hw := key_words d S
  have hi := key_int (d + 1) n h
  simp only [set_cells.1, hl]
  rw [if_pos ⟨trivial, by kernel_rfl⟩]
  simp only [List.mapM_cons, List.mapM_nil, set_cells.2.1, set_cells.2.2.2, List.drop_zero]
  have e1 : (setc n S).toList.take 1 = [.int .i64 n] := by simp [setc]
  have e2 : ((setc n S).toList.drop 1).take 32 = (List.range 32).map fun k => .int .u64 (wd S k) := by
    simp only [setc, List.drop_one, List.tail_cons]
    rw [List.take_of_length_le (by simp)]
  rw [e1, e2, hi, hw]
  simp [setl]
theorem setl_inj {n m : Int} {S T : Nat} (h : setl n S = setl m T) : setc n S = setc m T := by
  have : ∀ n S, setc n S = ((setl n S).map fun | .int k i => Value.int k i | _ => .int .i64 0).toArray := fun n S => by
    simp only [setl, setc, List.map_cons, List.map_map]
    congr 1
  rw [this, this, h]
theorem key_type : Tryd.prog.keyTypeAt 3 35 = true := by kernel_rfl
theorem eql_set {n m : Int} {S T : Nat} (hn : (Lit.int .i64 n).wf = true) (hm : (Lit.int .i64 m).wf = true) (hS : S < 2 ^ (64 * 32)) (hT : T < 2 ^ (64 * 32)) (w : World) :
    (binOp .eql 35 (.agg (setc n S)) (.agg (setc m T))).run Tryd.prog w = .ok (.bool (decide (n = m ∧ S = T))) w := by
  obtain ⟨r, hr, hiff⟩ := run_equalIn_deep (P := Tryd.prog) 9997 3 35 key_type w 3 3 (.agg (setc n S)) (.agg (setc m T)) (setl n S) (setl m T) (by kernel_rfl) (by kernel_rfl) (key_set 0 n S hn) (key_set 0 m T hm)
  rw [run_eql_struct, show (10000 : Nat) = 9997 + 3 from rfl, hr]
  simp only [Result.andThen_ok]
  congr 2
  rw [Bool.eq_iff_iff, hiff, decide_eq_true_iff]
  constructor
  · intro h; exact setc_inj hS hT (setl_inj h)
  · rintro ⟨rfl, rfl⟩; rfl

theorem quiet_load {P : Program} {w : World} {o : Oper} {a : Act} {K : Act → Prop} (ty : TypeId) (x : Operand) (ho : o.op = .load ty x) (ad : Addr) (hx : a.eval x = .pointer (some ad)) (v : Value)
    (hr : ∀ m, (loadVar ty ad).run P (w.drewN m) = .ok v (w.drewN m)) (h : K (a.put o.dst v)) : o.quiet P a (fun w' => ∃ m, w' = w.drewN m) K :=
  ⟨v, fun w' ⟨m, hm⟩ => by
    subst hm
    unfold Oper.quietAt execOp
    simp only [ho, hx, Instr.loadAt, Instr.sureAddr, Sem.run_bind, Sem.run_pure, Result.andThen_ok, hr m]
    exact ⟨rfl, rfl⟩, h⟩
theorem quiet_wanted {P : Program} {C : World → Prop} {ops : Array Oper} {o : Oper} {a : Act} {K : Act → Prop} (hg : o.guard = none) (h : o.quiet P a C K) : if Region.wanted o (yielded ops a.tmps) then o.quiet P a C K else K (a.put o.dst undef) := by
  rw [if_pos (by simp [Region.wanted, hg])]
  exact h
set_option maxHeartbeats 400000 in
theorem same_ok (b c : Nat) (n m : Int) (S T : Nat) (w : World) (hs : SetAt w b n S) (ht : SetAt w c m T) (hn : 1 ≤ n) (hn2 : n ≤ 2048) (hm : 1 ≤ m) (hm2 : m ≤ 2048) (hS : S < 2 ^ (64 * 32)) (hT : T < 2 ^ (64 * 32)) :
    Calls Tryd.prog 14 #[.pointer (some ⟨b, 0, none⟩), .pointer (some ⟨c, 0, none⟩)] w fun e w' => e = .returned (.bool (decide (n = m) && decide (S = T))) ∧ w.grownBy w' none := by
  have hc := hs.head
  have hc2 := ht.head
  have hwf : ∀ n : Int, 1 ≤ n → n ≤ 2048 → (Lit.int .i64 n).wf = true := fun n h1 h2 => by
    simp [Lit.wf, IntKind.min, IntKind.max, IntKind.bits, IntKind.signed]; omega
  have HE := Lib.hid (eql_set (hwf n hn hn2) (hwf m hm hm2) hS hT)
  clear hwf hS hT
  have HL1 : Hid (∀ k, (loadVar 35 ⟨b, 0, none⟩).run Tryd.prog (w.drewN k) = .ok (.agg (setc n S)) (w.drewN k)) := Lib.hid fun k => SetAt.load (w := w.drewN k) hs
  have HL2 : Hid (∀ k, (loadVar 35 ⟨c, 0, none⟩).run Tryd.prog (w.drewN k) = .ok (.agg (setc m T)) (w.drewN k)) := Lib.hid fun k => SetAt.load (w := w.drewN k) ht
  clear hs ht
  go_enter Tryd.func14, Tryd.ntmps14
  go_wp2_with (first
    | (go_at_call_of 22 (Value.pointer (some ⟨b, 0, none⟩)); refine (none_no _ _ _ hc hn).mono ?_; rintro e w' ⟨rfl, rfl⟩)
    | (go_at_call_of 22 (Value.pointer (some ⟨c, 0, none⟩)); refine (none_no _ _ _ hc2 hm).mono ?_; rintro e w' ⟨rfl, rfl⟩))
  refine wp_region_quiet_lit (by kernel_rfl) (by kernel_rfl) ?_
  quiet_step (fail)
  quiet_step (fail)
  · refine wpQuiet_step (fun K hK => ?_)
    refine quiet_wanted rfl (quiet_load 35 _ rfl ⟨b, 0, none⟩ rfl _ HL1.out ?_)
    refine hK _ ?_; clear hK K
    quiet_step (fail)
    quiet_step (fail)
    refine wpQuiet_step (fun K hK => ?_)
    refine quiet_wanted rfl (quiet_load 35 _ rfl ⟨c, 0, none⟩ rfl _ HL2.out ?_)
    refine hK _ ?_; clear hK K
    have heq := HE.out
    have hgd : Tryd.prog.eqGuardType Tryd.prog.depth 35 = false := by kernel_rfl
    quiet_step (fail)
    quiet_step (fail)
    refine wpQuiet_nil ?_
    intro _ hw'
    obtain ⟨nq, hw''⟩ := hw'
    subst hw''
    clear heq hgd
    go_wp2
    go_ret
    exact ⟨rfl, ⟨rfl, rfl, rfl, Nat.le_refl _, fun _ _ _ => rfl⟩⟩
theorem same_yes (b c : Nat) (n : Int) (S : Nat) (w : World) (hs : SetAt w b n S) (ht : SetAt w c n S) (hn : 1 ≤ n) (hn2 : n ≤ 2048) (hS : S < 2 ^ (64 * 32)) :
    Calls Tryd.prog 14 #[.pointer (some ⟨b, 0, none⟩), .pointer (some ⟨c, 0, none⟩)] w fun e w' => e = .returned (.bool true) ∧ w.grownBy w' none :=
  (same_ok b c n n S S w hs ht hn hn2 hn hn2 hS hS).mono fun _ _ ⟨h1, h2⟩ => ⟨by rw [h1]; simp, h2⟩
theorem same_no (b c : Nat) (n : Int) (S T : Nat) (w : World) (hs : SetAt w b n S) (ht : SetAt w c n T) (hn : 1 ≤ n) (hn2 : n ≤ 2048) (hS : S < 2 ^ (64 * 32)) (hT : T < 2 ^ (64 * 32)) (hne : S ≠ T) :
    Calls Tryd.prog 14 #[.pointer (some ⟨b, 0, none⟩), .pointer (some ⟨c, 0, none⟩)] w fun e w' => e = .returned (.bool false) ∧ w.grownBy w' none :=
  (same_ok b c n n S T w hs ht hn hn2 hn hn2 hS hT).mono fun _ _ ⟨h1, h2⟩ => ⟨by rw [h1]; simp [hne], h2⟩

/-! how many are in it -/
def words (S : Nat) : Array Value := ((List.range 32).map fun k => Value.int .u64 (wd S k)).toArray
theorem words_at (S : Nat) {k : Nat} (hk : k < 32) : (words S)[k]? = some (.int .u64 (wd S k)) := by simp [words, hk]
theorem index_word (S : Nat) (k : Int) (h0 : 0 ≤ k) (h1 : k < 32) (w : World) : (Instr.index 33 (.agg (words S)) (.int .i64 k)).run Tryd.prog w = .ok (.int .u64 (wd S k.toNat)) w := by
  have hw := words_at S (k := k.toNat) (by omega)
  simp [Instr.index, run_underlying Tryd.underlying33, asIntOf, h0, h1, go_sem, part, hw]
theorem SetAt.range {w : World} {b : Nat} {n : Int} {S : Nat} (h : SetAt w b n S) : w.rangeAt b 1 (words S).toList := by
  intro j v hj
  have hlt : j < 32 := by
    have := (List.getElem?_eq_some_iff.1 hj).1
    simpa [words] using this
  rw [h.word hlt, ← words_at S hlt, ← hj]
  simp
theorem words_length (S : Nat) : (words S).toList.length = 32 := by simp [words]
theorem cnt_bd (S k : Nat) : (cnt S k : Int) ≤ k := by have := cnt_le S k; omega
theorem ret_ii {a b c d : Int} {k l : IntKind} (h : a = b) (h' : c = d) : Ending.returned (.tuple #[.int k a, .int l c]) = .returned (.tuple #[.int k b, .int l d]) := by rw [h, h']
def CountRel (S : Nat) (i v : Value) : Prop := ∃ k : Int, 0 ≤ k ∧ k ≤ 32 ∧ i = .int .i64 k ∧ v = .int .i64 (cnt S (64 * k.toNat))
theorem count_step (S : Nat) (k : Int) (h0 : 0 ≤ k) : (cnt S (64 * k.toNat) : Int) + cnt (wd S k.toNat).toNat 64 = cnt S (64 * (k + 1).toNat) := by
  rw [show (k + 1).toNat = k.toNat + 1 by omega, cnt_word]
  unfold wd
  rw [Int.toNat_natCast]
  omega
set_option maxHeartbeats 400000 in
theorem count_ok (b : Nat) (n : Int) (S : Nat) (w : World) (hs : SetAt w b n S) (hn : 1 ≤ n) (hn2 : n ≤ 2048) : Calls Tryd.prog 9 #[.pointer (some ⟨b, 0, none⟩)] w fun e w' => e = .returned (.tuple #[.int .i64 (cnt S (64 * 32)), .int .i64 (n - cnt S (64 * 32))]) ∧ w.grownBy w' none := by
  have hc := hs.head
  have HR := Lib.hid hs.range
  clear hs
  go_enter Tryd.func9, Tryd.ntmps9
  go_wp2_with (first
    | (go_at_call 22; refine (none_no _ _ _ hc hn).mono ?_; rintro e w' ⟨rfl, rfl⟩)
    | (refine wpList_load_mid rfl 33 _ rfl b 1 rfl _ _ HR.out Tryd.underlying33 rfl (by rw [words_length]; kernel_rfl) ?_))
  go_loop [2, 5, 12] (fun v _ i => CountRel S i v) (fun _ _ i => (32 - intOf i).toNat)
  case atStart => exact ⟨0, by omega, by omega, rfl, by simp [cnt]⟩
  case round =>
    obtain ⟨k, hk0, hk1, rfl, rfl⟩ := hrel
    have c0 : (0 : Int) ≤ cnt S (64 * k.toNat) := by omega
    have c1 : (cnt S (64 * k.toNat) : Int) ≤ 2048 := by have := cnt_le S (64 * k.toNat); omega
    by_cases hlt : k < 32
    · have hi := index_word S k hk0 hlt
      have v0 := wd_nonneg S k.toNat
      have v1 := wd_lt S k.toNat
      have HS := Lib.hid (count_step S k hk0)
      have d0 : (0 : Int) ≤ cnt (wd S k.toNat).toNat 64 := by omega
      have d1 : (cnt (wd S k.toNat).toNat 64 : Int) ≤ 64 := by have := cnt_le (wd S k.toNat).toNat 64; omega
      generalize wd S k.toNat = x at hi v0 v1 HS d0 d1
      generalize (cnt S (64 * k.toNat) : Int) = u at HS c0 c1
      go_wp2_with (go_at_call 24; refine (ones_calls _ _ v0 v1).mono ?_; rintro e w' ⟨rfl, rfl⟩)
      go_round
      case rel => exact ⟨k + 1, by omega, by omega, rfl, by rw [← HS.out]⟩
      case measure => simp [intOf]; omega
    · obtain rfl : k = 32 := by omega
      have e32 : (32 : Int).toNat = 32 := rfl
      rw [e32] at c0 c1 ⊢
      generalize hu : (cnt S (64 * 32) : Int) = u at c0 c1 ⊢
      have HU := Lib.hid hu
      clear e32 hu
      go_wp2
      go_quiet (fail)
      go_wp2
      go_ret2
      exact ⟨ret_ii HU.out.symm (by rw [HU.out]), ⟨rfl, rfl, rfl, Nat.le_refl _, fun _ _ _ => rfl⟩⟩
end Go.Proofs.YtaadbikaeofnoaaDoor
