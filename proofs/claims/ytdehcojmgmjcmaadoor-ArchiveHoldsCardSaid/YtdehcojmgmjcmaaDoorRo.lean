/- What holds between the rounds of reader.directory: the local node, its rows of names and of nodes. -/
import Derived.Test.YtdehcojmgmjcmaaDoorRr
import Derived.Laws.AppendOwn
namespace Go.Proofs.YtdehcojmgmjcmaaDoor
set_option linter.unusedVariables false
set_option linter.unusedSimpArgs false
open Go.RowKit QArchiveBack Go.Proofs.YtdehcojmgmjcmaaDoorW.PrintWords Go.Proofs.YtdehcojmgmjcmaaDoorW.PrintLast Go.Proofs.YtdehcojmgmjcmaaDoorW.PrintMore
section
variable {P : Program} {ops : Array Oper} {o : Oper} {a : Act} {Q : Exit → Act → World → Prop} {K : Act → World → Prop}
/-- append of one element, whose cells lie somewhere -/
theorem step_app {W : World} (base : Nat) (hw : Region.wanted o (yielded ops a.tmps) = true) {N : Option Tmp} (hN : o.dst = N) (s x : Operand) (t e : TypeId) (z : Value) (size bytes : Nat)
    (ho : o.op = .call { callee := .builtin .append, args := #[s, x], argTypes := #[t, t] })
    (ht : P.underlying t = some (.slice e)) (hinfo : (P.info? e).map (fun i => (i.zero, i.size, i.bytes)) = some (some z, size, bytes)) (hz : z.cells.size = size) (hs0 : 0 < size) (hb0 : 0 < bytes)
    (v : Value) (n : Nat) (xs ys : List Value) (hs : a.eval s = v) (ad : Addr) (hx : a.eval x = .slice (some ad) 1 1) (hys : ys.length = size) (h1 : ∀ u ∈ ys, u.oneCell' = true)
    (hc : ∀ j u, ys[j]? = some u → W.cell? (ad.add j) = some u)
    (HO : W.ownsRow base e size v n xs) (hbase : base ≤ W.heap.size) (hl : (n + 1) * bytes ≤ 140737488355328)
    (h : ∀ v1 w1, w1.ownsRow base e size v1 (n + 1) (xs ++ ys) → W.grownBy w1 v.ownBlock → (v1.ownBlock = v.ownBlock ∨ v1.ownBlock = some W.heap.size) → K (a.put N v1) w1) :
    if Region.wanted o (yielded ops a.tmps) = true then Oper.wp P o a W K Q else K (a.put N undef) W := by
  obtain ⟨i0, hi, hzz⟩ := Option.map_eq_some_iff.1 hinfo
  simp only [Prod.mk.injEq] at hzz
  obtain ⟨hz0, hz1, hz2⟩ := hzz
  have hlen : n + 1 ≤ 140737488355328 := Nat.le_trans (Nat.le_mul_of_pos_right _ hb0) hl
  rw [if_pos hw]
  subst hN
  obtain ⟨v1, w1, hr, hown, hg, _, hat⟩ := run_append_own_at (P := P) W base t o.type e i0 z size bytes ht hi hz0 hz1 hz2 hz hs0 v n xs HO ad 1 1 ys (by rw [hys]; simp) hc h1 (by simp only [maxLen]; omega) hl hbase
  unfold Oper.wp
  simp only [execOp, ho, resolve, invoke, builtin, Sem.run_bind, Sem.run_pure, Result.andThen_ok, List.map_toArray, List.map_cons, List.map_nil, hs, hx, hr]
  exact h v1 w1 hown hg hat
end
/-- the blocks in which what was read lies: of this call, none of the two rows' -/
def okE (B : Nat) (vN vX : Value) (k : Nat) : Prop := B ≤ k ∧ some k ≠ vN.ownBlock ∧ some k ≠ vX.ownBlock
/-- the directory that is being read: uN, uX what the local node bears, vN, vX the rows -/
structure DS (w W : World) (rb long gb B : Nat) (uN uX vN vX : Value) (ns : List ByteArray) (xs : List S26) (l : List Int) : Prop where
  nb : NB w W rb gb 2 false (.slice none 0 0) uN uX
  rd : RD W rb long l
  hn : W.ownsRow B 9 1 vN ns.length (encs Value.string ns)
  hx : ∃ inner, W.ownsRow B 26 5 vX xs.length inner ∧ Reps (fun x cs => Kd.FK k26 W (okE B vN vX) x cs) 5 xs inner
  hB : gb < B
  hW : B ≤ W.heap.size
section
variable {w W W' : World} {rb long gb B : Nat} {uN uX vN vX : Value} {ns : List ByteArray} {xs : List S26} {l l' : List Int}
theorem DS.keepN (h : DS w W rb long gb B uN uX vN vX ns xs l) (hm : ∀ k, B ≤ k → k < W.heap.size → W'.heap[k]? = W.heap[k]?) : W'.ownsRow B 9 1 vN ns.length (encs Value.string ns) :=
  own_move h.hn fun k hk => hm k (own_base h.hn k hk) (own_lt h.hn k hk)
theorem DS.keepX (h : DS w W rb long gb B uN uX vN vX ns xs l) (hm : ∀ k, B ≤ k → k < W.heap.size → W'.heap[k]? = W.heap[k]?) : ∃ inner, W'.ownsRow B 26 5 vX xs.length inner ∧ Reps (fun x cs => Kd.FK k26 W' (okE B vN vX) x cs) 5 xs inner := by
  obtain ⟨inner, ho, hr⟩ := h.hx
  exact ⟨inner, own_move ho fun k hk => hm k (own_base ho k hk) (own_lt ho k hk), hr.imp_ fun _ _ hp => Kd.FK_step hp fun k hk hlt => hm k hk.1 hlt⟩
/-- behind a call of the reader -/
theorem DS.call (h : DS w W rb long gb B uN uX vN vX ns xs l) (hg : W.grownBy W' (some rb)) (hr : RD W' rb long l') : DS w W' rb long gb B uN uX vN vX ns xs l' := by
  have hlt := h.nb.lt
  have hold := h.nb.old
  have hB := h.hB
  have hm : ∀ k, B ≤ k → k < W.heap.size → W'.heap[k]? = W.heap[k]? := fun k h1 h2 => hg.block k h2 (by intro e; injection e with e; omega)
  exact ⟨h.nb.call hg, hr, h.keepN hm, h.keepX hm, h.hB, Nat.le_trans h.hW hg.size⟩
theorem DS.below (h : DS w W rb long gb B uN uX vN vX ns xs l) (hb : Below W.heap.size W W') : DS w W' rb long gb B uN uX vN vX ns xs l :=
  ⟨h.nb.call (grown_of_below hb _), h.rd.below hb, h.keepN fun k _ h2 => hb.block k h2, h.keepX fun k _ h2 => hb.block k h2, h.hB, Nat.le_trans h.hW hb.size⟩
theorem DS.alloc (h : DS w W rb long gb B uN uX vN vX ns xs l) (o : Obj) : DS w (W.alloc o) rb long gb B uN uX vN vX ns xs l := h.below (below_alloc (Below.refl _ _) o)
theorem DS.set3 (h : DS w W rb long gb B uN uX vN vX ns xs l) (v : Value) : DS w (W.setCell ⟨gb, 3, none⟩ v) rb long gb B v uX vN vX ns xs l := by
  have hB := h.hB
  have hm : ∀ k, B ≤ k → k < W.heap.size → (W.setCell ⟨gb, 3, none⟩ v).heap[k]? = W.heap[k]? := fun k h1 _ => Below.heap_setCell W ⟨gb, 3, none⟩ v k (by show k ≠ gb; omega)
  exact ⟨h.nb.set3 v, h.nb.rd h.rd 3 v, h.keepN hm, h.keepX hm, h.hB, by simpa [World.setCell] using h.hW⟩
theorem DS.set4 (h : DS w W rb long gb B uN uX vN vX ns xs l) (v : Value) : DS w (W.setCell ⟨gb, 4, none⟩ v) rb long gb B uN v vN vX ns xs l := by
  have hB := h.hB
  have hm : ∀ k, B ≤ k → k < W.heap.size → (W.setCell ⟨gb, 4, none⟩ v).heap[k]? = W.heap[k]? := fun k h1 _ => Below.heap_setCell W ⟨gb, 4, none⟩ v k (by show k ≠ gb; omega)
  exact ⟨h.nb.set4 v, h.nb.rd h.rd 4 v, h.keepN hm, h.keepX hm, h.hB, by simpa [World.setCell] using h.hW⟩
/-- what is read lies apart from the row that an append leaves -/
theorem FK_app {x : S26} {cs : List Value} {v v1 : Value} {ok ok' : Nat → Prop} (h : Kd.FK k26 W ok x cs) (hg : W.grownBy W' v.ownBlock) (hat : v1.ownBlock = v.ownBlock ∨ v1.ownBlock = some W.heap.size) (hok : ∀ k, ok k → some k ≠ v.ownBlock) (hok' : ∀ k, ok k → some k ≠ v1.ownBlock → k < W.heap.size → ok' k) : Kd.FK k26 W' ok' x cs := by
  have h1 := Kd.FK_step (Kd.FK_bound h) (W1 := W') fun k hk hlt => hg.block k hlt (hok k hk.1)
  refine Kd.FK_mono h1 fun k hk => hok' k hk.1 ?_ hk.2
  rcases hat with e | e
  · rw [e]; exact hok k hk.1
  · rw [e]; intro e2; injection e2 with e2; have := hk.2; omega
theorem DS.apart (h : DS w W rb long gb B uN uX vN vX ns xs l) : (vN.ownBlock = none ∨ vN.ownBlock ≠ vX.ownBlock) ∧ (vX.ownBlock = none ∨ vX.ownBlock ≠ vN.ownBlock) := by
  obtain ⟨inner, ho, _⟩ := h.hx
  exact ⟨own_type_ne h.hn ho (by decide), own_type_ne ho h.hn (by decide)⟩
/-- a name is appended -/
theorem DS.appN (h : DS w W rb long gb B uN uX vN vX ns xs l) {v1 : Value} {m : ByteArray} (ho : W'.ownsRow B 9 1 v1 (ns.length + 1) (encs Value.string ns ++ [.string m])) (hg : W.grownBy W' vN.ownBlock) (hat : v1.ownBlock = vN.ownBlock ∨ v1.ownBlock = some W.heap.size) :
    DS w W' rb long gb B uN uX v1 vX (ns ++ [m]) xs l := by
  have hold := h.nb.old
  have hB := h.hB
  have hlt := h.nb.lt
  have hbl : ∀ k, vN.ownBlock = some k → B ≤ k := fun k hk => own_base h.hn k hk
  have hk1 : ∀ k, k < B → W'.heap[k]? = W.heap[k]? := fun k hk => hg.block k (by have := h.hW; omega) (fun e => by have := hbl k e.symm; omega)
  refine ⟨⟨⟨hg.os.trans h.nb.gr.os, hg.tape.trans h.nb.gr.tape, hg.output.trans h.nb.gr.output, Nat.le_trans h.nb.gr.size hg.size, fun k hk hr => (hk1 k (by omega)).trans (h.nb.gr.block k hk hr)⟩, (hk1 gb hB).trans h.nb.box, h.nb.old, h.nb.lt⟩, h.rd.move fun k hk => hk1 k (by omega), ?_, ?_, h.hB, Nat.le_trans h.hW hg.size⟩
  · rw [encs_append, List.length_append, List.length_singleton]; exact ho
  · obtain ⟨inner, hx, hr⟩ := h.hx
    refine ⟨inner, own_other hx hg h.apart.2, hr.imp_ fun _ _ hp => FK_app hp hg hat (fun k hk => hk.2.1) fun k hk h1 _ => ⟨hk.1, h1, hk.2.2⟩⟩
/-- a node is appended -/
theorem DS.appX (h : DS w W rb long gb B uN uX vN vX ns xs l) {v1 : Value} {x : S26} {cs inner : List Value} (hx : W.ownsRow B 26 5 vX xs.length inner) (hr : Reps (fun x cs => Kd.FK k26 W (okE B vN vX) x cs) 5 xs inner) (hK : Kd.FK k26 W (okE B vN vX) x cs)
    (ho : W'.ownsRow B 26 5 v1 (xs.length + 1) (inner ++ cs)) (hg : W.grownBy W' vX.ownBlock) (hat : v1.ownBlock = vX.ownBlock ∨ v1.ownBlock = some W.heap.size) :
    DS w W' rb long gb B uN uX vN v1 ns (xs ++ [x]) l := by
  have hold := h.nb.old
  have hB := h.hB
  have hlt := h.nb.lt
  have hbl : ∀ k, vX.ownBlock = some k → B ≤ k := fun k hk => own_base hx k hk
  have hk1 : ∀ k, k < B → W'.heap[k]? = W.heap[k]? := fun k hk => hg.block k (by have := h.hW; omega) (fun e => by have := hbl k e.symm; omega)
  refine ⟨⟨⟨hg.os.trans h.nb.gr.os, hg.tape.trans h.nb.gr.tape, hg.output.trans h.nb.gr.output, Nat.le_trans h.nb.gr.size hg.size, fun k hk hr => (hk1 k (by omega)).trans (h.nb.gr.block k hk hr)⟩, (hk1 gb hB).trans h.nb.box, h.nb.old, h.nb.lt⟩, h.rd.move fun k hk => hk1 k (by omega), own_other h.hn hg h.apart.1, ?_, h.hB, Nat.le_trans h.hW hg.size⟩
  refine ⟨inner ++ cs, by rw [List.length_append, List.length_singleton]; exact ho, ?_⟩
  have hst : ∀ y c, Kd.FK k26 W (okE B vN vX) y c → Kd.FK k26 W' (okE B vN v1) y c := fun y c hp => FK_app hp hg hat (fun k hk => hk.2.2) fun k hk h1 _ => ⟨hk.1, hk.2.1, h1⟩
  exact (hr.imp_ fun y c hp => hst y c hp).snoc (hst x cs hK) (k26.K_len (Kd.FK_now hK))
/-- the whole node, read -/
theorem DS.whole (h : DS w W rb long gb B vN vX vN vX ns xs l) : ∃ A3 c3 A4 c4, vN = .slice A3 ns.length c3 ∧ vX = .slice A4 xs.length c4 ∧ Kd.FK k26 W (fun k => B ≤ k) ⟨2, false, [], ns, xs⟩ [.int .i64 2, .bool false, .slice none 0 0, .slice A3 ns.length c3, .slice A4 xs.length c4] := by
  obtain ⟨inner, hx, hr⟩ := h.hx
  have hN : Kd.string.R 9 W B (fun k => B ≤ k) vN ns := Kd.R_of_own h.hn fun k hk => own_base h.hn k hk
  obtain ⟨A3, c3, e3, l3, _⟩ := Kd.R_reads hN
  subst e3
  obtain ⟨A4, c4, e4, l4, _⟩ : ∃ A c, vX = .slice A xs.length c ∧ xs.length ≤ c ∧ True := by
    rcases hx.2 with ⟨e, h0⟩ | ⟨g, cap, cur, e, _, _, h1, _⟩
    · exact ⟨none, 0, by rw [e, h0], by omega, trivial⟩
    · exact ⟨_, cap, e, h1, trivial⟩
  subst e4
  refine ⟨A3, c3, A4, c4, rfl, rfl, k26_mkF W _ ⟨2, false, [], ns, xs⟩ (Nat.le_refl _) (Kd.F_nil _ _ _) l3 (Kd.R_F hN) l4 fun W2 hW2 => ?_⟩
  have hx2 : W2.ownsRow B 26 5 (.slice A4 xs.length c4) xs.length inner := own_move hx fun k hk => hW2 k (own_base hx k hk) (own_lt hx k hk)
  have hr2 : Reps (k26.K W2) 5 xs inner := hr.imp_ fun y c hp => Kd.FK_now (Kd.FK_step hp fun k hk hlt => hW2 k hk.1 hlt)
  obtain ⟨A, c, e, hR⟩ := own_reads_row hx2 hr2 rfl
  injection e with e1 _ _
  subst e1
  exact hR
end
end Go.Proofs.YtdehcojmgmjcmaaDoor
