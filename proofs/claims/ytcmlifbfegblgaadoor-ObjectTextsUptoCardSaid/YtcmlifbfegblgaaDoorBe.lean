/- object.Read: an info out of its text. -/
import Derived.Test.YtcmlifbfegblgaaDoorBd
import Derived.Test.YtcmlifbfegblgaaDoorBt
namespace Go.Proofs.YtcmlifbfegblgaaDoor
set_option linter.unusedVariables false
set_option linter.unusedSimpArgs false
open Go.RowKit Go.Proofs.YtcmlifbfegblgaaDoorW.PrintWords Go.Proofs.YtcmlifbfegblgaaDoorW.PrintLast Go.Proofs.YtcmlifbfegblgaaDoorW.PrintMore
open Go.Proofs.YtcmlifbfegblgaaDoor.QObjectTexts
attribute [local go_sem] Oper.semAt_some

/-- What the lines behind one another tell. -/
structure Told where
  hash : ByteArray
  deriver : ByteArray
  refs : List ByteArray
def trimNl (s : ByteArray) : ByteArray := ⟨(Lib.trimSuffix s.data.toList [10]).toArray⟩
def wHash : ByteArray := ⟨#[104, 97, 115, 104]⟩
def wDer : ByteArray := ⟨#[100, 101, 114, 105, 118, 101, 114]⟩
def wRef : ByteArray := ⟨#[114, 101, 102]⟩
def tell (t : Told) (line : ByteArray) : Told :=
  if wordOf (trimNl line) = wHash then { t with hash := restOf (trimNl line) }
  else if wordOf (trimNl line) = wDer then { t with deriver := restOf (trimNl line) }
  else if wordOf (trimNl line) = wRef then { t with refs := t.refs ++ [restOf (trimNl line)] }
  else t
def told (ls : List ByteArray) : Told := ls.foldl tell ⟨⟨#[]⟩, ⟨#[]⟩, []⟩
theorem told_snoc (ls : List ByteArray) (x : ByteArray) : told (ls ++ [x]) = tell (told ls) x := by simp [told]
theorem told_nil : told [] = ⟨⟨#[]⟩, ⟨#[]⟩, []⟩ := rfl

theorem lnsA_len : ∀ (l acc : List UInt8), (lnsA acc l).length ≤ acc.length + l.length ∧ ∀ x ∈ lnsA acc l, x.length ≤ acc.length + l.length
  | [], acc => by
    unfold lnsA
    split
    · simp
    · rename_i h
      have : 0 < acc.length := List.length_pos_iff.2 h
      exact ⟨by first | (simp; done) | (simp; omega), fun x hx => by simp at hx; rw [hx]; simp⟩
  | b :: r, acc => by
    unfold lnsA
    split
    · have ih := lnsA_len r []
      refine ⟨by have := ih.1; simp at this ⊢; omega, fun x hx => ?_⟩
      rcases List.mem_cons.1 hx with rfl | hx
      · first | (simp; done) | (simp; omega)
      · have := ih.2 x hx
        simp at this ⊢
        omega
    · have ih := lnsA_len r (acc ++ [b])
      refine ⟨by have := ih.1; simp at this ⊢; omega, fun x hx => ?_⟩
      have := ih.2 x hx
      simp at this ⊢
      omega
theorem lines_size (s x : ByteArray) (h : x ∈ linesOf s) : x.size ≤ s.size := by
  obtain ⟨l, hl, rfl⟩ := List.mem_map.1 h
  have := (lnsA_len s.data.toList []).2 l hl
  simp at this
  show l.toArray.size ≤ s.data.size
  simpa using this
theorem lines_len (s : ByteArray) : (linesOf s).length ≤ s.size := by
  have := (lnsA_len s.data.toList []).1
  unfold linesOf
  rw [List.length_map]
  simp at this
  exact this
theorem trimNl_size (s : ByteArray) : (trimNl s).size ≤ s.size := by
  unfold trimNl Lib.trimSuffix
  show (List.toArray _).size ≤ s.data.size
  split
  · simp
  · simp
theorem told_len : ∀ ls : List ByteArray, ∀ t, (ls.foldl tell t).refs.length ≤ t.refs.length + ls.length
  | [], t => by simp
  | x :: r, t => by
    have ih := told_len r (tell t x)
    have h1 : (tell t x).refs.length ≤ t.refs.length + 1 := by unfold tell; split <;> (try split) <;> (try split) <;> simp
    simp only [List.foldl_cons, List.length_cons]
    omega
theorem find_none (k : ByteArray) (bi : Nat) (h1 : k ≠ wHash) (h2 : k ≠ wDer) (h3 : k ≠ wRef) : Instr.findNow .string (.string k) [{ key := Value.string wHash, val := Value.func (Fn.func 20) #[] #[.pointer (some ⟨bi, 0, none⟩)], born := 0 }, { key := Value.string wDer, val := Value.func (Fn.func 21) #[] #[.pointer (some ⟨bi, 0, none⟩)], born := 1 }, { key := Value.string wRef, val := Value.func (Fn.func 22) #[] #[.pointer (some ⟨bi, 0, none⟩)], born := 2 }] 0 = some none := by
  have e : ∀ a b : ByteArray, a ≠ b → (a == b) = false := fun a b h => by
    cases hc : (a == b) with
    | false => rfl
    | true =>
      have h' : (a.data == b.data) = true := hc
      exact absurd (ByteArray.ext (eq_of_beq h')) h
  simp only [Instr.findNow, Instr.sameNow, e _ _ h1, e _ _ h2, e _ _ h3]
theorem grownBy_drewN (W : World) (q : Nat) : W.grownBy (W.drewN q) none := ⟨rfl, rfl, rfl, Nat.le_refl _, fun _ _ _ => rfl⟩
theorem keeps_drewN (W : World) (q : Nat) : KeepsOthers W (W.drewN q) := ⟨Nat.le_refl _, fun _ _ h _ => h⟩
theorem restOf_size (s : ByteArray) : (restOf s).size ≤ s.size := by
  unfold restOf
  cases blank s with
  | none => exact Nat.zero_le _
  | some k => simp
theorem told_short (M : Nat) : ∀ (ls : List ByteArray) (t : Told), (∀ x ∈ ls, x.size ≤ M) → t.hash.size ≤ M → t.deriver.size ≤ M → (∀ x ∈ t.refs, x.size ≤ M) →
    (ls.foldl tell t).hash.size ≤ M ∧ (ls.foldl tell t).deriver.size ≤ M ∧ ∀ x ∈ (ls.foldl tell t).refs, x.size ≤ M
  | [], t, _, h1, h2, h3 => ⟨h1, h2, h3⟩
  | x :: r, t, hl, h1, h2, h3 => by
    have hx : (restOf (trimNl x)).size ≤ M := Nat.le_trans (restOf_size _) (Nat.le_trans (trimNl_size x) (hl x (by simp)))
    have hr : ∀ y ∈ r, y.size ≤ M := fun y hy => hl y (by simp [hy])
    rw [List.foldl_cons]
    unfold tell
    split
    · exact told_short M r _ hr hx h2 h3
    · split
      · exact told_short M r _ hr h1 hx h3
      · split
        · refine told_short M r _ hr h1 h2 fun y hy => ?_
          rcases List.mem_append.1 hy with h | h
          · exact h3 y h
          · rw [List.mem_singleton.1 h]; exact hx
        · exact told_short M r _ hr h1 h2 h3
theorem told_sizes (s : ByteArray) (hs : s.size ≤ 16777216) : (told (linesOf s)).hash.size ≤ 16777216 ∧ (told (linesOf s)).deriver.size ≤ 16777216 ∧ Short (told (linesOf s)).refs ∧ (told (linesOf s)).refs.length ≤ 16777216 := by
  have h := told_short 16777216 (linesOf s) ⟨⟨#[]⟩, ⟨#[]⟩, []⟩ (fun x hx => Nat.le_trans (lines_size s x hx) hs) (by decide) (by decide) (by simp)
  refine ⟨h.1, h.2.1, fun i => ?_, ?_⟩
  · rcases Nat.lt_or_ge i (told (linesOf s)).refs.length with hi | hi
    · have e : (told (linesOf s)).refs.getD i ByteArray.empty = (told (linesOf s)).refs[i] := by simp [hi, List.getD]
      rw [e]
      exact h.2.2 _ (List.getElem_mem hi)
    · have e : (told (linesOf s)).refs.getD i ByteArray.empty = ByteArray.empty := by simp [List.getD, hi]
      rw [e]
      decide
  · have h1 := told_len (linesOf s) ⟨⟨#[]⟩, ⟨#[]⟩, []⟩
    have h2 := lines_len s
    simp only [List.length_nil] at h1
    unfold told
    omega
theorem size_putObj (w : World) (l : Nat) (o : Obj) : (w.putObj l o).heap.size = w.heap.size := by simp [World.putObj]
theorem below_putObj {B : Nat} {w0 w : World} (h : Below B w0 w) {l : Nat} (hl : B ≤ l) (o : Obj) : Below B w0 (w.putObj l o) :=
  h.trans ⟨rfl, rfl, rfl, by rw [size_putObj]; exact Nat.le_refl _, fun k hk => World.putObj_heap_other (by omega)⟩
/-- The words' map. -/
def wordsMap (bi : Nat) : Obj := .map #[{ key := Value.string wHash, val := Value.func (Fn.func 20) #[] #[.pointer (some ⟨bi, 0, none⟩)], born := 0 }, { key := Value.string wDer, val := Value.func (Fn.func 21) #[] #[.pointer (some ⟨bi, 0, none⟩)], born := 1 }, { key := Value.string wRef, val := Value.func (Fn.func 22) #[] #[.pointer (some ⟨bi, 0, none⟩)], born := 2 }] 3
/-- What stands behind some lines: n is the call's first block (the result), n + 1 the info, n + 2 the map, n + 3 its variable, n + 4 the iterator's box; the references' rows lie from n + 5 on. -/
structure RI (w : World) (p : ByteArray) (pre : List ByteArray) (W : World) : Prop where
  below : Below w.heap.size w W
  size : w.heap.size + 5 ≤ W.heap.size
  zero : InfoAt W w.heap.size ⟨#[]⟩ ⟨#[]⟩ ⟨#[]⟩ (.slice none 0 0)
  map : W.heap[w.heap.size + 2]? = some (wordsMap (w.heap.size + 1))
  var : W.heap[w.heap.size + 3]? = some (.cells #[.map (some (w.heap.size + 2))] 51 (0, 0))
  info : ∃ v, InfoAt W (w.heap.size + 1) p (told pre).hash (told pre).deriver v ∧ W.ownsRow (w.heap.size + 5) 9 1 v (told pre).refs.length (strs (told pre).refs)
theorem RI.turn {w : World} {p : ByteArray} {pre : List ByteArray} {A B : World} {row : Option Nat} (h : RI w p pre A) (hg : A.grownBy B row) (hr : ∀ r, row = some r → r = w.heap.size + 4 ∨ (w.heap.size + 5 ≤ r ∧ ∃ o : Obj, A.heap[r]? = some o ∧ o.isCells = false)) : RI w p pre B := by
  have hk : ∀ k, k < w.heap.size + 4 → B.heap[k]? = A.heap[k]? := fun k hk => hg.block k (by have := h.size; omega) (fun e => by rcases hr k e.symm with h1 | ⟨h1, _⟩ <;> omega)
  refine ⟨h.below.grown hg (by have := h.size; omega) (fun k e => by rcases hr k e with h1 | ⟨h1, _⟩ <;> omega), Nat.le_trans h.size hg.size, (hk _ (by omega)).trans h.zero, (hk _ (by omega)).trans h.map, (hk _ (by omega)).trans h.var, ?_⟩
  obtain ⟨v, h1, h2⟩ := h.info
  refine ⟨v, (hk _ (by omega)).trans h1, h2.kept hg ?_⟩
  cases row with
  | none =>
    rcases h2.2 with ⟨rfl, _⟩ | ⟨g, _, _, rfl, _⟩
    · left; rfl
    · right; simp [Value.ownBlock]
  | some r =>
    rcases h2.2 with ⟨rfl, _⟩ | ⟨g, _, _, rfl, g1, g2, _⟩
    · left; rfl
    · right
      intro e
      obtain rfl : g = r := by simpa [Value.ownBlock] using e
      rcases hr g rfl with h1 | ⟨_, o, ho, hc⟩
      · omega
      · rw [g2] at ho; cases ho; simp [Obj.isCells] at hc
theorem RI.step {w : World} {p x : ByteArray} {pre : List ByteArray} {A B : World} (h : RI w p pre A) (ht : Turned (w.heap.size + 5) (w.heap.size + 1) A B)
    (hi : ∃ v, InfoAt B (w.heap.size + 1) p (tell (told pre) x).hash (tell (told pre) x).deriver v ∧ B.ownsRow (w.heap.size + 5) 9 1 v (tell (told pre) x).refs.length (strs (tell (told pre) x).refs)) : RI w p (pre ++ [x]) B := by
  rw [← told_snoc] at hi
  exact ⟨h.below.trans (ht.below _ (by omega)), Nat.le_trans h.size ht.others.size, (ht.block _ (by omega) (by omega)).trans h.zero, (ht.block _ (by omega) (by omega)).trans h.map, (ht.block _ (by omega) (by omega)).trans h.var, hi⟩
theorem own_apart {W : World} {b e n : Nat} {v : Value} {xs : List Value} (h : W.ownsRow (b + 5) e 1 v n xs) : v.ownBlock = none ∨ v.ownBlock ≠ some (b + 1) := by
  rcases h.2 with ⟨rfl, _⟩ | ⟨g, _, _, rfl, h1, _⟩
  · left; rfl
  · right; simp [Value.ownBlock]; omega
theorem set4 {w : World} {b : Nat} {x0 x1 x2 x3 : Value} {T : TypeId} (y0 y1 y2 y3 : Value) (h : w.heap[b]? = some (.cells #[x0, x1, x2, x3] T (0, 0))) :
    ((((w.setCell ⟨b, 0, none⟩ y0).setCell ⟨b, 1, none⟩ y1).setCell ⟨b, 2, none⟩ y2).setCell ⟨b, 3, none⟩ y3).heap[b]? = some (.cells #[y0, y1, y2, y3] T (0, 0)) :=
  row_set _ b _ T (0, 0) 3 y3 (row_set _ b _ T (0, 0) 2 y2 (row_set _ b _ T (0, 0) 1 y1 (row_set _ b _ T (0, 0) 0 y0 h)))
theorem set4_other {w : World} {b : Nat} (y0 y1 y2 y3 : Value) (k : Nat) (h : k ≠ b) :
    ((((w.setCell ⟨b, 0, none⟩ y0).setCell ⟨b, 1, none⟩ y1).setCell ⟨b, 2, none⟩ y2).setCell ⟨b, 3, none⟩ y3).heap[k]? = w.heap[k]? :=
  (Below.heap_setCell _ _ _ k h).trans ((Below.heap_setCell _ _ _ k h).trans ((Below.heap_setCell _ _ _ k h).trans (Below.heap_setCell _ _ _ k h)))
theorem set4_below {B : Nat} {w0 w : World} {b : Nat} (y0 y1 y2 y3 : Value) (h : Below B w0 w) (hb : B ≤ b) : Below B w0 ((((w.setCell ⟨b, 0, none⟩ y0).setCell ⟨b, 1, none⟩ y1).setCell ⟨b, 2, none⟩ y2).setCell ⟨b, 3, none⟩ y3) :=
  (((h.setCell (p := ⟨b, 0, none⟩) hb y0).setCell (p := ⟨b, 1, none⟩) hb y1).setCell (p := ⟨b, 2, none⟩) hb y2).setCell (p := ⟨b, 3, none⟩) hb y3
/-- The end of a call that hands back an info out of its own cell. -/
theorem read_end {w w7 : World} {n D : Nat} {y0 y1 y2 y3 : Value} (hn : n = w.heap.size) (hz : w7.heap[n]? = some (.cells #[.string ⟨#[]⟩, .string ⟨#[]⟩, .string ⟨#[]⟩, .slice none 0 0] 24 (0, 0))) (hb : Below w.heap.size w w7) (hD : n + 5 ≤ D) (hK : w7.heap[D]? = some (.deferred (some []))) :
    (loadVar 24 ⟨n, 0, none⟩).run Tryd.prog ((((((w7.setCell ⟨n, 0, none⟩ y0).setCell ⟨n, 1, none⟩ y1).setCell ⟨n, 2, none⟩ y2).setCell ⟨n, 3, none⟩ y3)).putObj D (.deferred none)) = .ok (.agg #[y0, y1, y2, y3]) ((((((w7.setCell ⟨n, 0, none⟩ y0).setCell ⟨n, 1, none⟩ y1).setCell ⟨n, 2, none⟩ y2).setCell ⟨n, 3, none⟩ y3)).putObj D (.deferred none)) ∧
    Below w.heap.size w ((((((w7.setCell ⟨n, 0, none⟩ y0).setCell ⟨n, 1, none⟩ y1).setCell ⟨n, 2, none⟩ y2).setCell ⟨n, 3, none⟩ y3)).putObj D (.deferred none)) ∧
    ∀ (v : Value) (len : Nat) (xs : List Value), w7.ownsRow (n + 5) 9 1 v len xs → ((((((w7.setCell ⟨n, 0, none⟩ y0).setCell ⟨n, 1, none⟩ y1).setCell ⟨n, 2, none⟩ y2).setCell ⟨n, 3, none⟩ y3)).putObj D (.deferred none)).ownsRow w.heap.size 9 1 v len xs := by
  have hi : (Tryd.prog.info? 24).map (·.size) = some (#[y0, y1, y2, y3] : Array Value).size := by kernel_rfl
  refine ⟨run_loadVar_row (P := Tryd.prog) _ n 24 24 _ (0, 0) _ ((World.putObj_heap_other (by omega)).trans (set4 y0 y1 y2 y3 hz)) Tryd.underlying24 rfl hi, below_putObj (set4_below y0 y1 y2 y3 hb (by omega)) (by omega) _, ?_⟩
  intro v len xs ho
  refine ⟨ho.1, ?_⟩
  rcases ho.2 with h2 | ⟨g, cap, cur, h2, h3, h4, h5⟩
  · exact .inl h2
  · refine .inr ⟨g, cap, cur, h2, by omega, ?_, h5⟩
    rw [World.putObj_heap_other (by intro e; subst e; rw [hK] at h4; cases h4), set4_other y0 y1 y2 y3 g (by omega)]
    exact h4
theorem lines_of (s : ByteArray) (w : World) : Calls Tryd.prog 23 #[.string s] w fun e w' => e = .returned (.func (.func 45) #[] #[.pointer (some ⟨w.heap.size, 0, none⟩)]) ∧ w' = w.alloc (.cells #[.string s] 9) := by
  go_enter Tryd.func23, Tryd.ntmps23
  go_wp2
  go_ret
  exact ⟨rfl, rfl⟩
set_option maxHeartbeats 4000000 in
set_option maxRecDepth 100000 in
theorem read_of (p s : ByteArray) (w : World) (hp : p.size ≤ 16777216) (hs : s.size ≤ 16777216) (T : Tabs w) :
    Calls Tryd.prog 7 #[.string p, .string s] w fun e w' => ∃ (h d : ByteArray) (l : List ByteArray) (v : Value) (x : Int), e = .returned (.tuple #[.agg #[.string (if x = 0 then p else ⟨#[]⟩), .string h, .string d, v], .int .i64 x]) ∧ Below w.heap.size w w' ∧ w'.ownsRow w.heap.size 9 1 v l.length (strs l) ∧
      ((InfoOk p (told (linesOf s)).hash (told (linesOf s)).deriver (told (linesOf s)).refs ∧ textOf (told (linesOf s)).hash (told (linesOf s)).deriver (told (linesOf s)).refs = s ∧ x = 0 ∧ h = (told (linesOf s)).hash ∧ d = (told (linesOf s)).deriver ∧ l = (told (linesOf s)).refs) ∨
       (¬ (InfoOk p (told (linesOf s)).hash (told (linesOf s)).deriver (told (linesOf s)).refs ∧ textOf (told (linesOf s)).hash (told (linesOf s)).deriver (told (linesOf s)).refs = s) ∧ x = 10 ∧ h = ⟨#[]⟩ ∧ d = ⟨#[]⟩ ∧ l = [])) := by
  have HT := Lib.hid T
  clear T
  refine (callsIn_wide (n := 6)).1 ?_
  refine callsIn_of_wp_marks Tryd.func7 rfl trivial ?_ rfl
  simp only [Tryd.ntmps7, List.size_toArray, List.length_cons, List.length_nil, Nat.reduceAdd, Nat.reduceSub, Array.replicate_succ, Array.replicate_zero, List.push_toArray, List.append_toArray, List.nil_append, List.cons_append]
  gi_wp2
  have hi0 : InfoAt ((w.alloc (.cells #[.string ⟨#[]⟩, .string ⟨#[]⟩, .string ⟨#[]⟩, .slice none 0 0] 24)).alloc (.cells #[.string p, .string ⟨#[]⟩, .string ⟨#[]⟩, .slice none 0 0] 24)) (w.heap.size + 1) p ⟨#[]⟩ ⟨#[]⟩ (.slice none 0 0) := heap_alloc2_new w _ _
  have hz0 : InfoAt ((w.alloc (.cells #[.string ⟨#[]⟩, .string ⟨#[]⟩, .string ⟨#[]⟩, .slice none 0 0] 24)).alloc (.cells #[.string p, .string ⟨#[]⟩, .string ⟨#[]⟩, .slice none 0 0] 24)) w.heap.size ⟨#[]⟩ ⟨#[]⟩ ⟨#[]⟩ (.slice none 0 0) := heap_alloc2_old w _ _
  have hb0 : Below w.heap.size w ((w.alloc (.cells #[.string ⟨#[]⟩, .string ⟨#[]⟩, .string ⟨#[]⟩, .slice none 0 0] 24)).alloc (.cells #[.string p, .string ⟨#[]⟩, .string ⟨#[]⟩, .slice none 0 0] 24)) := ((Below.refl _ _).alloc (Nat.le_refl _) _).alloc (by simp) _
  have hs0 : ((w.alloc (.cells #[.string ⟨#[]⟩, .string ⟨#[]⟩, .string ⟨#[]⟩, .slice none 0 0] 24)).alloc (.cells #[.string p, .string ⟨#[]⟩, .string ⟨#[]⟩, .slice none 0 0] 24)).heap.size = w.heap.size + 2 := by simp
  revert hi0 hz0 hb0 hs0
  generalize ((w.alloc (.cells #[.string ⟨#[]⟩, .string ⟨#[]⟩, .string ⟨#[]⟩, .slice none 0 0] 24)).alloc (.cells #[.string p, .string ⟨#[]⟩, .string ⟨#[]⟩, .slice none 0 0] 24)) = w1
  intro hi0 hz0 hb0 hs0
  have HI0 := Lib.hid hi0
  have HZ0 := Lib.hid hz0
  have HB0 := Lib.hid hb0
  have HS0 := Lib.hid hs0
  clear hi0 hz0 hb0 hs0
  rw [show (Instr.makeMap 51 none).run Tryd.prog w1 = .ok (.map (some w1.heap.size)) (w1.alloc (.map #[] 0)) from rfl]
  gi_wp2_with fail
  have q0 : (w1.alloc (.map #[] 0)).heap[w1.heap.size]? = some (.map #[] 0) := heap_alloc_new w1 _
  have hb1 : Below (w.heap.size + 2) w1 (w1.alloc (.map #[] 0)) := ((Below.refl _ _).alloc (by rw [HS0.out]; exact Nat.le_refl _) _)
  have hs1 : (w1.alloc (.map #[] 0)).heap.size = w.heap.size + 3 := by rw [World.size_alloc, HS0.out]
  revert q0 hb1 hs1
  generalize w1.alloc (.map #[] 0) = w2
  intro q0 hb1 hs1
  rw [map_put w2 w1.heap.size 0 #[] _ _ q0 rfl]
  gi_wp2_with fail
  rw [map_put (w2.putObj w1.heap.size (.map #[{ key := Value.string ⟨#[104, 97, 115, 104]⟩, val := Value.func (Fn.func 20) #[] #[.pointer (some ⟨w.heap.size + 1, 0, none⟩)], born := 0 }] 1)) w1.heap.size 1 #[{ key := Value.string ⟨#[104, 97, 115, 104]⟩, val := Value.func (Fn.func 20) #[] #[.pointer (some ⟨w.heap.size + 1, 0, none⟩)], born := 0 }] _ _ (World.putObj_heap_same (Array.getElem?_eq_some_iff.1 q0).1) rfl]
  gi_wp2_with fail
  have q2 := World.putObj_heap_same (o := .map #[{ key := Value.string ⟨#[104, 97, 115, 104]⟩, val := Value.func (Fn.func 20) #[] #[.pointer (some ⟨w.heap.size + 1, 0, none⟩)], born := 0 }, { key := Value.string ⟨#[100, 101, 114, 105, 118, 101, 114]⟩, val := Value.func (Fn.func 21) #[] #[.pointer (some ⟨w.heap.size + 1, 0, none⟩)], born := 1 }] 2) (Array.getElem?_eq_some_iff.1 (World.putObj_heap_same (o := .map #[{ key := Value.string ⟨#[104, 97, 115, 104]⟩, val := Value.func (Fn.func 20) #[] #[.pointer (some ⟨w.heap.size + 1, 0, none⟩)], born := 0 }] 1) (Array.getElem?_eq_some_iff.1 q0).1)).1
  rw [map_put ((w2.putObj w1.heap.size (.map #[{ key := Value.string ⟨#[104, 97, 115, 104]⟩, val := Value.func (Fn.func 20) #[] #[.pointer (some ⟨w.heap.size + 1, 0, none⟩)], born := 0 }] 1)).putObj w1.heap.size (.map #[{ key := Value.string ⟨#[104, 97, 115, 104]⟩, val := Value.func (Fn.func 20) #[] #[.pointer (some ⟨w.heap.size + 1, 0, none⟩)], born := 0 }, { key := Value.string ⟨#[100, 101, 114, 105, 118, 101, 114]⟩, val := Value.func (Fn.func 21) #[] #[.pointer (some ⟨w.heap.size + 1, 0, none⟩)], born := 1 }] 2)) w1.heap.size 2 #[{ key := Value.string ⟨#[104, 97, 115, 104]⟩, val := Value.func (Fn.func 20) #[] #[.pointer (some ⟨w.heap.size + 1, 0, none⟩)], born := 0 }, { key := Value.string ⟨#[100, 101, 114, 105, 118, 101, 114]⟩, val := Value.func (Fn.func 21) #[] #[.pointer (some ⟨w.heap.size + 1, 0, none⟩)], born := 1 }] _ _ q2 rfl]
  have q3 := World.putObj_heap_same (o := .map ((#[{ key := Value.string ⟨#[104, 97, 115, 104]⟩, val := Value.func (Fn.func 20) #[] #[.pointer (some ⟨w.heap.size + 1, 0, none⟩)], born := 0 }, { key := Value.string ⟨#[100, 101, 114, 105, 118, 101, 114]⟩, val := Value.func (Fn.func 21) #[] #[.pointer (some ⟨w.heap.size + 1, 0, none⟩)], born := 1 }] : Array MapEntry).push { key := Value.string ⟨#[114, 101, 102]⟩, val := Value.func (Fn.func 22) #[] #[.pointer (some ⟨w.heap.size + 1, 0, none⟩)], born := 2 }) (2 + 1)) (Array.getElem?_eq_some_iff.1 q2).1
  have hb3 : Below (w.heap.size + 2) w2 (((w2.putObj w1.heap.size (.map #[{ key := Value.string ⟨#[104, 97, 115, 104]⟩, val := Value.func (Fn.func 20) #[] #[.pointer (some ⟨w.heap.size + 1, 0, none⟩)], born := 0 }] 1)).putObj w1.heap.size (.map #[{ key := Value.string ⟨#[104, 97, 115, 104]⟩, val := Value.func (Fn.func 20) #[] #[.pointer (some ⟨w.heap.size + 1, 0, none⟩)], born := 0 }, { key := Value.string ⟨#[100, 101, 114, 105, 118, 101, 114]⟩, val := Value.func (Fn.func 21) #[] #[.pointer (some ⟨w.heap.size + 1, 0, none⟩)], born := 1 }] 2)).putObj w1.heap.size (.map ((#[{ key := Value.string ⟨#[104, 97, 115, 104]⟩, val := Value.func (Fn.func 20) #[] #[.pointer (some ⟨w.heap.size + 1, 0, none⟩)], born := 0 }, { key := Value.string ⟨#[100, 101, 114, 105, 118, 101, 114]⟩, val := Value.func (Fn.func 21) #[] #[.pointer (some ⟨w.heap.size + 1, 0, none⟩)], born := 1 }] : Array MapEntry).push { key := Value.string ⟨#[114, 101, 102]⟩, val := Value.func (Fn.func 22) #[] #[.pointer (some ⟨w.heap.size + 1, 0, none⟩)], born := 2 }) (2 + 1))) := ((below_putObj (Below.refl _ _) (by rw [HS0.out]; exact Nat.le_refl _) _).trans (below_putObj (Below.refl _ _) (by rw [HS0.out]; exact Nat.le_refl _) _)).trans (below_putObj (Below.refl _ _) (by rw [HS0.out]; exact Nat.le_refl _) _)
  have hs3 : (((w2.putObj w1.heap.size (.map #[{ key := Value.string ⟨#[104, 97, 115, 104]⟩, val := Value.func (Fn.func 20) #[] #[.pointer (some ⟨w.heap.size + 1, 0, none⟩)], born := 0 }] 1)).putObj w1.heap.size (.map #[{ key := Value.string ⟨#[104, 97, 115, 104]⟩, val := Value.func (Fn.func 20) #[] #[.pointer (some ⟨w.heap.size + 1, 0, none⟩)], born := 0 }, { key := Value.string ⟨#[100, 101, 114, 105, 118, 101, 114]⟩, val := Value.func (Fn.func 21) #[] #[.pointer (some ⟨w.heap.size + 1, 0, none⟩)], born := 1 }] 2)).putObj w1.heap.size (.map ((#[{ key := Value.string ⟨#[104, 97, 115, 104]⟩, val := Value.func (Fn.func 20) #[] #[.pointer (some ⟨w.heap.size + 1, 0, none⟩)], born := 0 }, { key := Value.string ⟨#[100, 101, 114, 105, 118, 101, 114]⟩, val := Value.func (Fn.func 21) #[] #[.pointer (some ⟨w.heap.size + 1, 0, none⟩)], born := 1 }] : Array MapEntry).push { key := Value.string ⟨#[114, 101, 102]⟩, val := Value.func (Fn.func 22) #[] #[.pointer (some ⟨w.heap.size + 1, 0, none⟩)], born := 2 }) (2 + 1))).heap.size = w.heap.size + 3 := by simp only [size_putObj]; exact hs1
  revert q3 hb3 hs3
  generalize ((w2.putObj w1.heap.size (.map #[{ key := Value.string ⟨#[104, 97, 115, 104]⟩, val := Value.func (Fn.func 20) #[] #[.pointer (some ⟨w.heap.size + 1, 0, none⟩)], born := 0 }] 1)).putObj w1.heap.size (.map #[{ key := Value.string ⟨#[104, 97, 115, 104]⟩, val := Value.func (Fn.func 20) #[] #[.pointer (some ⟨w.heap.size + 1, 0, none⟩)], born := 0 }, { key := Value.string ⟨#[100, 101, 114, 105, 118, 101, 114]⟩, val := Value.func (Fn.func 21) #[] #[.pointer (some ⟨w.heap.size + 1, 0, none⟩)], born := 1 }] 2)).putObj w1.heap.size (.map ((#[{ key := Value.string ⟨#[104, 97, 115, 104]⟩, val := Value.func (Fn.func 20) #[] #[.pointer (some ⟨w.heap.size + 1, 0, none⟩)], born := 0 }, { key := Value.string ⟨#[100, 101, 114, 105, 118, 101, 114]⟩, val := Value.func (Fn.func 21) #[] #[.pointer (some ⟨w.heap.size + 1, 0, none⟩)], born := 1 }] : Array MapEntry).push { key := Value.string ⟨#[114, 101, 102]⟩, val := Value.func (Fn.func 22) #[] #[.pointer (some ⟨w.heap.size + 1, 0, none⟩)], born := 2 }) (2 + 1)) = w3
  intro q3 hb3 hs3
  have HI3 := Lib.hid (show InfoAt w3 (w.heap.size + 1) p ⟨#[]⟩ ⟨#[]⟩ (.slice none 0 0) from (hb3.block _ (by omega)).trans ((hb1.block _ (by omega)).trans HI0.out))
  have HZ3 := Lib.hid (show InfoAt w3 w.heap.size ⟨#[]⟩ ⟨#[]⟩ ⟨#[]⟩ (.slice none 0 0) from (hb3.block _ (by omega)).trans ((hb1.block _ (by omega)).trans HZ0.out))
  have HB3 := Lib.hid (show Below w.heap.size w w3 from (HB0.out.trans (hb1.mono (by omega))).trans (hb3.mono (by omega)))
  obtain ⟨bm, hbm⟩ : ∃ bm, w1.heap.size = bm := ⟨_, rfl⟩
  have HBm := Lib.hid (show bm = w.heap.size + 2 from hbm ▸ HS0.out)
  have HS3 := Lib.hid hs3
  rw [hbm] at q3 ⊢
  have HQ3 := Lib.hid q3
  clear q0 hb1 hs1 q2 q3 hb3 hs3 hbm
  gi_wp2_with fail
  refine ⟨trivial, (callsIn_wide.2 (lines_of s _)).mono ?_⟩
  rintro e w' ⟨rfl, rfl⟩
  gi_wp2_with fail
  have hri : RI w p [] ((w3.alloc (.cells #[.map (some bm)] 51)).alloc (.cells #[.string s] 9)) := by
    obtain rfl := HBm.out
    have e3 : w3.heap.size = w.heap.size + 3 := HS3.out
    have hk : ∀ k, k < w3.heap.size → ((w3.alloc (.cells #[.map (some (w.heap.size + 2))] 51)).alloc (.cells #[.string s] 9)).heap[k]? = w3.heap[k]? := fun k hk => (heap_alloc_old _ _ _ (by rw [World.size_alloc]; omega)).trans (heap_alloc_old _ _ _ hk)
    refine ⟨(HB3.out.alloc HB3.out.size _).alloc (by rw [World.size_alloc]; have := HB3.out.size; omega) _, by rw [World.size_alloc, World.size_alloc]; omega, (hk _ (by omega)).trans HZ3.out, (hk _ (by omega)).trans HQ3.out, ?_, .slice none 0 0, (hk _ (by omega)).trans HI3.out, ⟨rfl, .inl ⟨rfl, rfl⟩⟩⟩
    rw [← e3]
    exact heap_alloc2_old w3 _ _
  have hbox : ((w3.alloc (.cells #[.map (some bm)] 51)).alloc (.cells #[.string s] 9)).heap[w.heap.size + 4]? = some (.cells #[.string s] 9 (0, 0)) := by
    have e3 : w3.heap.size = w.heap.size + 3 := HS3.out
    have := heap_alloc2_new w3 (.cells #[.map (some bm)] 51) (.cells #[.string s] 9)
    rwa [e3] at this
  have hs5 : ((w3.alloc (.cells #[.map (some bm)] 51)).alloc (.cells #[.string s] 9)).heap.size = w.heap.size + 5 := by rw [World.size_alloc, World.size_alloc, HS3.out]
  revert hri hbox hs5
  generalize (w3.alloc (.cells #[.map (some bm)] 51)).alloc (.cells #[.string s] 9) = w5
  intro hri hbox hs5
  rw [HS3.out]
  have HRI := Lib.hid hri
  have HBox := Lib.hid hbox
  have HS5 := Lib.hid hs5
  clear hri hbox hs5
  refine wpIn_rangeFunc_box (α := ByteArray) (encs := fun x => #[.string x]) (q := w.heap.size + 3 + 1) (xs := linesOf s) rfl (by decide) rfl trivial (fun args W => rfl) (by rw [HS5.out]; omega) (lines_seq 5 (by decide) (w.heap.size + 3 + 1) s w5 (Nat.le_trans hs (by decide)) HBox.out) (fun x => rfl) (RI w p) ?hI HRI.out ?a1 ?assign ?body ?done
  case hI => 
    intro pre A B row h hg hr
    exact h.turn hg (fun r e => by
      rcases hr r e with h1 | ⟨h1, h2⟩
      · exact .inl h1
      · exact .inr ⟨by rw [HS5.out] at h1; exact h1, h2⟩)
  case assign =>
    intro l x W K hK
    gi_wp2
    exact hK
  case body =>
    intro l pre x W hri hpre
    have hx : x.size ≤ 16777216 := Nat.le_trans (lines_size s x (hpre.subset (by simp))) hs
    have htx : (trimNl x).size ≤ 16777216 := Nat.le_trans (trimNl_size x) hx
    have hlen : (told pre).refs.length ≤ 16777216 := by
      have h1 := told_len pre ⟨⟨#[]⟩, ⟨#[]⟩, []⟩
      have h2 := hpre.length_le
      have h3 := lines_len s
      simp only [List.length_append, List.length_nil] at h1 h2
      have h4 : (told pre).refs.length ≤ pre.length := by unfold told; omega
      omega
    have hd4 : W.heap.size ≥ w.heap.size + 5 := hri.size
    have HR := Lib.hid hri
    have hcv : W.cell? ⟨w.heap.size + 3, 0, none⟩ = some (.map (some (w.heap.size + 2))) := row_cell W _ _ _ _ 0 hri.var
    have HL := Lib.hid hlen
    obtain rfl := HBm.out
    clear hri hlen hd4
    gi_wp2_with (first | (refine ⟨trivial, ?_⟩; gi_at_call 25; refine (CallsIn.inRound l (callsIn_wide.2 (Tryd.strings_TrimSuffix x ⟨#[10]⟩ _ (Nat.le_trans hx (by decide))))).mono ?_; rintro e w2 ⟨rfl, hw2⟩; subst w2) | (refine ⟨trivial, ?_⟩; gi_at_call 24; refine (CallsIn.inRound l (callsIn_wide.2 (cut_of (trimNl x) _ (Nat.le_trans htx (by decide))))).mono ?_; rintro e _ ⟨rfl, q, rfl⟩))
    have hmap := (HR.out.turn (grownBy_drewN W q) (fun r e => by cases e)).map
    have HR2 := Lib.hid (HR.out.turn (grownBy_drewN W q) (fun r e => by cases e))
    have HQb := Lib.hid (show (W.drewN q).heap[w.heap.size + 3 + 1]? = W.heap[w.heap.size + 3 + 1]? from rfl)
    have HKf := Lib.hid (show KeepsFrom w5.heap.size W (W.drewN q) from (keeps_drewN W q).from _)
    by_cases h1 : wordOf (trimNl x) = wHash
    · have hk := map_get (W.drewN q) (w.heap.size + 2) 3 _ (wordOf (trimNl x)) (some (0, Value.func (Fn.func 20) #[] #[.pointer (some ⟨w.heap.size + 1, 0, none⟩)])) hmap (by rw [h1]; rfl)
      rw [hk]
      obtain ⟨v, hi1, ho1⟩ := HR2.out.info
      have HO1 := Lib.hid ho1
      have hset := set_hash (W.drewN q) (w.heap.size + 1) (w.heap.size + 5) p _ _ (restOf (trimNl x)) v hi1
      gi_wp2_with (refine ⟨trivial, (CallsIn.inRound l (callsIn_wide.2 hset)).mono ?_⟩; rintro e w4 ⟨⟨u, rfl⟩, hi4, ht4, hw4⟩; refine Hid.out ?_)
      refine Lib.hid ?_
      have ho4 := HO1.out.kept (grownBy_set (W.drewN q) (w.heap.size + 1) 1 (.string (restOf (trimNl x)))) (own_apart HO1.out)
      rw [← hw4] at ho4
      have etell : tell (told pre) x = { (told pre) with hash := restOf (trimNl x) } := by unfold tell; rw [if_pos h1]
      have HRn := Lib.hid (HR2.out.step (x := x) ht4 ⟨v, by rw [etell]; exact hi4, by rw [etell]; exact ho4⟩)
      have HQn := Lib.hid ((ht4.block (w.heap.size + 3 + 1) (by omega) (by omega)).trans HQb.out)
      have HKn := Lib.hid (HKf.out.trans (ht4.others.from w5.heap.size))
      have HWe := Lib.hid hw4
      clear hi4 ht4 hw4 ho4 hset hi1 ho1 hk hmap
      gi_wp2_with fail
      exact HWe.out ▸ ⟨HKn.out, HQn.out, HRn.out⟩
    · by_cases h2 : wordOf (trimNl x) = wDer
      · have hk := map_get (W.drewN q) (w.heap.size + 2) 3 _ (wordOf (trimNl x)) (some (1, Value.func (Fn.func 21) #[] #[.pointer (some ⟨w.heap.size + 1, 0, none⟩)])) hmap (by rw [h2]; rfl)
        rw [hk]
        obtain ⟨v, hi1, ho1⟩ := HR2.out.info
        have HO1 := Lib.hid ho1
        have hset := set_deriver (W.drewN q) (w.heap.size + 1) (w.heap.size + 5) p _ _ (restOf (trimNl x)) v hi1
        gi_wp2_with (refine ⟨trivial, (CallsIn.inRound l (callsIn_wide.2 hset)).mono ?_⟩; rintro e w4 ⟨⟨u, rfl⟩, hi4, ht4, hw4⟩; refine Hid.out ?_)
        refine Lib.hid ?_
        have ho4 := HO1.out.kept (grownBy_set (W.drewN q) (w.heap.size + 1) 2 (.string (restOf (trimNl x)))) (own_apart HO1.out)
        rw [← hw4] at ho4
        have etell : tell (told pre) x = { (told pre) with deriver := restOf (trimNl x) } := by unfold tell; rw [if_neg h1, if_pos h2]
        have HRn := Lib.hid (HR2.out.step (x := x) ht4 ⟨v, by rw [etell]; exact hi4, by rw [etell]; exact ho4⟩)
        have HQn := Lib.hid ((ht4.block (w.heap.size + 3 + 1) (by omega) (by omega)).trans HQb.out)
        have HKn := Lib.hid (HKf.out.trans (ht4.others.from w5.heap.size))
        have HWe := Lib.hid hw4
        clear hi4 ht4 hw4 ho4 hset hi1 ho1 hk hmap
        gi_wp2_with fail
        exact HWe.out ▸ ⟨HKn.out, HQn.out, HRn.out⟩
      · by_cases h3 : wordOf (trimNl x) = wRef
        · have hk := map_get (W.drewN q) (w.heap.size + 2) 3 _ (wordOf (trimNl x)) (some (2, Value.func (Fn.func 22) #[] #[.pointer (some ⟨w.heap.size + 1, 0, none⟩)])) hmap (by rw [h3]; rfl)
          rw [hk]
          obtain ⟨v, hi1, ho1⟩ := HR2.out.info
          have hset := app_ref (W.drewN q) (w.heap.size + 1) (w.heap.size + 5) p _ _ (restOf (trimNl x)) v (told pre).refs hi1 ho1 (by omega) HR2.out.size (Nat.le_trans HL.out (by decide))
          gi_wp2_with (refine ⟨trivial, (CallsIn.inRound l (callsIn_wide.2 hset)).mono ?_⟩; rintro e w4 ⟨⟨u, rfl⟩, v4, hi4, ho4, ht4⟩; refine Hid.out ?_)
          refine Lib.hid ?_
          have etell : tell (told pre) x = { (told pre) with refs := (told pre).refs ++ [restOf (trimNl x)] } := by unfold tell; rw [if_neg h1, if_neg h2, if_pos h3]
          have HRn := Lib.hid (HR2.out.step (x := x) ht4 ⟨v4, by rw [etell]; exact hi4, by rw [etell]; exact ho4⟩)
          have HQn := Lib.hid ((ht4.block (w.heap.size + 3 + 1) (by omega) (by omega)).trans HQb.out)
          have HKn := Lib.hid (HKf.out.trans (ht4.others.from w5.heap.size))
          clear hi4 ht4 ho4 hset hi1 ho1 hk hmap
          gi_wp2_with fail
          exact ⟨HKn.out, HQn.out, HRn.out⟩
        · have hk := map_get (W.drewN q) (w.heap.size + 2) 3 _ (wordOf (trimNl x)) none hmap (find_none _ _ h1 h2 h3)
          rw [hk]
          have etell : tell (told pre) x = told pre := by unfold tell; rw [if_neg h1, if_neg h2, if_neg h3]
          have HRn := Lib.hid (HR2.out.step (x := x) ⟨KeepsOthers.refl _, fun _ _ _ => rfl, fun _ _ => Below.refl _ _⟩ (by rw [etell]; exact HR2.out.info))
          clear hk hmap
          gi_wp2_with fail
          exact ⟨HKf.out, HQb.out, HRn.out⟩
  case done =>
    intro D W hD hri hK
    obtain rfl := HBm.out
    obtain ⟨v, hi1, ho1⟩ := hri.info
    obtain ⟨th, hth⟩ : ∃ th, (told (linesOf s)).hash = th := ⟨_, rfl⟩
    obtain ⟨td, htd⟩ : ∃ td, (told (linesOf s)).deriver = td := ⟨_, rfl⟩
    obtain ⟨tl, htl⟩ : ∃ tl, (told (linesOf s)).refs = tl := ⟨_, rfl⟩
    rw [hth, htd] at hi1
    rw [htl] at ho1
    have HTh := Lib.hid hth
    have HTd := Lib.hid htd
    have HTl := Lib.hid htl
    clear hth htd htl
    have hsz := told_sizes s hs
    rw [HTh.out, HTd.out, HTl.out] at hsz
    obtain ⟨A, c, rfl, hc, hC⟩ := Kd.R_reads (d := Kd.string) (Kd.R_of_own (enc := Value.string) (h1 := fun _ => rfl) (ok := fun _ => True) (xs := tl) ho1 (fun _ _ => trivial))
    obtain ⟨c0, c1, c2, c3⟩ := info_cells hi1
    have HR := Lib.hid hri
    have HO1 := Lib.hid ho1
    have HCc := Lib.hid hc
    have HC := Lib.hid hC
    have HSz := Lib.hid hsz
    have HK := Lib.hid hK
    have HI1 := Lib.hid hi1
    clear hri ho1 hc hC hsz hK hi1
    gi_wp2_with (refine ⟨trivial, ?_⟩; gi_at_call 5; refine (callsIn_wide.2 (text_of p th td tl A c _ hp HSz.out.1 HSz.out.2.1 HC.out HCc.out (Nat.le_trans HSz.out.2.2.2 (by decide)) HSz.out.2.2.1 (HT.out.of HR.out.below))).mono ?_; rintro e w7 ⟨t, x, rfl, hb7, hx⟩; refine Hid.out ?_)
    refine Lib.hid ?_
    have hsz7 : W.heap.size ≤ w7.heap.size := hb7.size
    have hz7 : InfoAt w7 w.heap.size ⟨#[]⟩ ⟨#[]⟩ ⟨#[]⟩ (.slice none 0 0) := HR.out.zero.kept hb7
    have hi7 : InfoAt w7 (w.heap.size + 1) p th td (.slice A tl.length c) := HI1.out.kept hb7
    have hk7 : w7.heap[D]? = some (.deferred (some [])) := (hb7.block _ (Array.getElem?_eq_some_iff.1 HK.out).1).trans HK.out
    have ho7 : w7.ownsRow (w.heap.size + 5) 9 1 (.slice A tl.length c) tl.length (strs tl) := by
      have h := HO1.out
      refine ⟨h.1, ?_⟩
      rcases h.2 with h2 | ⟨g, cap, cur, h2, h3, h4, h5⟩
      · exact .inl h2
      · exact .inr ⟨g, cap, cur, h2, h3, (hb7.block _ (Array.getElem?_eq_some_iff.1 h4).1).trans h4, h5⟩
    have hb : Below w.heap.size w w7 := HR.out.below.trans (hb7.mono (by have := HR.out.size; omega))
    obtain ⟨z0, z1, z2, z3⟩ := info_cells hz7
    obtain ⟨d0, d1, d2, d3⟩ := info_cells hi7
    have f0 := row_frozen w7 _ _ _ 0 hz7
    have f1 := row_frozen w7 _ _ _ 1 hz7
    have f2 := row_frozen w7 _ _ _ 2 hz7
    have f3 := row_frozen w7 _ _ _ 3 hz7
    have HZ7 := Lib.hid hz7
    have HO7 := Lib.hid ho7
    have HK7 := Lib.hid hk7
    have HB7 := Lib.hid hb
    have HD7 := Lib.hid (show w.heap.size + 5 ≤ D from HS5.out ▸ hD)
    clear hsz7 hz7 hi7 hk7 ho7 hb hb7 c0 c1 c2 c3
    rcases hx with ⟨hok, rfl, rfl⟩ | ⟨hno, rfl, rfl⟩
    · by_cases heq : textOf th td tl = s
      · have hne : ((textOf th td tl).toList != s.toList) = false := by rw [heq]; simp
        have HE := Lib.hid (show InfoOk p th td tl ∧ textOf th td tl = s from ⟨hok, heq⟩)
        gi_wp2_with fail
        obtain ⟨e1, e2, e3⟩ := read_end (y0 := .string p) (y1 := .string th) (y2 := .string td) (y3 := .slice A tl.length c) rfl HZ7.out HB7.out HD7.out HK7.out
        refine ⟨by simp, .inl ⟨_, _, rfl, run_takeDeferred (b := D) (ds := []) ((set4_other _ _ _ _ D (by have := HD7.out; omega)).trans HK7.out), ?_⟩⟩
        refine ⟨_, results_cell2 Tryd.results7 rfl e1, ?_⟩
        exact ⟨th, td, tl, _, 0, rfl, e2, e3 _ _ _ HO7.out, .inl ⟨by rw [HTh.out, HTd.out, HTl.out]; exact HE.out.1, by rw [HTh.out, HTd.out, HTl.out]; exact HE.out.2, rfl, HTh.out.symm, HTd.out.symm, HTl.out.symm⟩⟩
      · have hne : ((textOf th td tl).toList != s.toList) = true := bne_iff_ne.2 (fun e => heq (ByteArray.ext (by rw [← Array.toList_inj, ← Lib.toList_data, ← Lib.toList_data]; exact e)))
        have hne2 : ((textOf th td tl).toList == s.toList) = false := by simpa using hne
        have HE := Lib.hid (show ¬ (InfoOk p th td tl ∧ textOf th td tl = s) from fun h => heq h.2)
        gi_wp2_with fail
        obtain ⟨e1, e2, e3⟩ := read_end (y0 := .string ⟨#[]⟩) (y1 := .string ⟨#[]⟩) (y2 := .string ⟨#[]⟩) (y3 := .slice none 0 0) rfl HZ7.out HB7.out HD7.out HK7.out
        refine ⟨by simp, .inl ⟨_, _, rfl, run_takeDeferred (b := D) (ds := []) ((set4_other _ _ _ _ D (by have := HD7.out; omega)).trans HK7.out), ?_⟩⟩
        refine ⟨_, results_cell2 Tryd.results7 rfl e1, ?_⟩
        exact ⟨⟨#[]⟩, ⟨#[]⟩, [], .slice none 0 0, 10, rfl, e2, ⟨rfl, .inl ⟨rfl, rfl⟩⟩, .inr ⟨by rw [HTh.out, HTd.out, HTl.out]; exact HE.out, rfl, rfl, rfl, rfl⟩⟩
    · have HE := Lib.hid (show ¬ (InfoOk p th td tl ∧ textOf th td tl = s) from fun h => hno h.1)
      gi_wp2_with fail
      obtain ⟨e1, e2, e3⟩ := read_end (y0 := .string ⟨#[]⟩) (y1 := .string ⟨#[]⟩) (y2 := .string ⟨#[]⟩) (y3 := .slice none 0 0) rfl HZ7.out HB7.out HD7.out HK7.out
      refine ⟨by simp, .inl ⟨_, _, rfl, run_takeDeferred (b := D) (ds := []) ((set4_other _ _ _ _ D (by have := HD7.out; omega)).trans HK7.out), ?_⟩⟩
      refine ⟨_, results_cell2 Tryd.results7 rfl e1, ?_⟩
      exact ⟨⟨#[]⟩, ⟨#[]⟩, [], .slice none 0 0, 10, rfl, e2, ⟨rfl, .inl ⟨rfl, rfl⟩⟩, .inr ⟨by rw [HTh.out, HTd.out, HTl.out]; exact HE.out, rfl, rfl, rfl, rfl⟩⟩
end Go.Proofs.YtcmlifbfegblgaaDoor
