/- What comes in, opened into the printed functions' own values; a node among it. -/
import Derived.Test.YtdehcojmgmjcmaaDoorRA
import Derived.Test.YtdehcojmgmjcmaaDoorWWords
import Derived.Test.YtdehcojmgmjcmaaDoorWLast
import Derived.Test.YtdehcojmgmjcmaaDoorWMore
import Derived.ChangeArms
import Derived.DataReads
import Derived.Deep.Slices
import GoSem.ClaimJoined
namespace Go.Proofs.YtdehcojmgmjcmaaDoor
set_option linter.unusedVariables false
set_option linter.unusedSimpArgs false
open Go.RowKit QArchiveBack Go.Proofs.YtdehcojmgmjcmaaDoorW.PrintWords Go.Proofs.YtdehcojmgmjcmaaDoorW.PrintLast Go.Proofs.YtdehcojmgmjcmaaDoorW.PrintMore
/-- whatever is read as data of type t, and whose parts are within reach, is of kind d, and ok -/
def Opn {α : Type} (P : Program) (d : Kd α) (t : TypeId) (ok : α → Prop) (fuel : Nat) : Prop :=
  ∀ (H : Type) (enc : TypeId × Value → H) (w : World) (base : Nat) (spare : Nat → Bool) (held : Bool) (cs : List Value) (y : DataW H × List MemPlace),
    DataW.trod enc P w base spare held fuel t cs = some y → (DataW.weights P t y.1).all (· ≤ reachBytes) = true → ∃ x, d.K w x cs ∧ ok x
theorem Opn.imp {α : Type} {P : Program} {d : Kd α} {t : TypeId} {ok ok' : α → Prop} {fuel : Nat} (h : Opn P d t ok fuel) (hi : ∀ x, ok x → ok' x) : Opn P d t ok' fuel :=
  fun H enc w base spare held cs y hy hw => by
    obtain ⟨x, hx, ho⟩ := h H enc w base spare held cs y hy hw
    exact ⟨x, hx, hi x ho⟩
theorem opn_int {P : Program} {k : IntKind} {t : TypeId} (ht : P.underlying t = some (.int k)) (fuel : Nat) : Opn P (Kd.int k) t (fun x => (Lit.int k x).wf = true) fuel :=
  fun H enc w base spare held cs y hy _ => by
    obtain ⟨n, rfl, _, hn⟩ := DataW.trod_int ht hy
    exact ⟨n, rfl, hn⟩
theorem opn_bool {P : Program} {t : TypeId} (ht : P.underlying t = some .bool) (fuel : Nat) : Opn P Kd.bool t (fun _ => True) fuel :=
  fun H enc w base spare held cs y hy _ => by
    obtain ⟨b, rfl, _⟩ := DataW.trod_bool ht hy
    exact ⟨b, rfl, trivial⟩
theorem opn_string {P : Program} {t : TypeId} (ht : P.underlying t = some .string) (fuel : Nat) : Opn P Kd.string t (fun s => s.size ≤ 140737488351232) fuel :=
  fun H enc w base spare held cs y hy hw => by
    obtain ⟨s, rfl, rfl, _⟩ := DataW.trod_string ht hy
    refine ⟨s, rfl, ?_⟩
    have h1 : decide (s.data.toList.length ≤ reachBytes) = true := by simpa only [DataW.weights, List.all_cons, List.all_nil, Bool.and_true] using hw
    have h2 := of_decide_eq_true h1
    rw [Array.length_toList] at h2
    exact h2
theorem weightsAll_mem {H : Type} {P : Program} {e : TypeId} : ∀ {l : List (DataW H)}, (DataW.weightsAll P e l).all (· ≤ reachBytes) = true → ∀ d ∈ l, (DataW.weights P e d).all (· ≤ reachBytes) = true
  | [], _, d, hd => by cases hd
  | x :: l, h, d, hd => by
    rw [DataW.weightsAll, List.all_append, Bool.and_eq_true] at h
    rcases List.mem_cons.1 hd with rfl | hd
    · exact h.1
    · exact weightsAll_mem h.2 d hd
theorem opn_slice {α : Type} {P : Program} {d : Kd α} {t e : TypeId} {ok : α → Prop} {fuel : Nat} (ht : P.underlying t = some (.slice e)) (hs : d.sz = P.cellsOf e) (he : ∀ n, n < fuel → Opn P d e ok n) :
    Opn P (Kd.slice e d) t (fun xs => xs.length * P.bytesOf e ≤ 140737488351232 ∧ ∀ x ∈ xs, ok x) fuel :=
  fun H enc w base spare held cs y hy hw => by
    rcases DataW.trod_slice ht hy with ⟨rfl, rfl⟩ | ⟨a, len, cap, elems, rest, n, rfl, rfl, rfl, hb, hl, hm, hlen, hel, hsp, hns⟩
    · exact ⟨[], ⟨none, 0, rfl, Nat.le_refl _, ⟨rfl, by simp, fun h => by simp at h⟩⟩, by simp, fun x hx => by cases hx⟩
    · have hw2 : ((elems.map (·.1)).length + (rest.map (·.1)).length) * P.bytesOf e ≤ reachBytes ∧ (DataW.weightsAll P e (elems.map (·.1))).all (· ≤ reachBytes) = true := by
        have := hw
        simp only [DataW.weights, ht, List.all_cons, List.all_append, Bool.and_eq_true, decide_eq_true_iff] at this
        exact ⟨this.1, this.2.1⟩
      have each : ∀ i, i < len → ∃ x cs', d.K w x cs' ∧ ok x ∧ w.cells? base (a.add (i * P.cellsOf e)) (P.cellsOf e) = some cs' := fun i hi => by
        have h1 := hel i hi
        have hi' : i < elems.length := by omega
        rw [List.getElem?_eq_getElem hi'] at h1
        obtain ⟨cs', hc, ht'⟩ := Option.bind_eq_some_iff.1 h1
        obtain ⟨x, hx, ho⟩ := he n (by omega) H enc w base spare held cs' _ ht' (weightsAll_mem hw2.2 _ (List.mem_map.2 ⟨_, List.getElem_mem hi', rfl⟩))
        exact ⟨x, cs', hx, ho, hc⟩
      have build : ∀ m, m ≤ len → ∃ xs : List α, xs.length = m ∧ ∀ i x, xs[i]? = some x → ok x ∧ ∃ cs', d.K w x cs' ∧ w.cells? base (a.add (i * P.cellsOf e)) (P.cellsOf e) = some cs' := by
        intro m
        induction m with
        | zero => exact fun _ => ⟨[], rfl, fun i x hx => by simp at hx⟩
        | succ m ih =>
          intro hm'
          obtain ⟨xs, hxl, hxs⟩ := ih (by omega)
          obtain ⟨x, cs', hx, ho, hc⟩ := each m (by omega)
          refine ⟨xs ++ [x], by simp [hxl], fun i z hz => ?_⟩
          by_cases hi : i < xs.length
          · rw [List.getElem?_append_left hi] at hz
            exact hxs i z hz
          · rw [List.getElem?_append_right (by omega)] at hz
            have hi0 : i - xs.length = 0 := by
              by_cases h0 : i - xs.length = 0
              · exact h0
              · rw [List.getElem?_eq_none (by simp; omega)] at hz
                cases hz
            rw [hi0] at hz
            have hz' : x = z := by simpa using hz
            subst hz'
            obtain rfl : i = m := by omega
            exact ⟨ho, cs', hx, hc⟩
      obtain ⟨xs, hxl, hxs⟩ := build len (Nat.le_refl _)
      refine ⟨xs, ⟨some a, cap, by rw [hxl], by omega, ⟨rfl, by unfold maxLen at hm; omega, fun _ => ⟨a, rfl, fun j p hj => ?_⟩⟩⟩, ?_, fun x hx => ?_⟩
      · obtain ⟨_, cs', hk, hc⟩ := hxs j p hj
        refine ⟨cs', d.K_len hk, hk, fun i u hu => ?_⟩
        obtain ⟨_, hcl, hat⟩ := World.cells?_some hc
        have hi : i < P.cellsOf e := by
          have := (List.getElem?_eq_some_iff.1 hu).1
          omega
        have := hat i hi
        rw [hu] at this
        rw [hs, ← Go.Deep.add_add]
        exact this
      · have h1 := hw2.1
        simp only [List.length_map] at h1
        rw [hxl, ← hlen]
        exact Nat.le_trans (Nat.mul_le_mul_right _ (Nat.le_add_right _ _)) h1
      · obtain ⟨i, hi⟩ := List.mem_iff_getElem?.1 hx
        exact (hxs i x hi).1
/-- fields, one behind the other -/
def OpnFs {α : Type} (P : Program) (fts : List TypeId) (d : Kd α) (ok : α → Prop) (fuel : Nat) : Prop :=
  ∀ (H : Type) (enc : TypeId × Value → H) (w : World) (base : Nat) (spare : Nat → Bool) (held : Bool) (cs : List Value) (ys : List (DataW H × List MemPlace)),
    cs.length = (fts.map P.cellsOf).sum → ys.length = fts.length → (∀ (i : Nat) (t : TypeId), fts[i]? = some t → DataW.trod enc P w base spare held fuel t ((cs.drop (((fts.take i).map P.cellsOf).sum)).take (P.cellsOf t)) = ys[i]?) →
    (DataW.weightsEach P fts (ys.map (·.1))).all (· ≤ reachBytes) = true → ∃ x, d.K w x cs ∧ ok x
theorem opnFs_one {α : Type} {P : Program} {t : TypeId} {d : Kd α} {ok : α → Prop} {fuel : Nat} (h : Opn P d t ok fuel) : OpnFs P [t] d ok fuel :=
  fun H enc w base spare held cs ys hc hy ht hw => by
    match ys, hy with
    | [y], _ =>
      have h0 := ht 0 t rfl
      have hc' : cs.length = P.cellsOf t := by simpa using hc
      simp only [List.take_zero, List.map_nil, List.sum_nil, List.drop_zero] at h0
      rw [List.take_of_length_le (by omega)] at h0
      exact h H enc w base spare held cs y h0 (by simpa [DataW.weightsEach] using hw)
theorem opnFs_cons {α β : Type} {P : Program} {t : TypeId} {fts : List TypeId} {a : Kd α} {b : Kd β} {okA : α → Prop} {okB : β → Prop} {fuel : Nat} (ha : Opn P a t okA fuel) (hb : OpnFs P fts b okB fuel) :
    OpnFs P (t :: fts) (Kd.pair a b) (fun x => okA x.1 ∧ okB x.2) fuel :=
  fun H enc w base spare held cs ys hc hy ht hw => by
    match ys, hy with
    | y :: ys, hy =>
      have h0 := ht 0 t rfl
      simp only [List.take_zero, List.map_nil, List.sum_nil, List.drop_zero] at h0
      have hc' : cs.length = P.cellsOf t + (fts.map P.cellsOf).sum := by simpa using hc
      have hw' : (DataW.weights P t y.1).all (· ≤ reachBytes) = true ∧ (DataW.weightsEach P fts (ys.map (·.1))).all (· ≤ reachBytes) = true := by
        simpa [DataW.weightsEach, List.all_append] using hw
      obtain ⟨x, hx, hox⟩ := ha H enc w base spare held _ y h0 hw'.1
      obtain ⟨z, hz, hoz⟩ := hb H enc w base spare held (cs.drop (P.cellsOf t)) ys (by rw [List.length_drop]; omega) (by simpa using hy) (fun i s hs => by
        have := ht (i + 1) s (by simpa using hs)
        simp only [List.take_succ_cons, List.map_cons, List.sum_cons, List.getElem?_cons_succ] at this
        rw [List.drop_drop]
        exact this) hw'.2
      exact ⟨(x, z), ⟨_, _, (List.take_append_drop _ _).symm, hx, hz⟩, hox, hoz⟩
theorem opn_struct {α : Type} {P : Program} {t : TypeId} {fs : Array Field} {fts : List TypeId} {d : Kd α} {ok : α → Prop} {fuel : Nat} (ht : P.underlying t = some (.struct fs)) (hf : fs.toList.map (·.type) = fts) (hc : P.cellsOf t = (fts.map P.cellsOf).sum)
    (ho : fs.toList.map (·.offset) = (List.range fts.length).map fun i => ((fts.take i).map P.cellsOf).sum) (h : ∀ n, n < fuel → OpnFs P fts d ok n) : Opn P d t ok fuel :=
  fun H enc w base spare held cs y hy hw => by
    obtain ⟨xs, n, rfl, rfl, hl, hxl, hg⟩ := DataW.trod_struct ht hy
    have hfl : fts.length = fs.size := by rw [← hf]; simp
    refine h n (by omega) H enc w base spare held cs xs (by omega) (by omega) (fun i s hs => ?_) (by simpa [DataW.weights, ht, hf] using hw)
    have hi : i < fs.size := by
      have := (List.getElem?_eq_some_iff.1 hs).1
      omega
    have hfi : fs[i]? = some fs[i] := Array.getElem?_eq_getElem hi
    have h1 := hg i fs[i] hfi
    have h2 : fs[i].type = s := by
      rw [← hf, List.getElem?_map] at hs
      simpa [hi] using hs
    have h3 : fs[i].offset = ((fts.take i).map P.cellsOf).sum := by
      have h4 : (fs.toList.map (·.offset))[i]? = some fs[i].offset := by simp [hi]
      rw [ho, List.getElem?_map, List.getElem?_range (by omega)] at h4
      simpa using h4.symm
    rw [h2, h3] at h1
    exact h1
theorem opnFs_iso {α β : Type} {P : Program} {fts : List TypeId} {d : Kd α} {ok : α → Prop} {fuel : Nat} (f : β → α) (g : α → β) (hfg : ∀ x, f (g x) = x) (h : OpnFs P fts d ok fuel) : OpnFs P fts (Kd.iso d f) (fun x => ok (f x)) fuel :=
  fun H enc w base spare held cs ys hc hy ht hw => by
    obtain ⟨x, hx, ho⟩ := h H enc w base spare held cs ys hc hy ht hw
    exact ⟨g x, by show d.K w (f (g x)) cs; rw [hfg]; exact hx, by show ok (f (g x)); rw [hfg]; exact ho⟩
theorem fitsL_of : ∀ {l : List S26}, (∀ x ∈ l, fits x) → fitsL l
  | [], _ => by rw [fitsL]; trivial
  | x :: l, h => by rw [fitsL]; exact ⟨h x List.mem_cons_self, fitsL_of fun y hy => h y (List.mem_cons_of_mem _ hy)⟩
theorem node_sizes : Tryd.prog.cellsOf 5 = 1 ∧ Tryd.prog.cellsOf 9 = 1 ∧ Tryd.prog.cellsOf 26 = 5 ∧ Tryd.prog.bytesOf 5 = 1 ∧ Tryd.prog.bytesOf 9 = 16 ∧ Tryd.prog.bytesOf 26 = 88 := by
  refine ⟨?_, ?_, ?_, ?_, ?_, ?_⟩ <;> kernel_rfl
theorem node_opn (fuel : Nat) : Opn Tryd.prog k26 26 fits fuel := by
  induction fuel using Nat.strongRecOn with
  | _ fuel ih =>
  obtain ⟨z1, z2, z3, b1, b2, b3⟩ := node_sizes
  refine opn_struct (fts := [3, 4, 22, 23, 24]) Tryd.underlying26 rfl (by kernel_rfl) (by kernel_rfl) (fun n hn => ?_)
  have h2 := opn_slice (d := Kd.int .u8) (fuel := n) Tryd.underlying22 (by rw [z1]; rfl) (fun m _ => opn_int Tryd.underlying5 m)
  have h3 := opn_slice (d := Kd.string) (fuel := n) Tryd.underlying23 (by rw [z2]; rfl) (fun m _ => opn_string Tryd.underlying9 m)
  have h4 := opn_slice (d := k26) (fuel := n) Tryd.underlying24 (by rw [z3]; rfl) (fun m hm => ih m (by omega))
  have hs := opnFs_cons (opn_int Tryd.underlying3 n) (opnFs_cons (opn_bool Tryd.underlying4 n) (opnFs_cons h2 (opnFs_cons h3 (opnFs_one h4))))
  intro H enc w base spare held cs ys a b c e
  obtain ⟨⟨f0, f1, f2, f3, f4⟩, hk, _, _, ho2, ho3, ho4⟩ := hs H enc w base spare held cs ys a b c e
  obtain ⟨_, _, rfl, h0, _, _, rfl, h1, _, _, rfl, ⟨A2, c2, rfl, l2, g2⟩, _, _, rfl, ⟨A3, c3, rfl, l3, g3⟩, ⟨A4, c4, rfl, l4, g4⟩⟩ := hk
  cases h0
  cases h1
  rw [b1] at ho2
  rw [b2] at ho3
  rw [b3] at ho4
  obtain ⟨o2, _⟩ := ho2
  obtain ⟨o3, p3⟩ := ho3
  obtain ⟨o4, p4⟩ := ho4
  exact ⟨⟨f0, f1, f2, f3, f4⟩, k26_mk w _ l2 g2 l3 g3 l4 g4, (fits_eq _).2 ⟨by simpa using o2, ⟨by simp only [] at o3 ⊢; omega, p3⟩, by simp only [] at o4 ⊢; omega, fitsL_of p4⟩⟩
end Go.Proofs.YtdehcojmgmjcmaaDoor
