/- A node that may be: its archive's shape and length; the law's own look. -/
import Derived.Test.YtdehcojmgmjcmaaDoorRv
import Derived.Test.YtdehcojmgmjcmaaDoorRA
namespace Go.Proofs.YtdehcojmgmjcmaaDoor
set_option linter.unusedVariables false
set_option linter.unusedSimpArgs false
open Go.RowKit QArchiveBack Go.Proofs.YtdehcojmgmjcmaaDoorW.PrintWords Go.Proofs.YtdehcojmgmjcmaaDoorW.PrintLast Go.Proofs.YtdehcojmgmjcmaaDoorW.PrintMore
/-! from what is right -/
theorem namesBad_size : ∀ (l : List ByteArray) (p : Option ByteArray), namesBad l p = false → ∀ s ∈ l, s.size ≤ 60
  | [], _, _, s, hs => by cases hs
  | n :: l, p, h, s, hs => by
    have h12 : nameOk n = true ∧ namesBad l (some n) = false := by
      cases p <;> simp only [namesBad, Bool.or_eq_false_iff, Bool.not_eq_false'] at h
      · exact ⟨h.1.1, h.2⟩
      · exact ⟨h.1.1, h.2⟩
    rcases List.mem_cons.1 hs with rfl | hs
    · have h1 := h12.1
      unfold nameOk at h1
      simp only [Bool.and_eq_true, decide_eq_true_eq] at h1
      omega
    · exact namesBad_size l _ h12.2 s hs
theorem badL_mem {l : List S26} (h : badL l = 0) {x : S26} (hx : x ∈ l) : bad x = 0 := by
  induction l with
  | nil => cases hx
  | cons y l ih =>
    rw [badL] at h
    by_cases c : bad y = 0
    · rw [if_pos c] at h
      rcases List.mem_cons.1 hx with rfl | hx
      · exact c
      · exact ih h hx
    · rw [if_neg c] at h
      exact absurd h c
theorem bad_zero {x : S26} (h : bad x = 0) : kindOk x = true ∧ x.f2.length ≤ 31744 ∧ namesBad x.f3 none = false ∧ badL x.f4 = 0 := by
  rw [bad_eq] at h
  by_cases c1 : kindOk x = false
  · rw [if_pos c1] at h; exact absurd h (by decide)
  · rw [if_neg c1] at h
    by_cases c2 : 31744 < x.f2.length ∨ (x.f0 = 3 ∧ 1024 < x.f2.length) ∨ 31744 < entSum x.f3
    · rw [if_pos c2] at h; exact absurd h (by decide)
    · rw [if_neg c2] at h
      by_cases c3 : x.f0 = 3 ∧ x.f2.length = 0
      · rw [if_pos c3] at h; exact absurd h (by decide)
      · rw [if_neg c3] at h
        by_cases c4 : namesBad x.f3 none = true
        · rw [if_pos c4] at h; exact absurd h (by decide)
        · rw [if_neg c4] at h
          exact ⟨by simpa using c1, by omega, by simpa using c4, h⟩
theorem kind_of {x : S26} (h : kindOk x = true) : (x.f0 = 1 ∨ x.f0 = 3 ∨ x.f0 = 2) ∧ (x.f0 = 2 → x.f3.length = x.f4.length) := by
  unfold kindOk at h
  by_cases c2 : x.f0 = 2
  · rw [if_pos c2] at h
    simp only [Bool.and_eq_true, decide_eq_true_eq] at h
    exact ⟨Or.inr (Or.inr c2), fun _ => h.1.2⟩
  · rw [if_neg c2] at h
    by_cases c3 : x.f0 = 3
    · exact ⟨Or.inr (Or.inl c3), fun e => absurd e c2⟩
    · rw [if_neg c3] at h
      by_cases c1 : x.f0 = 1
      · exact ⟨Or.inl c1, fun e => absurd e c2⟩
      · rw [if_neg c1] at h
        cases h
theorem len_le_nodes : ∀ l : List S26, l.length ≤ nodesL l
  | [] => by simp
  | x :: l => by
    have := len_le_nodes l
    have := nodes_pos x
    rw [nodesL, List.length_cons]
    omega
theorem shape_all (n : Nat) : ∀ x : S26, nodes x ≤ n → n ≤ 1000000 → bad x = 0 → shape x := by
  induction n with
  | zero => intro x hx; have := nodes_pos x; omega
  | succ n ih =>
    intro x hx hn hb
    obtain ⟨h1, _, _, h4⟩ := bad_zero hb
    obtain ⟨k1, k2⟩ := kind_of h1
    have hno := nodes_eq x
    have hle := len_le_nodes x.f4
    rw [shape_eq]
    refine ⟨k1, k2, by omega, ?_⟩
    have key : ∀ l : List S26, (∀ y ∈ l, shape y) → shapeL l := by
      intro l
      induction l with
      | nil => intro _; rw [shapeL]; trivial
      | cons y l ih2 => intro h; rw [shapeL]; exact ⟨h y List.mem_cons_self, ih2 fun z hz => h z (List.mem_cons_of_mem _ hz)⟩
    exact key _ fun y hy => ih y (by have := nodes_mem hy; omega) (by omega) (badL_mem h4 hy)
theorem strL_le (s : ByteArray) : (strL s).length ≤ s.size + 16 := by
  have : padN s.size < 8 := Nat.mod_lt _ (by decide)
  rw [strL_len]; omega
theorem ents_len (xs : List S26) : ∀ (ns : List ByteArray), (∀ x ∈ xs, (nodeL x).length + 200 ≤ 40000 * nodes x) → (∀ s ∈ ns, s.size ≤ 60) → (entsL xs ns).length ≤ 40000 * nodesL xs := by
  induction xs with
  | nil => intro ns _ _; simp [entsL]
  | cons x xs ih =>
    intro ns h1 h2
    cases ns with
    | nil => simp [entsL]
    | cons m ns =>
      have := ih ns (fun y hy => h1 y (List.mem_cons_of_mem _ hy)) (fun y hy => h2 y (List.mem_cons_of_mem _ hy))
      have hx := h1 x List.mem_cons_self
      have hm := h2 m List.mem_cons_self
      have e1 := strL_le wEntry
      have e2 := strL_le wParen
      have e3 := strL_le wName
      have e4 := strL_le m
      have e5 := strL_le wNode
      have e6 := strL_le wEnd
      rw [entsL, nodesL]
      simp only [strsL, List.length_append, List.length_nil, show wEntry.size = 5 from rfl, show wParen.size = 1 from rfl, show wName.size = 4 from rfl, show wNode.size = 4 from rfl, show wEnd.size = 1 from rfl] at *
      omega
theorem nodeL_len (n : Nat) : ∀ x : S26, nodes x ≤ n → bad x = 0 → (nodeL x).length + 200 ≤ 40000 * nodes x := by
  induction n with
  | zero => intro x hx; have := nodes_pos x; omega
  | succ n ih =>
    intro x hx hb
    obtain ⟨h1, h2, h3, h4⟩ := bad_zero hb
    have hno := nodes_eq x
    have he := ents_len x.f4 x.f3 (fun y hy => ih y (by have := nodes_mem hy; omega) (badL_mem h4 hy)) (namesBad_size _ _ h3)
    have hz : (strOfNums x.f2).size = x.f2.length := by simp [strOfNums, ByteArray.size]
    have e1 := strL_le wParen
    have e2 := strL_le wType
    have e3 := strL_le wReg
    have e4 := strL_le wExec
    have e5 := strL_le wNone
    have e6 := strL_le wCont
    have e7 := strL_le (strOfNums x.f2)
    have e8 := strL_le wSym
    have e9 := strL_le wTarget
    have e10 := strL_le wDir
    have e11 := strL_le wEnd
    rw [nodeL_eq]
    simp only [show wParen.size = 1 from rfl, show wType.size = 4 from rfl, show wReg.size = 7 from rfl, show wExec.size = 10 from rfl, show wNone.size = 0 from rfl, show wCont.size = 8 from rfl, show wSym.size = 7 from rfl, show wTarget.size = 6 from rfl, show wDir.size = 9 from rfl, show wEnd.size = 1 from rfl] at *
    by_cases c1 : x.f0 = 1
    · simp only [c1, if_true]
      cases x.f1
      · simp only [Bool.false_eq_true, if_false, strsL, List.length_append, List.length_nil]; omega
      · simp only [if_true, strsL, List.length_append, List.length_nil]; omega
    · simp only [c1, if_false]
      by_cases c3 : x.f0 = 3
      · simp only [c3, if_true, strsL, List.length_append, List.length_nil]; omega
      · simp only [c3, if_false, strsL, List.length_append, List.length_nil]; omega
def wMagic : ByteArray := ⟨#[115, 116, 105, 108, 108, 45, 97, 114, 99, 104, 105, 118, 101, 45, 49]⟩
theorem right_zero {x : S26} (h : right x = 0) : nodes x ≤ 1024 ∧ bad x = 0 := by
  unfold right at h
  by_cases c : deep x ≤ 32 ∧ nodes x ≤ 1024
  · rw [if_pos c] at h; exact ⟨c.2, h⟩
  · rw [if_neg c] at h; exact absurd h (by decide)
theorem right_len {x : S26} (h : right x = 0) : (nodeL x).length ≤ 40960000 ∧ shape x := by
  obtain ⟨h1, h2⟩ := right_zero h
  have := nodeL_len 1024 x h1 h2
  exact ⟨by omega, shape_all 1024 x h1 (by decide) h2⟩
/-- the archive of a node that may be -/
def arch (x : S26) : List Int := strsL [wMagic] ++ nodeL x
theorem magic_len : (strsL [wMagic]).length = 24 := by
  have : (strsL [wMagic]).length = 8 + 15 + padN 15 := by simp only [strsL, List.length_append, List.length_nil, strL_len]; rfl
  rw [this]; rfl
theorem room_loop (l : List S26) (hl : l.length ≤ 1599289640354) (a1 g0 : Int) (g1 : Bool) (g2 : List Int) (g3 : List ByteArray)
    (ih : ∀ x ∈ l, ∀ (k : Nat) (d e : Int), 4 * nodes x ≤ k → ∃ r, stillroomlaw07_room.f k x.f0 x.f1 x.f2 x.f3 x.f4 d e = some r) :
    ∀ (d i k : Nat) (x2 : Int), l.length - i = d → i ≤ l.length → 4 * nodesL (l.drop i) + 1 ≤ k → ∃ r, stillroomlaw07_room.l0 k a1 x2 (i : Int) g0 g1 g2 g3 l = some r := by
  intro d
  induction d with
  | zero =>
    intro i k x2 h1 h2 h3
    obtain ⟨k, rfl⟩ : ∃ m, k = m + 1 := ⟨k - 1, by omega⟩
    simp only [stillroomlaw07_room.l0]
    rw [if_neg (by omega)]
    exact ⟨_, rfl⟩
  | succ d ihd =>
    intro i k x2 h1 h2 h3
    obtain ⟨k, rfl⟩ : ∃ m, k = m + 1 := ⟨k - 1, by omega⟩
    have hi : i < l.length := by omega
    have e := drop_at hi
    rw [e, nodesL] at h3
    have hp := nodes_pos l[i]
    obtain ⟨r, hn⟩ := ih l[i] (List.getElem_mem hi) k (wrap64 (a1 + 1)) x2 (by omega)
    simp only [stillroomlaw07_room.l0]
    rw [if_pos (by omega), if_pos (by omega), rd_at hi, hn]
    simp only [Option.bind_some]
    by_cases c : r < 0
    · rw [if_pos c]; exact ⟨_, rfl⟩
    · rw [if_neg c, w64 (x := (i : Int) + 1) (by omega) (by omega)]
      have := ihd (i + 1) k r (by omega) (by omega) (by omega)
      rw [Int.natCast_add, Int.natCast_one] at this
      exact this
theorem room_all (n : Nat) : ∀ (x : S26), nodes x ≤ n → fits x → ∀ (k : Nat) (d e : Int), 4 * nodes x ≤ k → ∃ r, stillroomlaw07_room.f k x.f0 x.f1 x.f2 x.f3 x.f4 d e = some r := by
  induction n with
  | zero => intro x hx; have := nodes_pos x; omega
  | succ n ihn =>
    intro x hx hf k d e h1
    have hn := nodes_eq x
    obtain ⟨hf2, ⟨hf3, _⟩, hf4, hfl⟩ := (fits_eq x).1 hf
    obtain ⟨k, rfl⟩ : ∃ m, k = m + 2 := ⟨k - 2, by omega⟩
    have hl := room_loop x.f4 hf4 d x.f0 x.f1 x.f2 x.f3 (fun y hy k d e hk => by
        have := nodes_mem hy
        exact ihn y (by omega) (fits_mem hfl hy) k d e hk) _ 0 k (wrap64 ((wrap64 ((wrap64 (e - 1)) - (wrap64 ((x.f2.length : Int) / 100)))) - (wrap64 ((x.f3.length : Int) / 4)))) rfl (by omega) (by rw [List.drop_zero]; omega)
    have key : ∀ (b : Bool) (y : Int), (∃ r, stillroomlaw07_room.l0 k d y 0 x.f0 x.f1 x.f2 x.f3 x.f4 = some r) → ∃ r, stillroomlaw07_room.j0 (k + 1) d y b x.f0 x.f1 x.f2 x.f3 x.f4 = some r := by
      intro b y h
      simp only [stillroomlaw07_room.j0]
      cases b
      · simpa using h
      · exact ⟨_, if_pos rfl⟩
    rw [stillroomlaw07_room.f]
    split
    · exact key _ _ hl
    · exact key _ _ hl
theorem large_some (x : S26) (hf : fits x) : ∃ k r, stillroomlaw07_large.f k x.f0 x.f1 x.f2 x.f3 x.f4 0 = some r := by
  obtain ⟨r, h⟩ := room_all _ x (Nat.le_refl _) hf (4 * nodes x) 0 3000 (Nat.le_refl _)
  refine ⟨4 * nodes x, decide (r < 0), ?_⟩
  unfold stillroomlaw07_large.f
  rw [h]
  rfl
end Go.Proofs.YtdehcojmgmjcmaaDoor
