/- ref11.Read: an info out of its text, as the reference reads it. -/
import Derived.Test.YtcmlifbfegblgaaDoorBx
import Derived.Test.YtcmlifbfegblgaaDoorBe
import Derived.Deep.DeepCutAuto
import Derived.Deep.CutBlock
namespace Go.Proofs.YtcmlifbfegblgaaDoor
set_option linter.unusedVariables false
set_option linter.unusedSimpArgs false
open Go.RowKit Go.Proofs.YtcmlifbfegblgaaDoorW.PrintWords Go.Proofs.YtcmlifbfegblgaaDoorW.PrintLast Go.Proofs.YtcmlifbfegblgaaDoorW.PrintMore
open Go.Proofs.YtcmlifbfegblgaaDoor.QObjectTexts

/-- Is w the beginning of the longer l? -/
def hasP (l w : ByteArray) : Bool := decide (w.size < l.size) && ((l.extract 0 w.size).toList == w.toList)
def tell1 (t : Told) (l : ByteArray) : Told := if hasP l hashW = true then { t with hash := l.extract 5 l.size } else t
def tell2 (t : Told) (l : ByteArray) : Told := if hasP l derW = true then { t with deriver := l.extract 8 l.size } else t
def tell3 (t : Told) (l : ByteArray) : Told := if hasP l refW = true then { t with refs := t.refs ++ [l.extract 4 l.size] } else t
def rtell (t : Told) (l : ByteArray) : Told := tell3 (tell2 (tell1 t l) l) l
def rstep (s : ByteArray) (st : Nat × Told) (k : Nat) : Nat × Told := if bt s k = 10 then (k + 1, rtell st.2 (s.extract st.1 k)) else st
def rst (s : ByteArray) (k : Nat) : Nat × Told := (List.range k).foldl (rstep s) (0, ⟨⟨#[]⟩, ⟨#[]⟩, []⟩)
theorem rst_succ (s : ByteArray) (k : Nat) : rst s (k + 1) = rstep s (rst s k) k := by unfold rst; rw [List.range_succ, List.foldl_append]; rfl
theorem rst_le (s : ByteArray) : ∀ k, (rst s k).1 ≤ k
  | 0 => Nat.le_refl _
  | k + 1 => by
    rw [rst_succ]
    unfold rstep
    split
    · exact Nat.le_refl _
    · exact Nat.le_trans (rst_le s k) (Nat.le_succ _)
theorem rst_refs (s : ByteArray) : ∀ k, (rst s k).2.refs.length ≤ k
  | 0 => Nat.le_refl _
  | k + 1 => by
    rw [rst_succ]
    unfold rstep
    have ih := rst_refs s k
    split
    · unfold rtell tell3 tell2 tell1
      split <;> split <;> split <;> simp <;> omega
    · exact Nat.le_trans ih (Nat.le_succ _)
def Small (M : Nat) (t : Told) : Prop := t.hash.size ≤ M ∧ t.deriver.size ≤ M ∧ ∀ x ∈ t.refs, x.size ≤ M
theorem rtell_small (M : Nat) (t : Told) (L : ByteArray) (hL : L.size ≤ M) (h : Small M t) : Small M (rtell t L) := by
  have h1 : Small M (tell1 t L) := by
    unfold tell1
    split
    · exact ⟨by simp; omega, h.2.1, h.2.2⟩
    · exact h
  have h2 : Small M (tell2 (tell1 t L) L) := by
    unfold tell2
    split
    · exact ⟨h1.1, by simp; omega, h1.2.2⟩
    · exact h1
  unfold rtell tell3
  split
  · refine ⟨h2.1, h2.2.1, fun x hx => ?_⟩
    rcases List.mem_append.1 hx with e | e
    · exact h2.2.2 x e
    · rw [List.mem_singleton.1 e]; simp; omega
  · exact h2
theorem rst_small (s : ByteArray) : ∀ k, k ≤ s.size → Small s.size (rst s k).2
  | 0, _ => ⟨Nat.zero_le _, Nat.zero_le _, fun x hx => by simp [rst] at hx⟩
  | k + 1, hk => by
    rw [rst_succ]
    unfold rstep
    have ih := rst_small s k (by omega)
    split
    · exact rtell_small _ _ _ (by rw [ByteArray.size_extract]; omega) ih
    · exact ih
theorem short_of (l : List ByteArray) (h : ∀ x ∈ l, x.size ≤ 16777216) : Short l := by
  intro i
  rcases Nat.lt_or_ge i l.length with hi | hi
  · have e : l.getD i ByteArray.empty = l[i] := by simp [hi, List.getD]
    rw [e]
    exact h _ (List.getElem_mem hi)
  · have e : l.getD i ByteArray.empty = ByteArray.empty := by simp [List.getD, hi]
    rw [e]
    decide
/-- What all the bytes tell. -/
def rtold (s : ByteArray) : Told := (rst s s.size).2
theorem rtold_sizes (s : ByteArray) (hs : s.size ≤ 16777216) : (rtold s).hash.size ≤ 16777216 ∧ (rtold s).deriver.size ≤ 16777216 ∧ Short (rtold s).refs ∧ (rtold s).refs.length ≤ 16777216 := by
  have h := rst_small s s.size (Nat.le_refl _)
  exact ⟨Nat.le_trans h.1 hs, Nat.le_trans h.2.1 hs, short_of _ (fun x hx => Nat.le_trans (h.2.2 x hx) hs), Nat.le_trans (rst_refs s s.size) hs⟩
/-- The end of a call that hands back an info out of its own cell. -/
theorem read_end2 {w w7 : World} {n : Nat} {y0 y1 y2 y3 : Value} (hn : n = w.heap.size) (hz : w7.heap[n]? = some (.cells #[.string ⟨#[]⟩, .string ⟨#[]⟩, .string ⟨#[]⟩, .slice none 0 0] 24 (0, 0))) (hb : Below w.heap.size w w7) :
    (loadVar 24 ⟨n, 0, none⟩).run Tryd.prog ((((w7.setCell ⟨n, 0, none⟩ y0).setCell ⟨n, 1, none⟩ y1).setCell ⟨n, 2, none⟩ y2).setCell ⟨n, 3, none⟩ y3) = .ok (.agg #[y0, y1, y2, y3]) ((((w7.setCell ⟨n, 0, none⟩ y0).setCell ⟨n, 1, none⟩ y1).setCell ⟨n, 2, none⟩ y2).setCell ⟨n, 3, none⟩ y3) ∧
    Below w.heap.size w ((((w7.setCell ⟨n, 0, none⟩ y0).setCell ⟨n, 1, none⟩ y1).setCell ⟨n, 2, none⟩ y2).setCell ⟨n, 3, none⟩ y3) ∧
    ∀ (v : Value) (len : Nat) (xs : List Value), w7.ownsRow (n + 2) 9 1 v len xs → ((((w7.setCell ⟨n, 0, none⟩ y0).setCell ⟨n, 1, none⟩ y1).setCell ⟨n, 2, none⟩ y2).setCell ⟨n, 3, none⟩ y3).ownsRow w.heap.size 9 1 v len xs := by
  have hi : (Tryd.prog.info? 24).map (·.size) = some (#[y0, y1, y2, y3] : Array Value).size := by kernel_rfl
  refine ⟨run_loadVar_row (P := Tryd.prog) _ n 24 24 _ (0, 0) _ (set4 y0 y1 y2 y3 hz) Tryd.underlying24 rfl hi, set4_below y0 y1 y2 y3 hb (by omega), ?_⟩
  intro v len xs ho
  refine ⟨ho.1, ?_⟩
  rcases ho.2 with h2 | ⟨g, cap, cur, h2, h3, h4, h5⟩
  · exact .inl h2
  · exact .inr ⟨g, cap, cur, h2, by omega, (set4_other y0 y1 y2 y3 g (by omega)).trans h4, h5⟩
/-- What stands behind some bytes: n is the call's first block (the result), n + 1 the info; the references' rows lie from n + 2 on. -/
structure RV (w : World) (p : ByteArray) (t : Told) (W : World) : Prop where
  below : Below w.heap.size w W
  size : w.heap.size + 2 ≤ W.heap.size
  zero : InfoAt W w.heap.size ⟨#[]⟩ ⟨#[]⟩ ⟨#[]⟩ (.slice none 0 0)
  info : ∃ v, InfoAt W (w.heap.size + 1) p t.hash t.deriver v ∧ W.ownsRow (w.heap.size + 2) 9 1 v t.refs.length (strs t.refs)
theorem RV.step {w : World} {p : ByteArray} {t t' : Told} {A B : World} (h : RV w p t A) (ht : Turned (w.heap.size + 2) (w.heap.size + 1) A B)
    (hi : ∃ v, InfoAt B (w.heap.size + 1) p t'.hash t'.deriver v ∧ B.ownsRow (w.heap.size + 2) 9 1 v t'.refs.length (strs t'.refs)) : RV w p t' B :=
  ⟨h.below.trans (ht.below _ (by omega)), Nat.le_trans h.size ht.others.size, (ht.block _ (by omega) (by omega)).trans h.zero, hi⟩
theorem own_apart2 {W : World} {b e n : Nat} {v : Value} {xs : List Value} (h : W.ownsRow (b + 2) e 1 v n xs) : v.ownBlock = none ∨ v.ownBlock ≠ some (b + 1) := by
  rcases h.2 with ⟨rfl, _⟩ | ⟨g, _, _, rfl, h1, _⟩
  · left; rfl
  · right; simp [Value.ownBlock]; omega
theorem hashL : hashW.toList = [104, 97, 115, 104, 32] := by rw [Lib.toList_data]; rfl
theorem derL : derW.toList = [100, 101, 114, 105, 118, 101, 114, 32] := by rw [Lib.toList_data]; rfl
theorem refL : refW.toList = [114, 101, 102, 32] := by rw [Lib.toList_data]; rfl
theorem hasP_size {L w : ByteArray} (h : hasP L w = true) : w.size < L.size := by
  unfold hasP at h
  rw [Bool.and_eq_true] at h
  exact of_decide_eq_true h.1
set_option maxHeartbeats 4000000 in
set_option maxRecDepth 100000 in
theorem rread_of (p s : ByteArray) (w : World) (kk : Nat) (r : Bool) (hp : p.size ≤ 16777216) (hs : s.size ≤ 16777216) (hm : stillroomref11_May.f kk p (rtold s).hash (rtold s).deriver (rtold s).refs = some r) :
    Calls Tryd.prog 8 #[.string p, .string s] w fun e w' => ∃ (h d : ByteArray) (l : List ByteArray) (v : Value) (x : Int), e = .returned (.tuple #[.agg #[.string (if x = 0 then p else ⟨#[]⟩), .string h, .string d, v], .int .i64 x]) ∧ Below w.heap.size w w' ∧ w'.ownsRow w.heap.size 9 1 v l.length (strs l) ∧
      ((r = true ∧ rtextOf (rtold s).hash (rtold s).deriver (rtold s).refs = s ∧ x = 0 ∧ h = (rtold s).hash ∧ d = (rtold s).deriver ∧ l = (rtold s).refs) ∨
       (¬ (r = true ∧ rtextOf (rtold s).hash (rtold s).deriver (rtold s).refs = s) ∧ x = 10 ∧ h = ⟨#[]⟩ ∧ d = ⟨#[]⟩ ∧ l = [])) := by
  have HM := Lib.hid hm
  clear hm
  go_enter Tryd.func8, Tryd.ntmps8
  go_wp2
  have hi0 : InfoAt ((w.alloc (.cells #[.string ⟨#[]⟩, .string ⟨#[]⟩, .string ⟨#[]⟩, .slice none 0 0] 24)).alloc (.cells #[.string p, .string ⟨#[]⟩, .string ⟨#[]⟩, .slice none 0 0] 24)) (w.heap.size + 1) p ⟨#[]⟩ ⟨#[]⟩ (.slice none 0 0) := heap_alloc2_new w _ _
  have hz0 : InfoAt ((w.alloc (.cells #[.string ⟨#[]⟩, .string ⟨#[]⟩, .string ⟨#[]⟩, .slice none 0 0] 24)).alloc (.cells #[.string p, .string ⟨#[]⟩, .string ⟨#[]⟩, .slice none 0 0] 24)) w.heap.size ⟨#[]⟩ ⟨#[]⟩ ⟨#[]⟩ (.slice none 0 0) := heap_alloc2_old w _ _
  have hb0 : Below w.heap.size w ((w.alloc (.cells #[.string ⟨#[]⟩, .string ⟨#[]⟩, .string ⟨#[]⟩, .slice none 0 0] 24)).alloc (.cells #[.string p, .string ⟨#[]⟩, .string ⟨#[]⟩, .slice none 0 0] 24)) := ((Below.refl _ _).alloc (Nat.le_refl _) _).alloc (by simp) _
  have HRV0 := Lib.hid (show RV w p (rst s 0).2 _ from ⟨hb0, by simp, hz0, .slice none 0 0, hi0, ⟨rfl, .inl ⟨rfl, rfl⟩⟩⟩)
  clear hi0 hz0 hb0
  go_loopw [7, 8] (fun f i wr => ∃ k : Nat, k ≤ s.size ∧ i = .int .i64 k ∧ f = .int .i64 ((rst s k).1 : Nat) ∧ RV w p (rst s k).2 wr) (fun _ i _ => s.size - (intOf i).toNat)
  case atStart => exact ⟨0, by omega, rfl, rfl, HRV0.out⟩
  case round =>
    obtain ⟨k, hk, rfl, rfl, hrv⟩ := hrel
    clear HRV0
    obtain ⟨f, hf⟩ : ∃ f, (rst s k).1 = f := ⟨_, rfl⟩
    obtain ⟨t, ht⟩ : ∃ t, (rst s k).2 = t := ⟨_, rfl⟩
    have hfk : f ≤ k := hf ▸ rst_le s k
    rw [hf]
    rw [ht] at hrv
    have HF := Lib.hid hf
    have HTt := Lib.hid ht
    have HRV := Lib.hid hrv
    clear hf ht hrv
    by_cases hlt : k < s.size
    · have hx : ∀ h : k < s.size, ((s[k]'h).toNat : Int) = bt s k := fun h => bt_at s k (by simpa using h)
      by_cases h10 : bt s k = 10
      · have hb10 : (bt s k != 10) = false := by simp [h10]
        go_upto_region 9 with fail
        obtain ⟨L, hL⟩ : ∃ L, s.extract f k = L := ⟨_, rfl⟩
        rw [hL]
        have HLx := Lib.hid hL
        have hLs : L.size ≤ 16777216 := by rw [← hL, ByteArray.size_extract]; omega
        clear hL
        go_cut [37] (fun v wx => v = .bool (hasP L hashW) ∧ wx = wr)
        case first =>
          by_cases h5 : hashW.size < L.size
          · have hd5 : decide ((L.size : Int) > 5) = true := decide_eq_true (by have : hashW.size = 5 := rfl; omega)
            have hh5 : hasP L hashW = ((L.extract 0 5).toList == hashW.toList) := by unfold hasP; rw [decide_eq_true h5]; rfl
            have h5' : 5 ≤ L.size := by have : hashW.size = 5 := rfl; omega
            have HH5 := Lib.hid hh5
            clear hh5
            go_wp2
            go_meet
            exact ⟨by rw [HH5.out, hashL], rfl⟩
          · have hd5 : decide ((L.size : Int) > 5) = false := decide_eq_false (by have : hashW.size = 5 := rfl; omega)
            have HH5 := Lib.hid (show hasP L hashW = false from by unfold hasP; rw [decide_eq_false h5]; rfl)
            go_wp2
            go_meet
            exact ⟨by rw [HH5.out], rfl⟩
        case rest =>
          obtain ⟨rfl, rfl⟩ := hcut
          obtain ⟨b1, hb1⟩ : ∃ b1, hasP L hashW = b1 := ⟨_, rfl⟩
          rw [hb1]
          have HB1 := Lib.hid hb1
          clear hb1
          go_upto_if 37 with fail
          go_cut [] (fun wc => RV w p (tell1 t L) wc)
          case first =>
            obtain ⟨v, hi1, ho1⟩ := HRV.out.info
            cases b1 with
            | true =>
              have hlt5 := hasP_size HB1.out
              have h5' : 5 ≤ L.size := by have : hashW.size = 5 := rfl; omega
              have hc1 := row_cell wc _ _ _ _ 1 hi1
              have hf1 := row_frozen wc _ _ _ 1 hi1
              have HI1 := Lib.hid hi1
              have HO1 := Lib.hid ho1
              clear hi1 ho1 hlt5
              go_wp2
              go_meet
              have e : tell1 t L = { (t) with hash := L.extract 5 L.size } := by unfold tell1; rw [if_pos HB1.out]
              rw [e]
              exact HRV.out.step (turned_set _ _ _ _ _) ⟨v, row_set _ _ _ _ _ 1 _ HI1.out, HO1.out.kept (grownBy_set _ _ _ _) (own_apart2 HO1.out)⟩
            | false =>
              go_wp2
              go_meet
              have e : tell1 t L = t := by unfold tell1; rw [if_neg (by rw [HB1.out]; simp)]
              rw [e]
              exact HRV.out
          case rest =>
          have HRV1 := Lib.hid hcut
          clear hcut
          go_upto_region 11 with fail
          go_cut [48] (fun v wx => v = .bool (hasP L derW) ∧ wx = wc)
          case first =>
            by_cases h5 : derW.size < L.size
            · have hd5 : decide ((L.size : Int) > 8) = true := decide_eq_true (by have : derW.size = 8 := rfl; omega)
              have hh5 : hasP L derW = ((L.extract 0 8).toList == derW.toList) := by unfold hasP; rw [decide_eq_true h5]; rfl
              have h5' : 8 ≤ L.size := by have : derW.size = 8 := rfl; omega
              have HH5 := Lib.hid hh5
              clear hh5
              go_wp2
              go_meet
              exact ⟨by rw [HH5.out, derL], rfl⟩
            · have hd5 : decide ((L.size : Int) > 8) = false := decide_eq_false (by have : derW.size = 8 := rfl; omega)
              have HH5 := Lib.hid (show hasP L derW = false from by unfold hasP; rw [decide_eq_false h5]; rfl)
              go_wp2
              go_meet
              exact ⟨by rw [HH5.out], rfl⟩
          case rest =>
            obtain ⟨rfl, rfl⟩ := hcut
            obtain ⟨b1, hb1⟩ : ∃ b1, hasP L derW = b1 := ⟨_, rfl⟩
            rw [hb1]
            have HB2 := Lib.hid hb1
            clear hb1
            go_upto_if 48 with fail
            go_cut [] (fun wc => RV w p (tell2 (tell1 t L) L) wc)
            case first =>
              obtain ⟨v, hi1, ho1⟩ := HRV1.out.info
              cases b1 with
              | true =>
                have hlt5 := hasP_size HB2.out
                have h5' : 8 ≤ L.size := by have : derW.size = 8 := rfl; omega
                have hc1 := row_cell wc _ _ _ _ 2 hi1
                have hf1 := row_frozen wc _ _ _ 2 hi1
                have HI1 := Lib.hid hi1
                have HO1 := Lib.hid ho1
                clear hi1 ho1 hlt5
                go_wp2
                go_meet
                have e : tell2 (tell1 t L) L = { (tell1 t L) with deriver := L.extract 8 L.size } := by unfold tell2; rw [if_pos HB2.out]
                rw [e]
                exact HRV1.out.step (turned_set _ _ _ _ _) ⟨v, row_set _ _ _ _ _ 2 _ HI1.out, HO1.out.kept (grownBy_set _ _ _ _) (own_apart2 HO1.out)⟩
              | false =>
                go_wp2
                go_meet
                have e : tell2 (tell1 t L) L = tell1 t L := by unfold tell2; rw [if_neg (by rw [HB2.out]; simp)]
                rw [e]
                exact HRV1.out
            case rest =>
            have HRV2 := Lib.hid hcut
            clear hcut
            go_upto_region 13 with fail
            go_cut [59] (fun v wx => v = .bool (hasP L refW) ∧ wx = wc)
            case first =>
              by_cases h5 : refW.size < L.size
              · have hd5 : decide ((L.size : Int) > 4) = true := decide_eq_true (by have : refW.size = 4 := rfl; omega)
                have hh5 : hasP L refW = ((L.extract 0 4).toList == refW.toList) := by unfold hasP; rw [decide_eq_true h5]; rfl
                have h5' : 4 ≤ L.size := by have : refW.size = 4 := rfl; omega
                have HH5 := Lib.hid hh5
                clear hh5
                go_wp2
                go_meet
                exact ⟨by rw [HH5.out, refL], rfl⟩
              · have hd5 : decide ((L.size : Int) > 4) = false := decide_eq_false (by have : refW.size = 4 := rfl; omega)
                have HH5 := Lib.hid (show hasP L refW = false from by unfold hasP; rw [decide_eq_false h5]; rfl)
                go_wp2
                go_meet
                exact ⟨by rw [HH5.out], rfl⟩
            case rest =>
              obtain ⟨rfl, rfl⟩ := hcut
              obtain ⟨b1, hb1⟩ : ∃ b1, hasP L refW = b1 := ⟨_, rfl⟩
              rw [hb1]
              have HB3 := Lib.hid hb1
              clear hb1
              go_upto_if 59 with fail
              obtain ⟨v, hi1, ho1⟩ := HRV2.out.info
              have hk1 : wrap64 ((k : Int) + 1) = ((k + 1 : Nat) : Int) := by unfold wrap64; omega
              have hest : rst s (k + 1) = (k + 1, rtell t L) := by rw [rst_succ]; unfold rstep; rw [if_pos h10, HF.out, HTt.out, HLx.out]
              have HEst := Lib.hid hest
              clear hest
              cases b1 with
              | true =>
                have hlt5 := hasP_size HB3.out
                have h5' : 4 ≤ L.size := by have : refW.size = 4 := rfl; omega
                have hc1 := row_cell wc _ _ _ _ 3 hi1
                have hf1 := row_frozen wc _ _ _ 3 hi1
                have HI1 := Lib.hid hi1
                have HO1 := Lib.hid ho1
                clear hi1 ho1 hlt5
                have HSd := Lib.hid (show w.heap.size + 2 ≤ wc.drew.heap.size from HRV2.out.size)
                have HRf := Lib.hid (show ((tell2 (tell1 t L) L).refs.length + 1) * 16 ≤ 140737488355328 from by
                  have h1 := rst_refs s k
                  rw [HTt.out] at h1
                  have h2 : (tell2 (tell1 t L) L).refs = t.refs := by unfold tell2 tell1; split <;> split <;> rfl
                  rw [h2]
                  omega)
                have HId := Lib.hid (show InfoAt wc.drew (w.heap.size + 1) p (tell2 (tell1 t L) L).hash (tell2 (tell1 t L) L).deriver v from HI1.out)
                have HOd := Lib.hid (show wc.drew.ownsRow (w.heap.size + 2) 9 1 v (tell2 (tell1 t L) L).refs.length (strs (tell2 (tell1 t L) L).refs) from HO1.out)
                have h5i : (4 : Int) ≤ (L.size : Int) := by omega
                have hc1a : ∀ o, (wc.alloc o).cell? ⟨w.heap.size + 1, 3, none⟩ = some v := fun o => row_cell _ _ _ _ (0, 0) 3 ((heap_alloc_old _ _ _ (Array.getElem?_eq_some_iff.1 HI1.out).1).trans HI1.out)
                go_wp2
                go_region_law (refine step_append_cells (w0 := wc.drew) (w.heap.size + 2) rfl (.tmp 61) (.tmp 64) 22 9 (.string ⟨#[]⟩) 1 16 rfl Tryd.underlying22 (by kernel_rfl) rfl (by decide) (by decide) v _ (strs (tell2 (tell1 t L) L).refs) [.string (L.extract 4 L.size)] rfl rfl rfl (by simp [Value.oneCell']) HOd.out (Below.refl _ _) HSd.out HRf.out ?_; intro v1 w1 ho hbl hg hat; obtain ⟨g1, cap1, rfl⟩ := ownsRow_succ ho; have hi2 := (hg.block (w.heap.size + 1) (Array.getElem?_eq_some_iff.1 HId.out).1 (fun e => by have := (HOd.out.lt _ e.symm).1; omega)).trans HId.out; have hc2 := row_cell w1 _ _ _ (0, 0) 3 hi2; have hf2 := row_frozen w1 _ _ _ 3 hi2)
                all_goals
                  have e : rtell t L = { (tell2 (tell1 t L) L) with refs := (tell2 (tell1 t L) L).refs ++ [L.extract 4 L.size] } := by unfold rtell tell3; rw [if_pos HB3.out]
                  have HRVe := Lib.hid (show RV w p (rst s (k + 1)).2 (w1.setCell ⟨w.heap.size + 1, 3, none⟩ (.slice (some ⟨g1, 0, none⟩) ((tell2 (tell1 t L) L).refs.length + 1) cap1)) from by
                    rw [HEst.out, e]
                    refine ⟨(HRV2.out.below.drew.trans (hbl.mono (by omega))).setCell (p := ⟨w.heap.size + 1, 3, none⟩) (by show w.heap.size ≤ w.heap.size + 1; omega) _, Nat.le_trans HRV2.out.size (Nat.le_trans hbl.size (by simp [World.setCell])), (Below.heap_setCell _ _ _ _ (by show w.heap.size ≠ w.heap.size + 1; omega)).trans ((hbl.block _ (by omega)).trans HRV2.out.zero), _, row_set _ _ _ _ _ 3 _ hi2, ?_⟩
                    have h2 := ho.kept (grownBy_set w1 (w.heap.size + 1) 3 (.slice (some ⟨g1, 0, none⟩) ((tell2 (tell1 t L) L).refs.length + 1) cap1)) (own_apart2 ho)
                    rw [List.length_append, List.length_singleton]
                    have e2 : strs ((tell2 (tell1 t L) L).refs ++ [L.extract 4 L.size]) = strs (tell2 (tell1 t L) L).refs ++ [Value.string (L.extract 4 L.size)] := by simp [strs]
                    rw [e2]
                    exact h2)
                  clear ho hbl hg hat hi2 e
                  go_wp2
                  go_roundw
                  case rel => exact ⟨k + 1, hlt, by simp, by rw [HEst.out]; rfl, HRVe.out⟩
                  case measure =>
                    show s.size - ((k : Int) + 1).toNat < s.size - ((k : Nat) : Int).toNat
                    rw [show ((k : Int) + 1).toNat = k + 1 by omega, Int.toNat_natCast]
                    exact Nat.sub_lt_sub_left hlt (Nat.lt_succ_self k)
              | false =>
                have e : rtell t L = tell2 (tell1 t L) L := by unfold rtell tell3; rw [if_neg (by rw [HB3.out]; simp)]
                have HRVe := Lib.hid (show RV w p (rst s (k + 1)).2 wc from by rw [HEst.out, e]; exact HRV2.out)
                clear hi1 ho1 e
                go_wp2
                go_roundw
                case rel => exact ⟨k + 1, hlt, by simp, by rw [HEst.out]; rfl, HRVe.out⟩
                case measure =>
                  show s.size - ((k : Int) + 1).toNat < s.size - ((k : Nat) : Int).toNat
                  rw [show ((k : Int) + 1).toNat = k + 1 by omega, Int.toNat_natCast]
                  exact Nat.sub_lt_sub_left hlt (Nat.lt_succ_self k)
      · have hb10 : (bt s k != 10) = true := by simp [h10]
        have hest : rst s (k + 1) = rst s k := by rw [rst_succ]; unfold rstep; rw [if_neg h10]
        have HRVe := Lib.hid (show RV w p (rst s (k + 1)).2 wr from by rw [hest, HTt.out]; exact HRV.out)
        have HEst := Lib.hid (show (rst s (k + 1)).1 = f from by rw [hest]; exact HF.out)
        clear hest
        go_wp2
        go_roundw
        case rel => exact ⟨k + 1, hlt, by simp, by rw [HEst.out], HRVe.out⟩
        case measure =>
          show s.size - ((k : Int) + 1).toNat < s.size - ((k : Nat) : Int).toNat
          rw [show ((k : Int) + 1).toNat = k + 1 by omega, Int.toNat_natCast]
          exact Nat.sub_lt_sub_left hlt (Nat.lt_succ_self k)
    · obtain rfl : k = s.size := by omega
      have hsz := rtold_sizes s hs
      obtain ⟨th, hth⟩ : ∃ th, (rtold s).hash = th := ⟨_, rfl⟩
      obtain ⟨td, htd⟩ : ∃ td, (rtold s).deriver = td := ⟨_, rfl⟩
      obtain ⟨tl, htl⟩ : ∃ tl, (rtold s).refs = tl := ⟨_, rfl⟩
      have HM2 := Lib.hid (show stillroomref11_May.f kk p th td tl = some r from by rw [← hth, ← htd, ← htl]; exact HM.out)
      have het : rtold s = t := HTt.out
      rw [hth, htd, htl] at hsz
      obtain ⟨v, hi1, ho1⟩ := HRV.out.info
      rw [← het] at hi1 ho1
      rw [hth, htd] at hi1
      rw [htl] at ho1
      have HTh := Lib.hid hth
      have HTd := Lib.hid htd
      have HTl := Lib.hid htl
      clear hth htd htl het
      obtain ⟨A, c, rfl, hc, hC⟩ := Kd.R_reads (d := Kd.string) (Kd.R_of_own (enc := Value.string) (h1 := fun _ => rfl) (ok := fun _ => True) (xs := tl) ho1 (fun _ _ => trivial))
      obtain ⟨c0, c1, c2, c3⟩ := info_cells hi1
      have HO1 := Lib.hid ho1
      have HCc := Lib.hid hc
      have HC := Lib.hid hC
      have HSz := Lib.hid hsz
      have HI1 := Lib.hid hi1
      clear ho1 hc hC hsz hi1
      go_wp2_with (go_at_call 6; refine (rtext_of kk r p th td tl A c _ HM2.out HSz.out.1 HSz.out.2.1 HC.out HCc.out (Nat.le_trans HSz.out.2.2.2 (by decide)) HSz.out.2.2.1).mono ?_; rintro e w7 ⟨tt, x, rfl, hb7, hx⟩; refine Hid.out ?_)
      refine Lib.hid ?_
      have hz7 : InfoAt w7 w.heap.size ⟨#[]⟩ ⟨#[]⟩ ⟨#[]⟩ (.slice none 0 0) := HRV.out.zero.kept hb7
      have hi7 : InfoAt w7 (w.heap.size + 1) p th td (.slice A tl.length c) := HI1.out.kept hb7
      have ho7 : w7.ownsRow (w.heap.size + 2) 9 1 (.slice A tl.length c) tl.length (strs tl) := by
        have h := HO1.out
        refine ⟨h.1, ?_⟩
        rcases h.2 with h2 | ⟨g, cap, cur, h2, h3, h4, h5⟩
        · exact .inl h2
        · exact .inr ⟨g, cap, cur, h2, h3, (hb7.block _ (Array.getElem?_eq_some_iff.1 h4).1).trans h4, h5⟩
      have hb : Below w.heap.size w w7 := HRV.out.below.trans (hb7.mono (by have := HRV.out.size; omega))
      obtain ⟨z0, z1, z2, z3⟩ := info_cells hz7
      obtain ⟨d0, d1, d2, d3⟩ := info_cells hi7
      have f0 := row_frozen w7 _ _ _ 0 hz7
      have f1 := row_frozen w7 _ _ _ 1 hz7
      have f2 := row_frozen w7 _ _ _ 2 hz7
      have f3 := row_frozen w7 _ _ _ 3 hz7
      have HZ7 := Lib.hid hz7
      have HO7 := Lib.hid ho7
      have HB7 := Lib.hid hb
      clear hz7 hi7 ho7 hb hb7 c0 c1 c2 c3
      rcases hx with ⟨hok, rfl, rfl⟩ | ⟨hno, rfl, rfl⟩
      · by_cases heq : rtextOf th td tl = s
        · have hne : ((rtextOf th td tl).toList != s.toList) = false := by rw [heq]; simp
          have HE := Lib.hid (show r = true ∧ rtextOf th td tl = s from ⟨hok, heq⟩)
          go_wp2_with fail
          obtain ⟨e1, e2, e3⟩ := read_end2 (y0 := .string p) (y1 := .string th) (y2 := .string td) (y3 := .slice A tl.length c) rfl HZ7.out HB7.out
          refine bodyPost_ret (results_cell2 Tryd.results8 rfl e1) rfl ?_
          exact ⟨th, td, tl, _, 0, rfl, e2, e3 _ _ _ HO7.out, .inl ⟨HE.out.1, by rw [HTh.out, HTd.out, HTl.out]; exact HE.out.2, rfl, HTh.out.symm, HTd.out.symm, HTl.out.symm⟩⟩
        · have hne : ((rtextOf th td tl).toList != s.toList) = true := bne_iff_ne.2 (fun e => heq (ByteArray.ext (by rw [← Array.toList_inj, ← Lib.toList_data, ← Lib.toList_data]; exact e)))
          have hne2 : ((rtextOf th td tl).toList == s.toList) = false := by simpa using hne
          have HE := Lib.hid (show ¬ (r = true ∧ rtextOf th td tl = s) from fun h => heq h.2)
          go_wp2_with fail
          obtain ⟨e1, e2, e3⟩ := read_end2 (y0 := .string ⟨#[]⟩) (y1 := .string ⟨#[]⟩) (y2 := .string ⟨#[]⟩) (y3 := .slice none 0 0) rfl HZ7.out HB7.out
          refine bodyPost_ret (results_cell2 Tryd.results8 rfl e1) rfl ?_
          exact ⟨⟨#[]⟩, ⟨#[]⟩, [], .slice none 0 0, 10, rfl, e2, ⟨rfl, .inl ⟨rfl, rfl⟩⟩, .inr ⟨by rw [HTh.out, HTd.out, HTl.out]; exact HE.out, rfl, rfl, rfl, rfl⟩⟩
      · have HE := Lib.hid (show ¬ (r = true ∧ rtextOf th td tl = s) from fun h => by rw [hno] at h; cases h.1)
        go_wp2_with fail
        obtain ⟨e1, e2, e3⟩ := read_end2 (y0 := .string ⟨#[]⟩) (y1 := .string ⟨#[]⟩) (y2 := .string ⟨#[]⟩) (y3 := .slice none 0 0) rfl HZ7.out HB7.out
        refine bodyPost_ret (results_cell2 Tryd.results8 rfl e1) rfl ?_
        exact ⟨⟨#[]⟩, ⟨#[]⟩, [], .slice none 0 0, 10, rfl, e2, ⟨rfl, .inl ⟨rfl, rfl⟩⟩, .inr ⟨by rw [HTh.out, HTd.out, HTl.out]; exact HE.out, rfl, rfl, rfl, rfl⟩⟩
end Go.Proofs.YtcmlifbfegblgaaDoor
