/- Both readers read the same (plain law). -/
import Derived.Test.YtcmlifbfegblgaaDoorBr
namespace Go.Proofs.YtcmlifbfegblgaaDoor
set_option linter.unusedVariables false
set_option linter.unusedSimpArgs false
open Go.RowKit Go.Proofs.YtcmlifbfegblgaaDoorW.PrintWords Go.Proofs.YtcmlifbfegblgaaDoorW.PrintLast Go.Proofs.YtcmlifbfegblgaaDoorW.PrintMore
open Go.Proofs.YtcmlifbfegblgaaDoor.QObjectTexts

theorem bt_list (s : ByteArray) (i : Nat) (h : i < s.size) : bt s (i : Int) = ((s.data.toList[i]'(by rw [Array.length_toList]; exact h)).toNat : Int) := by
  have h1 : ((i : Int)).toNat < s.size := by omega
  unfold bt
  rw [dif_pos h1]
  simp only [Int.toNat_natCast]
  rfl
theorem no10 (s : ByteArray) (h : ∀ i : Nat, i < s.size → bt s i ≠ 10) : (10 : UInt8) ∉ s.data.toList := by
  intro hm
  obtain ⟨i, hi, e⟩ := List.mem_iff_getElem.1 hm
  have hi2 : i < s.size := by rw [Array.length_toList] at hi; exact hi
  refine h i hi2 ?_
  rw [bt_list s i hi2, e]
  rfl
theorem sgn_ten (s : ByteArray) (i : Int) (h : 0 ≤ sgn s i) : bt s i ≠ 10 := by
  have H : ∀ m : Fin 32, bt signs (m.val : Int) ≠ 10 := by decide +kernel
  rw [← sgn_back s i h]
  obtain ⟨n, hn⟩ := Int.eq_ofNat_of_zero_le h
  have h2 := sgn_le s i
  rw [hn]
  exact H ⟨n, by omega⟩
theorem hash_no10 (h : ByteArray) (hh : HashOk h) : (10 : UInt8) ∉ h.data.toList :=
  no10 h fun i hi => sgn_ten h i (hh.1.2.1 i (by omega) (by omega))
theorem bt_extract2 (s : ByteArray) (a b n : Nat) (h : a + n < b) (hb : b ≤ s.size) : bt (s.extract a b) (n : Int) = bt s ((a + n : Nat) : Int) := by
  have h1 : ((n : Int)).toNat < (s.extract a b).size := by rw [ByteArray.size_extract]; omega
  have h2 : (((a + n : Nat) : Int)).toNat < s.size := by omega
  unfold bt
  rw [dif_pos h1, dif_pos h2]
  simp only [Int.toNat_natCast, ByteArray.getElem_extract]
theorem path_no10 (p : ByteArray) (hp : PathOk p) : (10 : UInt8) ∉ p.data.toList := by
  obtain ⟨h41, hst, h45, hn, hd⟩ := (path_iff p).1 hp
  refine no10 p fun i hi => ?_
  by_cases h7 : i < 7
  · rw [bt_list p i hi]
    have e : p.data.toList.take 7 = [47, 115, 116, 111, 114, 101, 47] := by
      rw [storeL, Lib.toList_data, extract_list] at hst
      simpa using hst
    have e2 : (p.data.toList.take 7)[i]? = some (p.data.toList[i]'(by rw [Array.length_toList]; exact hi)) := by
      rw [List.getElem?_take_of_lt h7]
      exact List.getElem?_eq_getElem _
    rw [e] at e2
    have hc : i = 0 ∨ i = 1 ∨ i = 2 ∨ i = 3 ∨ i = 4 ∨ i = 5 ∨ i = 6 := by omega
    rcases hc with rfl | rfl | rfl | rfl | rfl | rfl | rfl <;> (simp only [List.getElem?_cons_zero, List.getElem?_cons_succ, Option.some.injEq] at e2; rw [← e2]; decide)
  · by_cases h39 : i < 39
    · have h1 := sgn_ten (p.extract 7 39) ((i - 7 : Nat) : Int) (hd.2.1 _ (by omega) (by rw [ByteArray.size_extract]; omega))
      rw [bt_extract2 p 7 39 (i - 7) (by omega) (by omega), show 7 + (i - 7) = i by omega] at h1
      exact h1
    · by_cases h40 : i = 39
      · subst h40
        rw [show ((39 : Nat) : Int) = 39 from rfl, h45]
        decide
      · have h1 := hn.2.2.2 ((i - 40 : Nat) : Int) (by omega) (by rw [ByteArray.size_extract]; omega)
        rw [bt_extract p 40 (i - 40) (by omega), show 40 + (i - 40) = i by omega] at h1
        unfold inName at h1
        omega
theorem app_no10 (a b : ByteArray) (ha : (10 : UInt8) ∉ a.data.toList) (hb : (10 : UInt8) ∉ b.data.toList) : (10 : UInt8) ∉ (a ++ b).data.toList := by
  rw [data_app]
  intro h
  rcases List.mem_append.1 h with h | h
  · exact ha h
  · exact hb h
theorem rows_no10 {p h d : ByteArray} {l : List ByteArray} (hi : InfoOk p h d l) : ∀ r ∈ rowsAll h d l, (10 : UInt8) ∉ r.data.toList := by
  obtain ⟨hh, _, hd, _, hl⟩ := hi
  intro r hr
  have e1 : (10 : UInt8) ∉ hashW.data.toList := by decide
  have e2 : (10 : UInt8) ∉ derW.data.toList := by decide
  have e3 : (10 : UInt8) ∉ refW.data.toList := by decide
  unfold rowsAll at hr
  rcases List.mem_append.1 hr with hr | hr
  · unfold rows at hr
    split at hr
    · rw [List.mem_singleton.1 hr]; exact app_no10 _ _ e1 (hash_no10 h hh)
    · rename_i hne
      rcases List.mem_cons.1 hr with hr | hr
      · rw [hr]; exact app_no10 _ _ e1 (hash_no10 h hh)
      · rw [List.mem_singleton.1 hr]; exact app_no10 _ _ e2 (path_no10 d (hd.resolve_left hne))
  · obtain ⟨x, hx, rfl⟩ := List.mem_map.1 hr
    obtain ⟨i, hi, rfl⟩ := List.mem_iff_getElem.1 hx
    have := hl i hi
    simp [hi, List.getD] at this
    exact app_no10 _ _ e3 (path_no10 _ this)
theorem tell_hash (t : Told) (h : ByteArray) : tell t ((hashW ++ h) ++ nlW) = { t with hash := h } := by
  have hw := word_row [104, 97, 115, 104] h.data.toList (hashW ++ h) (by decide) (by rw [data_app]; rfl)
  unfold tell
  have eh : (⟨h.data.toList.toArray⟩ : ByteArray) = h := ba_ext (by simp)
  rw [trim_row, hw.1, hw.2, eh, if_pos (show (⟨#[104, 97, 115, 104]⟩ : ByteArray) = wHash from rfl)]
theorem tell_der (t : Told) (h : ByteArray) : tell t ((derW ++ h) ++ nlW) = { t with deriver := h } := by
  have hw := word_row [100, 101, 114, 105, 118, 101, 114] h.data.toList (derW ++ h) (by decide) (by rw [data_app]; rfl)
  unfold tell
  have eh : (⟨h.data.toList.toArray⟩ : ByteArray) = h := ba_ext (by simp)
  rw [trim_row, hw.1, hw.2, eh, if_neg (fun e => absurd (congrArg ByteArray.size e) (by decide)), if_pos (show (⟨#[100, 101, 114, 105, 118, 101, 114]⟩ : ByteArray) = wDer from rfl)]
theorem tell_ref (t : Told) (h : ByteArray) : tell t ((refW ++ h) ++ nlW) = { t with refs := t.refs ++ [h] } := by
  have hw := word_row [114, 101, 102] h.data.toList (refW ++ h) (by decide) (by rw [data_app]; rfl)
  unfold tell
  have eh : (⟨h.data.toList.toArray⟩ : ByteArray) = h := ba_ext (by simp)
  rw [trim_row, hw.1, hw.2, eh, if_neg (fun e => absurd (congrArg ByteArray.size e) (by decide)), if_neg (fun e => absurd (congrArg ByteArray.size e) (by decide)), if_pos (show (⟨#[114, 101, 102]⟩ : ByteArray) = wRef from rfl)]
theorem tell_refs : ∀ (l : List ByteArray) (t : Told), ((l.map (refW ++ ·)).map (· ++ nlW)).foldl tell t = { t with refs := t.refs ++ l }
  | [], t => by simp
  | x :: r, t => by
    simp only [List.map_cons, List.foldl_cons]
    rw [tell_ref, tell_refs r]
    simp
theorem told_text {p h d : ByteArray} {l : List ByteArray} (hi : InfoOk p h d l) : told (linesOf (textOf h d l)) = ⟨h, d, l⟩ := by
  rw [lines_flat _ _ (text_flat h d l) (rows_no10 hi)]
  unfold told rowsAll rows
  rw [List.map_append, List.foldl_append]
  split
  · rename_i hd
    simp only [List.map_cons, List.map_nil, List.foldl_cons, List.foldl_nil]
    rw [tell_hash, tell_refs]
    have e : d = ⟨#[]⟩ := ba_ext (by rw [← Lib.toList_data, hd])
    rw [e]
    simp
  · simp only [List.map_cons, List.map_nil, List.foldl_cons, List.foldl_nil]
    rw [tell_hash, tell_der, tell_refs]
    simp
theorem hasP_yes (W x : ByteArray) (hx : 0 < x.size) : hasP (W ++ x) W = true ∧ (W ++ x).extract W.size (W ++ x).size = x := by
  have h1 : (W ++ x).extract 0 W.size = W := by
    apply ba_ext
    rw [extract_list, data_app]
    have : W.data.toList.length = W.size := by rw [Array.length_toList]; rfl
    rw [List.drop_zero, ← this, List.take_left']
    rfl
  have h2 : (W ++ x).extract W.size (W ++ x).size = x := by
    apply ba_ext
    rw [extract_list, data_app]
    have e1 : W.data.toList.length = W.size := by rw [Array.length_toList]; rfl
    have e2 : x.data.toList.length = x.size := by rw [Array.length_toList]; rfl
    rw [List.take_of_length_le (by rw [List.length_append, ByteArray.size_append]; omega), ← e1, List.drop_left']
    rfl
  refine ⟨?_, h2⟩
  unfold hasP
  rw [h1, decide_eq_true (show W.size < (W ++ x).size by rw [ByteArray.size_append]; omega)]
  simp
theorem hasP_no (L W : ByteArray) (a b : UInt8) (la lw : List UInt8) (hL : L.data.toList = a :: la) (hW : W.data.toList = b :: lw) (h : a ≠ b) : hasP L W = false := by
  unfold hasP
  rw [Bool.and_eq_false_iff]
  right
  apply beq_eq_false_iff_ne.2
  rw [Lib.toList_data, Lib.toList_data, extract_list, hL, hW]
  have hs : W.size = lw.length + 1 := by
    have := congrArg List.length hW
    rw [Array.length_toList] at this
    exact this
  rw [hs, List.take_succ_cons, List.drop_zero]
  intro e
  exact h (List.cons.inj e).1
theorem rtell_hash (t : Told) (h : ByteArray) (hh : 0 < h.size) : rtell t (hashW ++ h) = { t with hash := h } := by
  have h1 := hasP_yes hashW h hh
  have h2 : hasP (hashW ++ h) derW = false := hasP_no _ _ 104 100 _ _ (by rw [data_app]; rfl) rfl (by decide)
  have h3 : hasP (hashW ++ h) refW = false := hasP_no _ _ 104 114 _ _ (by rw [data_app]; rfl) rfl (by decide)
  unfold rtell tell3 tell2 tell1
  rw [if_pos h1.1, h2, h3, if_neg (by decide), if_neg (by decide)]
  have e : (hashW ++ h).extract 5 (hashW ++ h).size = h := h1.2
  rw [e]
theorem rtell_der (t : Told) (h : ByteArray) (hh : 0 < h.size) : rtell t (derW ++ h) = { t with deriver := h } := by
  have h1 := hasP_yes derW h hh
  have h2 : hasP (derW ++ h) hashW = false := hasP_no _ _ 100 104 _ _ (by rw [data_app]; rfl) rfl (by decide)
  have h3 : hasP (derW ++ h) refW = false := hasP_no _ _ 100 114 _ _ (by rw [data_app]; rfl) rfl (by decide)
  unfold rtell tell3 tell2 tell1
  rw [if_pos h1.1, h2, h3, if_neg (by decide), if_neg (by decide)]
  have e : (derW ++ h).extract 8 (derW ++ h).size = h := h1.2
  rw [e]
theorem rtell_ref (t : Told) (h : ByteArray) (hh : 0 < h.size) : rtell t (refW ++ h) = { t with refs := t.refs ++ [h] } := by
  have h1 := hasP_yes refW h hh
  have h2 : hasP (refW ++ h) hashW = false := hasP_no _ _ 114 104 _ _ (by rw [data_app]; rfl) rfl (by decide)
  have h3 : hasP (refW ++ h) derW = false := hasP_no _ _ 114 100 _ _ (by rw [data_app]; rfl) rfl (by decide)
  unfold rtell tell3 tell2 tell1
  rw [if_pos h1.1, h2, h3, if_neg (by decide), if_neg (by decide)]
  have e : (refW ++ h).extract 4 (refW ++ h).size = h := h1.2
  rw [e]
theorem rtell_refs : ∀ (l : List ByteArray) (t : Told), (∀ x ∈ l, 0 < x.size) → (l.map (refW ++ ·)).foldl rtell t = { t with refs := t.refs ++ l }
  | [], t, _ => by simp
  | x :: r, t, h => by
    simp only [List.map_cons, List.foldl_cons]
    rw [rtell_ref t x (h x (by simp)), rtell_refs r _ (fun y hy => h y (by simp [hy]))]
    simp
/-- No end of a line between two places: the state stays. -/
theorem rst_line (s : ByteArray) (a : Nat) : ∀ n, (∀ i, a ≤ i → i < a + n → bt s (i : Int) ≠ 10) → rst s (a + n) = rst s a
  | 0, _ => rfl
  | n + 1, h => by
    rw [show a + (n + 1) = (a + n) + 1 by omega, rst_succ]
    unfold rstep
    rw [if_neg (h (a + n) (by omega) (by omega))]
    exact rst_line s a n (fun i h1 h2 => h i h1 (by omega))
theorem rst_flat : ∀ (rs : List ByteArray) (pre : List UInt8) (s : ByteArray) (t : Told), s.data.toList = pre ++ flat rs → (∀ r ∈ rs, (10 : UInt8) ∉ r.data.toList) → rst s pre.length = (pre.length, t) → rst s s.size = (s.size, rs.foldl rtell t)
  | [], pre, s, t, hs, _, hst => by
    have e : s.size = pre.length := by
      have := congrArg List.length hs
      rw [Array.length_toList] at this
      simpa [flat] using this
    rw [e]
    exact hst
  | r :: rs, pre, s, t, hs, h, hst => by
    have hs2 : s.data.toList = (pre ++ r.data.toList ++ [10]) ++ flat rs := by rw [hs, flat_cons]; simp
    have hrl : r.data.toList.length = r.size := by rw [Array.length_toList]; rfl
    have hsz : s.size = pre.length + r.size + 1 + (flat rs).length := by
      have := congrArg List.length hs2
      rw [Array.length_toList] at this
      simp only [List.length_append, List.length_singleton, hrl] at this
      exact this
    have hget : ∀ i, i < r.size → bt s ((pre.length + i : Nat) : Int) ≠ 10 := by
      intro i hi
      rw [bt_list s (pre.length + i) (by omega)]
      intro e
      have e2 : (s.data.toList[pre.length + i]'(by rw [Array.length_toList]; show pre.length + i < s.size; omega)) = (10 : UInt8) := UInt8.toNat_inj.1 (by rw [show (10 : UInt8).toNat = 10 from rfl]; omega)
      have e3 : s.data.toList[pre.length + i]? = r.data.toList[i]? := by
        rw [hs2, List.append_assoc, List.append_assoc, List.getElem?_append_right (by omega), List.getElem?_append_left (by rw [hrl]; omega)]
        congr 1
        omega
      rw [List.getElem?_eq_getElem (by rw [Array.length_toList]; show pre.length + i < s.size; omega), e2] at e3
      exact h r (by simp) (List.mem_of_getElem? e3.symm)
    have hend : bt s ((pre.length + r.size : Nat) : Int) = 10 := by
      rw [bt_list s _ (by omega)]
      have e3 : s.data.toList[pre.length + r.size]? = some 10 := by
        rw [hs2, List.append_assoc, List.append_assoc, List.getElem?_append_right (by omega), List.getElem?_append_right (by rw [hrl]; omega), hrl]
        rw [show pre.length + r.size - pre.length - r.size = 0 by omega]
        rfl
      rw [List.getElem?_eq_getElem (by rw [Array.length_toList]; show pre.length + r.size < s.size; omega)] at e3
      rw [Option.some.inj e3]
      rfl
    have hmid : rst s (pre.length + r.size) = (pre.length, t) := by
      rw [rst_line s pre.length r.size (fun i h1 h2 => by
        have := hget (i - pre.length) (by omega)
        rwa [show pre.length + (i - pre.length) = i by omega] at this)]
      exact hst
    have hext : s.extract pre.length (pre.length + r.size) = r := by
      apply ba_ext
      rw [extract_list, hs2, List.append_assoc, List.append_assoc, List.take_append, List.drop_append]
      simp [hrl]
    have hnext : rst s (pre ++ r.data.toList ++ [10]).length = ((pre ++ r.data.toList ++ [10]).length, rtell t r) := by
      have el : (pre ++ r.data.toList ++ [10]).length = pre.length + r.size + 1 := by simp [hrl]; omega
      rw [el, rst_succ]
      unfold rstep
      rw [if_pos hend, hmid]
      simp only [hext]
    rw [List.foldl_cons]
    exact rst_flat rs (pre ++ r.data.toList ++ [10]) s _ hs2 (fun x hx => h x (by simp [hx])) hnext
theorem path_pos {p : ByteArray} (h : PathOk p) : 0 < p.size := by
  have := ((path_iff p).1 h).1
  omega
theorem rtold_text {p h d : ByteArray} {l : List ByteArray} (hi : InfoOk p h d l) : rtold (textOf h d l) = ⟨h, d, l⟩ := by
  have h0 : rst (textOf h d l) (([] : List UInt8)).length = (([] : List UInt8).length, ⟨⟨#[]⟩, ⟨#[]⟩, []⟩) := rfl
  have hr := rst_flat (rowsAll h d l) [] (textOf h d l) _ (by rw [text_flat]; rfl) (rows_no10 hi) h0
  unfold rtold
  rw [hr]
  obtain ⟨hh, _, hd, _, hl⟩ := hi
  have hhp : 0 < h.size := by have := hh.2; omega
  have hlp : ∀ x ∈ l, 0 < x.size := by
    intro x hx
    obtain ⟨i, hi, rfl⟩ := List.mem_iff_getElem.1 hx
    have := hl i hi
    simp [hi, List.getD] at this
    exact path_pos this
  unfold rowsAll rows
  rw [List.foldl_append]
  split
  · rename_i hd0
    simp only [List.foldl_cons, List.foldl_nil]
    rw [rtell_hash _ _ hhp, rtell_refs _ _ hlp]
    have e : d = ⟨#[]⟩ := ba_ext (by rw [← Lib.toList_data, hd0])
    rw [e]
    simp
  · rename_i hd0
    simp only [List.foldl_cons, List.foldl_nil]
    rw [rtell_hash _ _ hhp, rtell_der _ _ (path_pos (hd.resolve_left hd0)), rtell_refs _ _ hlp]
    simp
/-- Both readers take the same texts, and tell the same of them. -/
theorem reads_iff (p s : ByteArray) : (InfoOk p (told (linesOf s)).hash (told (linesOf s)).deriver (told (linesOf s)).refs ∧ textOf (told (linesOf s)).hash (told (linesOf s)).deriver (told (linesOf s)).refs = s) ↔ (InfoOk p (rtold s).hash (rtold s).deriver (rtold s).refs ∧ rtextOf (rtold s).hash (rtold s).deriver (rtold s).refs = s) := by
  constructor
  · rintro ⟨h1, h2⟩
    have h3 := rtold_text h1
    rw [h2] at h3
    rw [h3]
    exact ⟨h1, (texts_eq _ _ _).trans h2⟩
  · rintro ⟨h1, h2⟩
    rw [texts_eq] at h2
    have h3 := told_text h1
    rw [h2] at h3
    rw [h3]
    exact ⟨h1, h2⟩
theorem reads_same (p s : ByteArray) (h : InfoOk p (told (linesOf s)).hash (told (linesOf s)).deriver (told (linesOf s)).refs ∧ textOf (told (linesOf s)).hash (told (linesOf s)).deriver (told (linesOf s)).refs = s) : rtold s = told (linesOf s) := by
  have h3 := rtold_text h.1
  rw [h.2] at h3
  exact h3
end Go.Proofs.YtcmlifbfegblgaaDoor
