/- Bundles as words and back: the plain laws. -/
import Derived.Test.YtcibkoodnfkogaaBu9
namespace Go.Proofs.Ytcibkoodnfkogaa
open Go.RowKit
set_option linter.unusedVariables false
set_option linter.unusedSimpArgs false
theorem wordO_N {o : Op} (ho : o.wf) (h : chk o = true) : wordO (wordN o) = o := by
  obtain ⟨h0, h1, h2, h3, h4, h5, h6⟩ := chk_bd h
  obtain ⟨_, _, d0, _, a0, _, b0, _, _, _⟩ := ho
  obtain ⟨k, d, a, b, n⟩ := o
  simp only at *
  unfold wordO wordN wrap32
  simp only [Op.mk.injEq]
  refine ⟨?_, ?_, ?_, ?_, ?_⟩ <;> omega
theorem wordN_O {x : Int} (h0 : 0 ≤ x) (h : wordB x = true) : wordN (wordO x) = x := by
  unfold wordB at h
  rw [Bool.and_eq_true, beq_iff_eq] at h
  have h1 := h.1
  unfold wordO wordN wrap32
  simp only
  omega
theorem wordN_bd {o : Op} (ho : o.wf) (h : chk o = true) : 0 ≤ wordN o ∧ wordN o < 9007199254740992 ∧ wordN o % 64 = o.k := by
  obtain ⟨h0, h1, h2, h3, h4, h5, h6⟩ := chk_bd h
  obtain ⟨_, _, d0, _, a0, _, b0, _, _, _⟩ := ho
  unfold wordN
  refine ⟨?_, ?_, ?_⟩ <;> omega
theorem wordB_N {o : Op} (ho : o.wf) (h : chk o = true) : wordB (wordN o) = true := by
  have hb := wordN_bd ho h
  unfold wordB
  rw [wordO_N ho h, h, Bool.and_true, beq_iff_eq]
  omega
theorem cls_pos {k : Int} (h : clsB k = true) : k ≠ 0 := by
  rintro rfl
  have : clsB 0 = false := by decide +kernel
  rw [this] at h
  cases h
theorem opC_cls {c : Int} {o : Op} (h : opC c o = true) : clsB o.k = true ∧ (clsN o.k == c) = true := by
  unfold opC at h
  rw [Bool.and_eq_true, Bool.and_eq_true] at h
  exact h.1
theorem wOk_N {c : Int} {o : Op} (ho : o.wf) (h : opC c o = true) : wOk c (wordN o) = true := by
  have hc := opC_chk h
  obtain ⟨h1, h2⟩ := opC_cls h
  unfold wOk
  rw [wordB_N ho hc, wordO_N ho hc, h1, h2]
  rfl
theorem wOk_op {c x : Int} (h : wOk c x = true) : wordB x = true ∧ opC c (wordO x) = true := by
  unfold wOk at h
  rw [Bool.and_eq_true, Bool.and_eq_true] at h
  obtain ⟨h1, h2, h3⟩ := h
  refine ⟨h1, ?_⟩
  unfold opC
  unfold wordB at h1
  rw [Bool.and_eq_true] at h1
  rw [h2, h3, h1.2]
  rfl
theorem trim_zeros (l : List Int) (n : Nat) : trim (l ++ List.replicate n 0) = trim l := by
  induction n with
  | zero => simp
  | succ n ih => rw [List.replicate_succ', ← List.append_assoc, trim_snoc0, ih]
theorem trim_nz (l : List Int) (h : ∀ x ∈ l, x ≠ 0) : trim l = l := by
  rcases List.eq_nil_or_concat l with rfl | ⟨m, x, rfl⟩
  · rfl
  · rw [List.concat_eq_append]
    exact trim_snoc _ _ (h x (by simp))
/-- A list is what is left of it, and zeros. -/
theorem trim_split (l : List Int) : ∃ n, l = trim l ++ List.replicate n 0 := by
  induction hn : l.length generalizing l with
  | zero => exact ⟨0, by have : l = [] := List.eq_nil_of_length_eq_zero hn; subst this; rfl⟩
  | succ k ih =>
    rcases List.eq_nil_or_concat l with rfl | ⟨m, x, rfl⟩
    · simp at hn
    · rw [List.concat_eq_append] at hn ⊢
      by_cases hx : x = 0
      · subst hx
        obtain ⟨n, h⟩ := ih m (by simp at hn; omega)
        refine ⟨n + 1, ?_⟩
        rw [trim_snoc0, List.replicate_succ', ← List.append_assoc, ← h]
      · exact ⟨0, by rw [trim_snoc _ _ hx]; simp⟩
theorem rowW_length {b : Nat → List Op} {t : List Int} {j : Nat} (h : ((b j).length : Int) ≤ t[j]?.getD 0) : ((rowW b t j).length : Int) = t[j]?.getD 0 := by
  unfold rowW
  rw [List.length_append, List.length_map, List.length_replicate]
  omega
theorem rowsW_length {b : Nat → List Op} {t : List Int} (j : Nat) (h : ∀ i, i < j → ((b i).length : Int) ≤ t[i]?.getD 0) : ((rowsW b t j).length : Int) = sumU t j := by
  induction j with
  | zero => rfl
  | succ j ih =>
    rw [rowsW_step, List.length_append]
    have := ih fun i hi => h i (by omega)
    have := rowW_length (h j (by omega))
    unfold sumU
    omega
/-- The words of a well formed bundle are read as it was. -/
theorem seg_rows {b : Nat → List Op} {t : List Int} (h : ∀ i, i < 4 → ((b i).length : Int) ≤ t[i]?.getD 0) (j : Nat) (hj : j < 4) : seg t (rowsW b t 4) j = rowW b t j := by
  have hlen : ((rowsW b t j).length : Int) = sumU t j := rowsW_length j fun i hi => h i (by omega)
  have hrow := rowW_length (h j hj)
  have hsp : ∃ r, rowsW b t 4 = rowsW b t j ++ (rowW b t j ++ r) := by
    obtain rfl | rfl | rfl | rfl : j = 0 ∨ j = 1 ∨ j = 2 ∨ j = 3 := by omega
    · exact ⟨rowW b t 1 ++ (rowW b t 2 ++ rowW b t 3), by rw [rowsW_step, rowsW_step, rowsW_step, rowsW_step]; simp [rowsW]⟩
    · exact ⟨rowW b t 2 ++ rowW b t 3, by rw [rowsW_step, rowsW_step, rowsW_step]; simp⟩
    · exact ⟨rowW b t 3, by rw [rowsW_step, rowsW_step]; simp⟩
    · exact ⟨[], by rw [rowsW_step]; simp⟩
  obtain ⟨r, hr⟩ := hsp
  unfold seg
  rw [hr, show (sumU t j).toNat = (rowsW b t j).length by omega, List.drop_left, show (t[j]?.getD 0).toNat = (rowW b t j).length by omega, List.take_left]
theorem trim_row {b : Nat → List Op} {t : List Int} {j : Nat} (hw : ∀ o ∈ b j, o.wf) (h : ∀ o ∈ b j, opC j o = true) : trim (rowW b t j) = (b j).map wordN := by
  unfold rowW
  rw [trim_zeros]
  refine trim_nz _ fun x hx => ?_
  obtain ⟨o, ho, rfl⟩ := List.mem_map.1 hx
  have hb := wordN_bd (hw o ho) (opC_chk (h o ho))
  have hc := cls_pos (opC_cls (h o ho)).1
  intro e
  rw [e] at hb
  omega
theorem read_rows {b : Nat → List Op} {t : List Int} (hw : BunWf b) (h : rightB b t = true) : readB t (rowsW b t 4) = true ∧ ∀ j, j < 4 → readO t (rowsW b t 4) j = b j := by
  have hlen := fun i (hi : i < 4) => right_len h i hi
  have hop := fun i (hi : i < 4) => right_op h i hi
  refine ⟨segB_yes fun j hj => ?_, fun j hj => ?_⟩
  · unfold segB
    rw [seg_rows hlen j hj, trim_row (hw j hj).1 (hop j hj), List.all_eq_true]
    intro x hx
    obtain ⟨o, ho, rfl⟩ := List.mem_map.1 hx
    exact wOk_N ((hw j hj).1 o ho) (hop j hj o ho)
  · unfold readO
    rw [seg_rows hlen j hj, trim_row (hw j hj).1 (hop j hj), List.map_map]
    conv => rhs; rw [← List.map_id (b j)]
    refine List.map_congr_left fun o ho => ?_
    exact wordO_N ((hw j hj).1 o ho) (opC_chk (hop j hj o ho))
theorem chunk_flat {W : Nat} {α : Type} (f : α → List Int) (l : List α) (hf : ∀ a ∈ l, (f a).length = W) (i : Nat) (hi : i < l.length) : chunk W (l.flatMap f) i = f l[i] := by
  unfold chunk
  induction l generalizing i with
  | nil => simp at hi
  | cons a l ih =>
    rw [List.flatMap_cons]
    have ha := hf a (List.mem_cons_self ..)
    cases i with
    | zero =>
      rw [Nat.zero_mul, List.drop_zero, ← ha, List.take_left]
      rfl
    | succ i =>
      rw [Nat.succ_mul, Nat.add_comm, ← List.drop_drop, ← ha, List.drop_left, ha]
      exact ih (fun a h => hf a (List.mem_cons_of_mem _ h)) i (by simpa using hi)
theorem flat_length {W : Nat} {α : Type} (f : α → List Int) (l : List α) (hf : ∀ a ∈ l, (f a).length = W) : (l.flatMap f).length = l.length * W := by
  induction l with
  | nil => simp
  | cons a l ih =>
    rw [List.flatMap_cons, List.length_append, hf a (List.mem_cons_self ..), ih fun a h => hf a (List.mem_cons_of_mem _ h), List.length_cons, Nat.succ_mul, Nat.add_comm]
/-- What is said of an encoding that went well. -/
theorem encE_zero {l : List (Nat → List Op)} {t : List Int} (h : encE l t = 0) : tabOk t = true ∧ l.length ≤ 65536 ∧ ∀ b ∈ l, rightB b t = true := by
  unfold encE at h
  by_cases h1 : tabE t = 0
  · rw [if_neg (fun x => x h1)] at h
    by_cases h2 : 65536 < l.length
    · rw [if_pos h2] at h; omega
    · rw [if_neg h2] at h
      cases h3 : l.all (rightB · t)
      · rw [h3] at h; simp at h
      · exact ⟨tabE_iff0 h1, by omega, fun b hb => List.all_eq_true.1 h3 b hb⟩
  · rw [if_pos h1] at h; exact absurd h h1
theorem tabE_ok {t : List Int} (h : tabOk t = true) : tabE t = 0 := by unfold tabE; rw [h]; rfl
theorem rows_len {b : Nat → List Op} {t : List Int} (ht : tabOk t = true) (h : rightB b t = true) : (rowsW b t 4).length = (tabW t).toNat := by
  have := rowsW_length (b := b) (t := t) 4 fun i hi => right_len h i hi
  rw [tabW_sum ht]
  omega
theorem encL_length {l : List (Nat → List Op)} {t : List Int} (h : encE l t = 0) : (encL t l).length = l.length * (tabW t).toNat := by
  obtain ⟨h1, h2, h3⟩ := encE_zero h
  exact flat_length _ _ fun b hb => rows_len h1 (h3 b hb)
/-- What is written is read as it was. -/
theorem dec_enc {l : List (Nat → List Op)} {t : List Int} (hw : ∀ b ∈ l, BunWf b) (h : encE l t = 0) (hW : tabW t ≠ 0) : decE t (encL t l) = 0 ∧ sameL (decL t (encL t l)) l := by
  obtain ⟨h1, h2, h3⟩ := encE_zero h
  have hb := sumU_bd h1 4 (by omega)
  rw [← tabW_sum h1] at hb
  have hl := encL_length h
  obtain ⟨W, hWW⟩ : ∃ W : Nat, (tabW t).toNat = W := ⟨_, rfl⟩
  have hW1 : 0 < W := by omega
  rw [hWW] at hl
  have hdiv : (encL t l).length / W = l.length := by rw [hl]; exact Nat.mul_div_cancel _ hW1
  have hch : ∀ i (hi : i < l.length), chunk W (encL t l) i = rowsW l[i] t 4 := fun i hi => chunk_flat _ _ (fun b hb => by rw [rows_len h1 (h3 b hb), hWW]) i hi
  constructor
  · unfold decE
    rw [if_neg (fun x => x (tabE_ok h1)), hWW, hdiv]
    by_cases h0 : (encL t l).length = 0
    · rw [if_pos h0]
    · have hno : ¬ (tabW t = 0 ∨ (encL t l).length % W ≠ 0) := by
        rintro (x | x)
        · exact hW x
        · rw [hl] at x
          exact x (Nat.mul_mod_left _ _)
      rw [if_neg h0, if_neg hno, if_neg (by omega), if_pos]
      refine List.all_eq_true.2 fun i hi => ?_
      have hi := List.mem_range.1 hi
      rw [hch i hi]
      exact (read_rows (hw _ (List.getElem_mem hi)) (h3 _ (List.getElem_mem hi))).1
  · unfold decL
    rw [hWW, hdiv]
    refine ⟨by simp, fun i x y hx hy => ?_⟩
    have hi : i < l.length := (List.getElem?_eq_some_iff.1 hy).1
    have hy2 := (List.getElem?_eq_some_iff.1 hy).2
    rw [List.getElem?_map, List.getElem?_range hi] at hx
    injection hx with hx
    intro j hj
    rw [← hx, ← hy2]
    show readO t (chunk W (encL t l) i) j = l[i] j
    rw [hch i hi]
    exact (read_rows (hw _ (List.getElem_mem hi)) (h3 _ (List.getElem_mem hi))).2 j hj
/-- What is said of a decoding that went well. -/
theorem decE_zero {ws : List Int} {t : List Int} (h : decE t ws = 0) : tabOk t = true ∧ (ws.length = 0 ∨ (tabW t ≠ 0 ∧ ws.length % (tabW t).toNat = 0 ∧ ws.length / (tabW t).toNat ≤ 65536 ∧ ∀ i, i < ws.length / (tabW t).toNat → readB t (chunk (tabW t).toNat ws i) = true)) := by
  unfold decE at h
  by_cases h1 : tabE t = 0
  · rw [if_neg (fun x => x h1)] at h
    refine ⟨tabE_iff0 h1, ?_⟩
    by_cases h2 : ws.length = 0
    · exact .inl h2
    · rw [if_neg h2] at h
      by_cases h3 : tabW t = 0 ∨ ws.length % (tabW t).toNat ≠ 0
      · rw [if_pos h3] at h; omega
      · rw [if_neg h3] at h
        by_cases h4 : 65536 < ws.length / (tabW t).toNat
        · rw [if_pos h4] at h; omega
        · rw [if_neg h4] at h
          cases h5 : (List.range (ws.length / (tabW t).toNat)).all (fun i => readB t (chunk (tabW t).toNat ws i))
          · rw [h5] at h; simp at h
          · refine .inr ⟨fun x => h3 (.inl x), Classical.byContradiction fun x => h3 (.inr x), by omega, fun i hi => List.all_eq_true.1 h5 i (List.mem_range.2 hi)⟩
  · rw [if_pos h1] at h; exact absurd h h1
theorem seg_length {t ws : List Int} (ht : tabOk t = true) (hl : (ws.length : Int) = sumU t 4) (j : Nat) (hj : j < 4) : ((seg t ws j).length : Int) = t[j]?.getD 0 := by
  have h1 := sumU_mono ht j hj
  have h2 := sumU_bd ht j (by omega)
  have h3 := units_bd ht j hj
  unfold seg
  rw [List.length_take, List.length_drop]
  omega
theorem seg_all {t ws : List Int} (ht : tabOk t = true) (hl : (ws.length : Int) = sumU t 4) : ws = seg t ws 0 ++ (seg t ws 1 ++ (seg t ws 2 ++ seg t ws 3)) := by
  have u0 := units_bd ht 0 (by omega)
  have u1 := units_bd ht 1 (by omega)
  have u2 := units_bd ht 2 (by omega)
  have u3 := units_bd ht 3 (by omega)
  have s4 : sumU t 4 = t[(0 : Nat)]?.getD 0 + t[(1 : Nat)]?.getD 0 + t[(2 : Nat)]?.getD 0 + t[(3 : Nat)]?.getD 0 := by simp only [sumU]; omega
  have hd : ∀ p n : Nat, ws.drop p = (ws.drop p).take n ++ ws.drop (p + n) := fun p n => by
    rw [← List.drop_drop, List.take_append_drop]
  have e3 : seg t ws 3 = ws.drop (sumU t 3).toNat := by
    unfold seg
    refine List.take_of_length_le ?_
    rw [List.length_drop]
    simp only [sumU] at *
    omega
  have e2 : ws.drop (sumU t 2).toNat = seg t ws 2 ++ ws.drop (sumU t 3).toNat := by
    rw [show (sumU t 3).toNat = (sumU t 2).toNat + (t[(2 : Nat)]?.getD 0).toNat by simp only [sumU]; omega]
    exact hd _ _
  have e1 : ws.drop (sumU t 1).toNat = seg t ws 1 ++ ws.drop (sumU t 2).toNat := by
    rw [show (sumU t 2).toNat = (sumU t 1).toNat + (t[(1 : Nat)]?.getD 0).toNat by simp only [sumU]; omega]
    exact hd _ _
  have e0 : ws.drop (sumU t 0).toNat = seg t ws 0 ++ ws.drop (sumU t 1).toNat := by
    rw [show (sumU t 1).toNat = (sumU t 0).toNat + (t[(0 : Nat)]?.getD 0).toNat by simp only [sumU]; omega]
    exact hd _ _
  rw [e3, ← e2, ← e1, ← e0]
  simp [sumU]
theorem readB_seg {t ws : List Int} (h : readB t ws = true) (j : Nat) (hj : j < 4) : segB t ws j = true := by
  unfold readB at h
  simp only [Bool.and_eq_true] at h
  obtain rfl | rfl | rfl | rfl : j = 0 ∨ j = 1 ∨ j = 2 ∨ j = 3 := by omega
  · exact h.1.1.1
  · exact h.1.1.2
  · exact h.1.2
  · exact h.2
theorem trim_le (l : List Int) : (trim l).length ≤ l.length := by
  obtain ⟨n, hn⟩ := trim_split l
  have := congrArg List.length hn
  rw [List.length_append] at this
  omega
theorem mem_trim {l : List Int} {x : Int} (h : x ∈ trim l) : x ∈ l := by
  obtain ⟨n, hn⟩ := trim_split l
  rw [hn]
  exact List.mem_append.2 (.inl h)
theorem mem_seg {t ws : List Int} {j : Nat} {x : Int} (h : x ∈ seg t ws j) : x ∈ ws := List.mem_of_mem_drop (List.mem_of_mem_take h)
/-- What is read is written as it was. -/
theorem rows_read {ws t : List Int} (ht : tabOk t = true) (hl : (ws.length : Int) = sumU t 4) (hx : ∀ x ∈ ws, 0 ≤ x) (h : readB t ws = true) : rightB (readO t ws) t = true ∧ rowsW (readO t ws) t 4 = ws := by
  have hrow : ∀ j, j < 4 → rowOk (readO t ws) t j = true ∧ rowW (readO t ws) t j = seg t ws j := fun j hj => by
    have hs := readB_seg h j hj
    unfold segB at hs
    rw [List.all_eq_true] at hs
    have hsl := seg_length ht hl j hj
    have htl := trim_le (seg t ws j)
    constructor
    · unfold rowOk readO
      rw [Bool.and_eq_true]
      refine ⟨decide_eq_true (by rw [List.length_map]; omega), List.all_eq_true.2 fun o ho => ?_⟩
      obtain ⟨x, hxm, rfl⟩ := List.mem_map.1 ho
      exact (wOk_op (hs x hxm)).2
    · unfold rowW readO
      rw [List.map_map, List.length_map]
      have hm : (trim (seg t ws j)).map (wordN ∘ wordO) = trim (seg t ws j) := by
        conv => rhs; rw [← List.map_id (trim (seg t ws j))]
        refine List.map_congr_left fun x hxm => ?_
        exact wordN_O (hx x (mem_seg (mem_trim hxm))) (wOk_op (hs x hxm)).1
      rw [hm]
      obtain ⟨n, hn⟩ := trim_split (seg t ws j)
      have hnl := congrArg List.length hn
      rw [List.length_append, List.length_replicate] at hnl
      rw [show (t[j]?.getD 0 - ((trim (seg t ws j)).length : Int)).toNat = n by omega, ← hn]
  refine ⟨right_yes fun j hj => (hrow j hj).1, ?_⟩
  rw [rowsW_step, rowsW_step, rowsW_step, rowsW_step, (hrow 0 (by omega)).2, (hrow 1 (by omega)).2, (hrow 2 (by omega)).2, (hrow 3 (by omega)).2]
  conv => rhs; rw [seg_all ht hl]
  simp [rowsW]
theorem chunks_take {W : Nat} (n : Nat) (ws : List Int) : (List.range n).flatMap (chunk W ws) = ws.take (n * W) := by
  induction n with
  | zero => simp
  | succ n ih =>
    rw [List.range_succ, List.flatMap_append, ih, Nat.succ_mul, List.take_add]
    simp [chunk]
/-- Words that are read are those that are written of what was read. -/
theorem enc_dec {ws t : List Int} (hx : ∀ x ∈ ws, 0 ≤ x) (h : decE t ws = 0) : encE (decL t ws) t = 0 ∧ encL t (decL t ws) = ws := by
  obtain ⟨ht, hc⟩ := decE_zero h
  have hrest : (decL t ws).length ≤ 65536 ∧ (∀ b ∈ decL t ws, rightB b t = true) ∧ encL t (decL t ws) = ws := by
    rcases hc with h0 | ⟨hW, hm, h6, hr⟩
    · have : ws = [] := List.eq_nil_of_length_eq_zero h0
      subst this
      have hd : decL t [] = [] := by unfold decL; simp
      rw [hd]
      exact ⟨Nat.zero_le _, (fun b hb => by cases hb), rfl⟩
    · obtain ⟨W, hWW⟩ : ∃ W : Nat, (tabW t).toNat = W := ⟨_, rfl⟩
      obtain ⟨n, hn⟩ : ∃ n : Nat, ws.length / W = n := ⟨_, rfl⟩
      rw [hWW] at hm h6 hr
      rw [hn] at h6 hr
      have hlen : ws.length = n * W := by have := Nat.div_add_mod ws.length W; rw [hm, hn, Nat.mul_comm] at this; omega
      have hb := sumU_bd ht 4 (by omega)
      rw [← tabW_sum ht] at hb
      have hch : ∀ i, i < n → rightB (readO t (chunk W ws i)) t = true ∧ rowsW (readO t (chunk W ws i)) t 4 = chunk W ws i := fun i hi => by
        refine rows_read ht ?_ (fun x hxm => hx x (List.mem_of_mem_drop (List.mem_of_mem_take hxm))) (hr i hi)
        have : i * W + W ≤ n * W := by rw [← Nat.succ_mul]; exact Nat.mul_le_mul_right W hi
        unfold chunk
        rw [List.length_take, List.length_drop, ← tabW_sum ht]
        omega
      unfold decL
      rw [hWW, hn]
      refine ⟨by simpa using h6, fun b hb => ?_, ?_⟩
      · obtain ⟨i, hi, rfl⟩ := List.mem_map.1 hb
        exact (hch i (List.mem_range.1 hi)).1
      · unfold encL
        rw [List.flatMap_map]
        have hc2 : ∀ m, m ≤ n → (List.range m).flatMap (fun i => rowsW (readO t (chunk W ws i)) t 4) = (List.range m).flatMap (chunk W ws) := fun m => by
          induction m with
          | zero => intro _; rfl
          | succ m ih =>
            intro hm
            rw [List.range_succ, List.flatMap_append, List.flatMap_append, ih (by omega)]
            simp only [List.flatMap_cons, List.flatMap_nil, List.append_nil]
            rw [(hch m (by omega)).2]
        rw [hc2 n (Nat.le_refl _), chunks_take, List.take_of_length_le (by omega)]
  refine ⟨?_, hrest.2.2⟩
  unfold encE
  rw [if_neg (fun x => x (tabE_ok ht)), if_neg (by omega), if_pos]
  exact List.all_eq_true.2 fun b hb => hrest.2.1 b hb
end Go.Proofs.Ytcibkoodnfkogaa
