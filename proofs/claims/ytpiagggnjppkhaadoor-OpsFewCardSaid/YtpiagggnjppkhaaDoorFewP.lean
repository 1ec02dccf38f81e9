/- OpsFew: how often ' r' stands in an operation's text. -/
import Derived.Test.YtpiagggnjppkhaaDoorTell
namespace Go.Proofs.YtpiagggnjppkhaaDoor
open Go.RowKit
set_option linter.unusedVariables false
set_option linter.unusedSimpArgs false
/-- How often a blank stands right ahead of an r. -/
def cnt : List UInt8 → Nat
  | [] => 0
  | [_] => 0
  | x :: y :: l => (if x = 32 ∧ y = 114 then 1 else 0) + cnt (y :: l)
theorem cnt_app : ∀ (p q : List UInt8), cnt (p ++ q) = cnt p + cnt q + (if p.getLast? = some 32 ∧ q.head? = some 114 then 1 else 0)
  | [], q => by simp [cnt]
  | [x], [] => by simp [cnt]
  | [x], y :: q => by
    simp only [List.singleton_append, cnt, List.getLast?_singleton, List.head?_cons, Option.some.injEq]
    omega
  | x :: y :: p, q => by
    have := cnt_app (y :: p) q
    simp only [List.cons_append, cnt] at this ⊢
    rw [this]
    have h : (x :: y :: p).getLast? = (y :: p).getLast? := by simp [List.getLast?_cons_cons]
    rw [h]
    omega
theorem cnt_none : ∀ {p : List UInt8}, (∀ c ∈ p, c ≠ 32) → cnt p = 0
  | [], _ => rfl
  | [x], _ => rfl
  | x :: y :: l, h => by
    have h1 : x ≠ 32 := h x (by simp)
    rw [cnt, if_neg (fun e => h1 e.1), cnt_none (p := y :: l) (fun c hc => h c (List.mem_cons_of_mem _ hc))]
def okL (p : List UInt8) : Prop := p.getLast? ≠ some 32
theorem okL_app {p q : List UInt8} (hp : okL p) (hq : okL q) : okL (p ++ q) := by
  unfold okL at *
  rw [List.getLast?_append]
  cases h : q.getLast? with
  | none => simpa using hp
  | some c => rw [h] at hq; simpa using hq
theorem okL_mem {p : List UInt8} (h : ∀ c ∈ p, c ≠ 32) : okL p := fun e => h 32 (List.mem_of_getLast? e) rfl
theorem cnt_ok {p q : List UInt8} (hp : okL p) : cnt (p ++ q) = cnt p + cnt q := by
  rw [cnt_app, if_neg (fun h => hp h.1), Nat.add_zero]
theorem dec_dig : ∀ (m u : Nat), u < 10 ^ (m + 1) → ∀ c ∈ Lib.decDigits u, c ≠ 32 ∧ c ≠ 114
  | m, u, hu => by
    intro c hc
    rw [Lib.decDigits] at hc
    have hd : ∀ q : Nat, q < 10 → UInt8.ofNat (48 + q) ≠ 32 ∧ UInt8.ofNat (48 + q) ≠ 114 := by decide
    by_cases h : u < 10
    · rw [dif_pos h, List.mem_singleton] at hc
      subst hc
      exact hd u h
    · rw [dif_neg h] at hc
      rcases List.mem_append.1 hc with hc | hc
      · cases m with
        | zero => omega
        | succ m => exact dec_dig m (u / 10) (by rw [Nat.pow_succ] at hu; omega) c hc
      · rw [List.mem_singleton] at hc
        subst hc
        exact hd (u % 10) (by omega)
theorem dec_mem (u : Nat) : ∀ c ∈ Lib.decDigits u, c ≠ 32 ∧ c ≠ 114 := dec_dig u u (by
  have : u < 10 ^ u := Nat.lt_pow_self (by decide)
  rw [Nat.pow_succ]
  omega)
theorem itoa_mem (n : Int) : ∀ c ∈ Lib.itoa n, c ≠ 32 ∧ c ≠ 114 := by
  intro c hc
  unfold Lib.itoa at hc
  split at hc
  · rcases List.mem_cons.1 hc with rfl | hc
    · decide
    · exact dec_mem _ c hc
  · exact dec_mem _ c hc
theorem reg_ok (y : Bool) (r : Int) : okL (regT y r) := by
  cases y
  · exact fun e => by cases e
  · have : regT true r = [32, 114] ++ Lib.decDigits r.toNat := rfl
    rw [this]
    unfold okL
    rw [List.getLast?_append]
    cases h : (Lib.decDigits r.toNat).getLast? with
    | none => decide
    | some c =>
      have := (dec_mem _ c (List.mem_of_getLast? h)).1
      simpa using this
theorem reg_cnt (y : Bool) (r : Int) : cnt (regT y r) = if y then 1 else 0 := by
  cases y
  · rfl
  · show cnt (32 :: 114 :: Lib.decDigits r.toNat) = 1
    rw [cnt, if_pos ⟨rfl, rfl⟩, cnt_none (p := 114 :: Lib.decDigits r.toNat) (fun c hc => by
      rcases List.mem_cons.1 hc with rfl | hc
      · decide
      · exact (dec_mem _ c hc).1)]
theorem num_cnt {D : List UInt8} (h : ∀ c ∈ D, c ≠ 32 ∧ c ≠ 114) : cnt ([32] ++ D) = 0 := by
  rw [cnt_app, cnt_none (fun c hc => (h c hc).1), if_neg (fun e => by
    have := h 114 (List.mem_of_mem_head? e.2)
    exact this.2 rfl)]
  rfl
theorem num_ok {D : List UInt8} (h : ∀ c ∈ D, c ≠ 32 ∧ c ≠ 114) (hne : D ≠ []) : okL ([32] ++ D) := by
  unfold okL
  rw [List.getLast?_append]
  cases hl : D.getLast? with
  | none => exact absurd (List.getLast?_eq_none_iff.1 hl) hne
  | some c =>
    have := (h c (List.mem_of_getLast? hl)).1
    simpa using this
theorem dec_ne (u : Nat) : Lib.decDigits u ≠ [] := by
  rw [Lib.decDigits]
  split
  · simp
  · simp
theorem name_mem (k : Int) : ∀ c ∈ (shp k).name.data.toList, c ≠ 32 := by
  unfold shp
  split
  · rename_i h
    have : ∀ i : Nat, i < 24 → ∀ c ∈ (shps.getD i noShp).name.data.toList, c ≠ 32 := by decide
    exact this k.toNat (by omega)
  · decide
def b1 (b : Bool) : Nat := if b then 1 else 0
theorem txt_cnt (o : Op) : cnt (txtL (shp o.k) o) = b1 (shp o.k).d + b1 (shp o.k).a + b1 (shp o.k).b := by
  have hn := name_mem o.k
  unfold txtL
  have k0 : okL (shp o.k).name.data.toList := okL_mem hn
  have k1 := okL_app k0 (reg_ok (shp o.k).d o.d)
  have k2 := okL_app k1 (reg_ok (shp o.k).a o.a)
  have k3 := okL_app k2 (reg_ok (shp o.k).b o.b)
  have hN : okL (if (shp o.k).num then [32] ++ Lib.decDigits o.b.toNat else []) ∧ cnt (if (shp o.k).num then [32] ++ Lib.decDigits o.b.toNat else []) = 0 := by
    split
    · exact ⟨num_ok (dec_mem _) (dec_ne _), num_cnt (dec_mem _)⟩
    · exact ⟨(fun e => by cases e), rfl⟩
  have hI : cnt (if (shp o.k).imm then [32] ++ Lib.itoa o.n else []) = 0 := by
    split
    · exact num_cnt (itoa_mem _)
    · rfl
  rw [cnt_ok (okL_app k3 hN.1), cnt_ok k3, cnt_ok k2, cnt_ok k1, cnt_ok k0, hI, hN.2, reg_cnt, reg_cnt, reg_cnt, cnt_none hn]
  unfold b1
  omega
/-- What the law says of it. -/
theorem few_says {o : Op} (hc : chk o = true) : cnt (txtS o).data.toList = (rds o).length + b1 (wrB o) ∨ (cnt (txtS o).data.toList = (rds o).length + b1 (wrB o) + 1 ∧ o.a = o.b) := by
  have hw : wrB o = (shp o.k).d := by unfold wrB; rw [hc, Bool.and_true]
  have ht : (txtS o).data.toList = txtL (shp o.k) o := by unfold txtS; rw [hc]; rfl
  rw [ht, txt_cnt, hw, rds_yes hc]
  cases (shp o.k).a with
  | false => cases (shp o.k).b <;> exact .inl (by unfold b1; first | (simp; done) | (simp; omega))
  | true =>
    cases (shp o.k).b with
    | false => exact .inl (by unfold b1; first | (simp; done) | (simp; omega))
    | true =>
      by_cases h : o.a = o.b
      · refine .inr ⟨?_, h⟩
        rw [h]
        unfold b1
        first | (simp; done) | (simp; omega)
      · left
        have : (o.a != o.b) = true := by rw [bne_iff_ne]; exact h
        rw [this]
        unfold b1
        first | (simp; done) | (simp; omega)
theorem cnt_step (x : List UInt8) (i : Nat) (h : i + 1 < x.length) : cnt (x.take (i + 2)) = cnt (x.take (i + 1)) + (if x[i] = 32 ∧ x[i + 1] = 114 then 1 else 0) := by
  have e1 : x.take (i + 2) = x.take (i + 1) ++ [x[i + 1]] := by
    rw [List.take_succ_eq_append_getElem (by omega)]
  have e2 : (x.take (i + 1)).getLast? = some x[i] := by
    rw [List.take_succ_eq_append_getElem (by omega), List.getLast?_append]
    simp
  rw [e1, cnt_app, e2]
  simp [cnt]
end Go.Proofs.YtpiagggnjppkhaaDoor
