/- Two operations side by side that do not depend on one another: the plain law. -/
import Derived.Test.YtcibkoodnfkogaaY16
import Derived.Test.YtcibkoodnfkogaaY8
import Derived.Test.YtcibkoodnfkogaaY3
import Derived.Test.YtcibkoodnfkogaaY4
namespace Go.Proofs.Ytcibkoodnfkogaa
open Go.RowKit
set_option linter.unusedVariables false
set_option linter.unusedSimpArgs false
section
open Go.RowKit
/-- Does a kind read its second register? -/
def usB (k : Int) : Prop := (2 ≤ k ∧ k ≤ 10) ∨ (12 ≤ k ∧ k ≤ 14) ∨ k = 16
theorem shp_all : ∀ k : Nat, k < 18 → ((shp k).a = decide (2 ≤ k)) ∧ ((shp k).b = decide ((2 ≤ k ∧ k ≤ 10) ∨ (12 ≤ k ∧ k ≤ 14) ∨ k = 16)) ∧ (1 ≤ k → (shp k).d = decide (k ≤ 15)) := by decide +kernel
theorem opOk_nat {o : Op} (h : opOk o = true) (hw : o.wf) : ∃ k : Nat, o.k = k ∧ 1 ≤ k ∧ k ≤ 17 := by
  have := opOk_bd h hw
  exact ⟨o.k.toNat, by omega, by omega, by omega⟩
theorem opOk_chk {o : Op} (h : opOk o = true) : chk o = true := by
  unfold opOk at h
  simp only [Bool.and_eq_true] at h
  exact h.2
theorem rds_a {o : Op} (h : opOk o = true) (hw : o.wf) (hk : 2 ≤ o.k) : o.a ∈ rds o := by
  obtain ⟨k, e, h1, h17⟩ := opOk_nat h hw
  obtain ⟨sa, sb, _⟩ := shp_all k (by omega)
  have ha : (shp o.k).a = true := by rw [e, sa]; simp; omega
  unfold rds
  rw [if_pos (opOk_chk h), ha]
  cases hb : (shp o.k).b
  · simp
  · by_cases hab : o.a = o.b
    · simp [hab]
    · simp [hab]
theorem rds_b {o : Op} (h : opOk o = true) (hw : o.wf) (hk : usB o.k) : o.b ∈ rds o := by
  obtain ⟨k, e, h1, h17⟩ := opOk_nat h hw
  obtain ⟨sa, sb, _⟩ := shp_all k (by omega)
  unfold usB at hk
  have ha : (shp o.k).a = true := by rw [e, sa]; simp; omega
  have hb : (shp o.k).b = true := by rw [e, sb]; simp; omega
  unfold rds
  rw [if_pos (opOk_chk h), ha, hb]
  by_cases hab : o.a = o.b
  · simp [hab]
  · simp [hab]
theorem wrB_iff {o : Op} (h : opOk o = true) (hw : o.wf) : wrB o = decide (o.k ≤ 15) := by
  obtain ⟨k, e, h1, h17⟩ := opOk_nat h hw
  obtain ⟨_, _, sd⟩ := shp_all k (by omega)
  unfold wrB
  rw [opOk_chk h, Bool.and_true, e, sd h1]
  simp
  omega
/-- The registers that an operation reads hold the same. -/
def agree (o : Op) (R R' : List Int) : Prop := (2 ≤ o.k → reg R' o.a = reg R o.a) ∧ (usB o.k → reg R' o.b = reg R o.b)
theorem agree_set {o : Op} {R : List Int} {d : Int} {v : Int} (h : opOk o = true) (hw : o.wf) (hd : 0 ≤ d) (hn : ∀ x ∈ rds o, x ≠ d) : agree o R (R.set d.toNat v) := by
  have hx : ∀ x, 0 ≤ x → x ≠ d → reg (R.set d.toNat v) x = reg R x := fun x h0 hne => by
    unfold reg
    rw [List.getElem?_set_ne (by omega)]
  have hb := opOk_bd h hw
  exact ⟨fun hk => hx _ (by omega) (hn _ (rds_a h hw hk)), fun hk => hx _ (by omega) (hn _ (rds_b h hw hk))⟩
theorem opT_agree {o : Op} {R R' : List Int} (h : agree o R R') : opT o R' = opT o R := by
  unfold opT
  by_cases hk : o.k = 13 ∨ o.k = 14
  · rw [h.2 (by unfold usB; omega)]
  · have e1 : (o.k == 13) = false := by rw [Bool.eq_false_iff]; intro e; have := eq_of_beq e; omega
    have e2 : (o.k == 14) = false := by rw [Bool.eq_false_iff]; intro e; have := eq_of_beq e; omega
    rw [e1, e2]
    rfl
theorem cel_agree {o : Op} {R R' : List Int} (h : agree o R R') (hk : 2 ≤ o.k) : celS o R' = celS o R := by unfold celS; rw [h.1 hk]
/-- What an operation writes into its register. -/
def vW (o : Op) (R M : List Int) : Int := if o.k = 1 then o.n else if o.k = 15 then M[celS o R]?.getD 0 else rckN o.k (reg R o.a) (reg R o.b)
theorem opR_w {o : Op} {R M : List Int} (hk : o.k ≤ 15) : opR o R M = R.set o.d.toNat (vW o R M) := by
  unfold opR vW
  by_cases h1 : o.k = 1
  · rw [if_pos h1, if_pos h1]
  rw [if_neg h1, if_neg h1]
  by_cases h15 : o.k = 15
  · rw [if_pos h15, if_pos h15]
  rw [if_neg h15, if_neg h15, if_neg (by omega)]
theorem opR_n {o : Op} {R M : List Int} (hk : 16 ≤ o.k) (hk2 : o.k ≤ 17) : opR o R M = R := by
  unfold opR
  rw [if_neg (by omega), if_neg (by omega), if_pos (by omega)]
theorem opM_n {o : Op} {R M : List Int} (hk : o.k ≠ 16) : opM o R M = M := by unfold opM; rw [if_neg hk]
theorem opP_n {o : Op} {R P : List Int} (hk : o.k ≠ 17) : opP o R P = P := by unfold opP; rw [if_neg hk]
theorem rck11 (x y : Int) : rckN 11 x y = x := by simp [rckN]
theorem vW_agree {o : Op} {R R' M : List Int} (h : agree o R R') (h1 : 1 ≤ o.k) (hk : o.k ≤ 15) : vW o R' M = vW o R M := by
  unfold vW
  by_cases e1 : o.k = 1
  · rw [if_pos e1, if_pos e1]
  rw [if_neg e1, if_neg e1]
  by_cases e15 : o.k = 15
  · rw [if_pos e15, if_pos e15, cel_agree h (by omega)]
  rw [if_neg e15, if_neg e15, h.1 (by omega)]
  by_cases e11 : o.k = 11
  · rw [e11, rck11, rck11]
  · rw [h.2 (by unfold usB; omega)]
theorem vW_mem {o : Op} {R M : List Int} {c : Nat} {x : Int} (h : o.k = 15 → celS o R ≠ c) : vW o R (M.set c x) = vW o R M := by
  unfold vW
  by_cases e1 : o.k = 1
  · rw [if_pos e1, if_pos e1]
  rw [if_neg e1, if_neg e1]
  by_cases e15 : o.k = 15
  · rw [if_pos e15, if_pos e15, List.getElem?_set_ne (Ne.symm (h e15))]
  · rw [if_neg e15, if_neg e15]
/-- Neither depends on the other. -/
structure Apart (a b : Op) : Prop where
  oa : opOk a = true
  ob : opOk b = true
  wa : a.wf
  wb : b.wf
  ab : a.k ≤ 15 → ∀ x ∈ rds b, x ≠ a.d
  ba : b.k ≤ 15 → ∀ x ∈ rds a, x ≠ b.d
  dd : a.k ≤ 15 → b.k ≤ 15 → a.d ≠ b.d
  mem : (a.k = 15 ∨ a.k = 16) → (b.k = 15 ∨ b.k = 16) → (a.k = 16 ∨ b.k = 16) → ∀ R, celS a R ≠ celS b R
  eff : effB a.k = true → effB b.k = true → False
theorem Apart.symm {a b : Op} (h : Apart a b) : Apart b a :=
  ⟨h.ob, h.oa, h.wb, h.wa, h.ba, h.ab, fun h1 h2 e => h.dd h2 h1 e.symm, fun h1 h2 h3 R e => h.mem h2 h1 h3.symm R e.symm, fun h1 h2 => h.eff h2 h1⟩
theorem Apart.agree {a b : Op} (h : Apart a b) (R M : List Int) : agree b R (opR a R M) := by
  have ha := opOk_bd h.oa h.wa
  by_cases hk : a.k ≤ 15
  · rw [opR_w hk]
    exact agree_set h.ob h.wb (by omega) (h.ab hk)
  · rw [opR_n (by omega) (by omega)]
    exact ⟨fun _ => rfl, fun _ => rfl⟩
theorem Apart.trap {a b : Op} (h : Apart a b) (R M : List Int) : opT b (opR a R M) = opT b R := opT_agree (h.agree R M)
theorem Apart.regs {a b : Op} (h : Apart a b) (R M : List Int) : opR b (opR a R M) (opM a R M) = opR a (opR b R M) (opM b R M) := by
  have ha := opOk_bd h.oa h.wa
  have hb := opOk_bd h.ob h.wb
  have A1 := h.agree R M
  have A2 := h.symm.agree R M
  by_cases ka : a.k ≤ 15
  · by_cases kb : b.k ≤ 15
    · rw [opM_n (by omega : a.k ≠ 16), opM_n (by omega : b.k ≠ 16), opR_w (o := b) kb, opR_w (o := a) (R := opR b R M) ka, vW_agree A1 (by omega) kb, vW_agree A2 (by omega) ka, opR_w ka, opR_w kb]
      exact List.set_comm _ _ (by have := h.dd ka kb; omega)
    · rw [opR_n (o := b) (by omega) (by omega), opR_n (o := b) (R := R) (by omega) (by omega), opR_w ka, opR_w ka]
      by_cases k16 : b.k = 16
      · unfold opM
        rw [if_pos k16, vW_mem (fun e15 => h.mem (.inl e15) (.inr k16) (.inr k16) R)]
      · rw [opM_n k16]
  · by_cases kb : b.k ≤ 15
    · rw [opR_n (o := a) (by omega) (by omega), opR_n (o := a) (R := opR b R M) (by omega) (by omega), opR_w kb, opR_w kb]
      by_cases k16 : a.k = 16
      · unfold opM
        rw [if_pos k16, vW_mem (fun e15 => (h.mem (.inr k16) (.inl e15) (.inl k16) R).symm)]
      · rw [opM_n k16]
    · rw [opR_n (o := b) (by omega) (by omega), opR_n (o := a) (by omega) (by omega), opR_n (o := a) (by omega) (by omega), opR_n (o := b) (by omega) (by omega)]
theorem Apart.mems {a b : Op} (h : Apart a b) (R M : List Int) : opM b (opR a R M) (opM a R M) = opM a (opR b R M) (opM b R M) := by
  have A1 := h.agree R M
  have A2 := h.symm.agree R M
  by_cases ka : a.k = 16
  · by_cases kb : b.k = 16
    · unfold opM
      rw [if_pos ka, if_pos kb, cel_agree A1 (by omega), cel_agree A2 (by omega), A1.2 (by unfold usB; omega), A2.2 (by unfold usB; omega)]
      simp only [ka, kb, if_true]
      exact List.set_comm _ _ (h.mem (.inr ka) (.inr kb) (.inl ka) R)
    · rw [opM_n (o := b) kb, opM_n (o := b) kb]
      unfold opM
      rw [if_pos ka, if_pos ka, cel_agree A2 (by omega), A2.2 (by unfold usB; omega)]
  · by_cases kb : b.k = 16
    · rw [opM_n (o := a) ka, opM_n (o := a) ka]
      unfold opM
      rw [if_pos kb, if_pos kb, cel_agree A1 (by omega), A1.2 (by unfold usB; omega)]
    · rw [opM_n (o := b) kb, opM_n (o := a) ka, opM_n (o := a) ka, opM_n (o := b) kb]
theorem Apart.prints {a b : Op} (h : Apart a b) (R M P : List Int) : opP b (opR a R M) (opP a R P) = opP a (opR b R M) (opP b R P) := by
  have A1 := h.agree R M
  have A2 := h.symm.agree R M
  by_cases ka : a.k = 17
  · have kb : b.k ≠ 17 := fun kb => h.eff (by rw [ka]; rfl) (by rw [kb]; rfl)
    rw [opP_n kb, opP_n kb]
    unfold opP
    rw [if_pos ka, if_pos ka, A2.1 (by omega)]
  · by_cases kb : b.k = 17
    · rw [opP_n ka, opP_n ka]
      unfold opP
      rw [if_pos kb, if_pos kb, A1.1 (by omega)]
    · rw [opP_n kb, opP_n ka, opP_n ka, opP_n kb]
/-- A list of operations, done one behind the other, until a trap. -/
def execR : List Op → List Int → List Int → List Int → List Int × List Int × List Int × Bool
  | [], R, M, P => (R, M, P, false)
  | o :: r, R, M, P => if opT o R then (R, M, P, true) else execR r (opR o R M) (opM o R M) (opP o R P)
/-- The same prints, the same trap, and, without one, the same state. -/
def Eqv (x y : List Int × List Int × List Int × Bool) : Prop := x.2.2.2 = y.2.2.2 ∧ x.2.2.1 = y.2.2.1 ∧ (x.2.2.2 = false → x.1 = y.1 ∧ x.2.1 = y.2.1)
theorem Eqv.refl (x : List Int × List Int × List Int × Bool) : Eqv x x := ⟨rfl, rfl, fun _ => ⟨rfl, rfl⟩⟩
theorem opT_eff {o : Op} {R : List Int} (h : opT o R = true) : effB o.k = true := by
  unfold opT at h
  rw [Bool.and_eq_true] at h
  unfold effB
  rw [h.1, Bool.or_true]
theorem no_eff {o : Op} {R P : List Int} (h : effB o.k ≠ true) : opT o R = false ∧ opP o R P = P := by
  refine ⟨?_, opP_n fun e => h (by rw [e]; rfl)⟩
  rw [Bool.eq_false_iff]
  exact fun e => h (opT_eff e)
theorem exec_swap {a b : Op} (h : Apart a b) (q : List Op) (R M P : List Int) : Eqv (execR (a :: b :: q) R M P) (execR (b :: a :: q) R M P) := by
  have t1 := h.trap R M
  have t2 := h.symm.trap R M
  cases ha : opT a R with
  | true =>
    have hb := no_eff (o := b) (R := R) (P := P) fun e => h.eff (opT_eff ha) e
    have e1 : execR (a :: b :: q) R M P = (R, M, P, true) := by unfold execR; rw [if_pos ha]
    have e2 : execR (b :: a :: q) R M P = (opR b R M, opM b R M, P, true) := by
      unfold execR
      rw [if_neg (by rw [hb.1]; decide), hb.2]
      unfold execR
      rw [if_pos (by rw [t2, ha])]
    rw [e1, e2]
    exact ⟨rfl, rfl, fun h => by cases h⟩
  | false =>
    cases hb : opT b R with
    | true =>
      have ha2 := no_eff (o := a) (R := R) (P := P) fun e => h.eff e (opT_eff hb)
      have e1 : execR (b :: a :: q) R M P = (R, M, P, true) := by unfold execR; rw [if_pos hb]
      have e2 : execR (a :: b :: q) R M P = (opR a R M, opM a R M, P, true) := by
        unfold execR
        rw [if_neg (by rw [ha]; decide), ha2.2]
        unfold execR
        rw [if_pos (by rw [t1, hb])]
      rw [e1, e2]
      exact ⟨rfl, rfl, fun h => by cases h⟩
    | false =>
      have e1 : execR (a :: b :: q) R M P = execR q (opR b (opR a R M) (opM a R M)) (opM b (opR a R M) (opM a R M)) (opP b (opR a R M) (opP a R P)) := by
        rw [execR, if_neg (by rw [ha]; decide), execR, if_neg (by rw [t1, hb]; decide)]
      have e2 : execR (b :: a :: q) R M P = execR q (opR a (opR b R M) (opM b R M)) (opM a (opR b R M) (opM b R M)) (opP a (opR b R M) (opP b R P)) := by
        rw [execR, if_neg (by rw [hb]; decide), execR, if_neg (by rw [t2, ha]; decide)]
      rw [e1, e2, h.regs, h.mems, h.prints]
      exact Eqv.refl _
theorem exec_pre {x y : List Op} (h : ∀ R M P, Eqv (execR x R M P) (execR y R M P)) : ∀ (p : List Op) (R M P : List Int), Eqv (execR (p ++ x) R M P) (execR (p ++ y) R M P)
  | [], R, M, P => h R M P
  | o :: p, R, M, P => by
    rw [List.cons_append, List.cons_append, execR, execR]
    cases ht : opT o R
    · simp only [Bool.false_eq_true, if_false]
      exact exec_pre h p _ _ _
    · simp only [if_true]
      exact Eqv.refl _
/-- A program of one block. -/
def oneB (l : List Op) : Blk := ⟨l, 2, 0, [], 0, 0⟩
theorem one_run (l : List Op) : ∀ (n : Nat) (d : List Op) (m : Mc), m.over = false → m.e = 0 → m.blk = 0 → m.body = false → l.drop m.pos = d → d.length < n →
    (runS [oneB l] n m).over = true ∧ (runS [oneB l] n m).e = (if (execR d m.R m.M m.prints).2.2.2 then 101 else 0) ∧ (runS [oneB l] n m).prints = (execR d m.R m.M m.prints).2.2.1 ∧ (runS [oneB l] n m).R = (execR d m.R m.M m.prints).1 ∧ (runS [oneB l] n m).M = (execR d m.R m.M m.prints).2.1
  | 0, d, m, _, _, _, _, _, hn => by omega
  | n + 1, d, m, ho, he, hb, hbd, hd, hn => by
    have hl : lstS [oneB l] m = l := by unfold lstS; rw [hbd, hb]; rfl
    have hx : (lstS [oneB l] m)[m.pos]? = d[0]? := by rw [hl, ← hd, List.getElem?_drop, Nat.add_zero]
    cases d with
    | nil =>
      have hx : (lstS [oneB l] m)[m.pos]? = none := hx
      have hs : stuckS [oneB l] m = false := by unfold stuckS; rw [hx, Bool.and_false]
      have hD : stepD [oneB l] m = true := by unfold stepD; rw [ho, hs]; rfl
      have e1 : stepM [oneB l] m = { endS (oneB l) m with steps := m.steps + 1 } := by
        unfold stepM
        rw [if_neg (by rw [ho]; decide), hx, hb]
        rfl
      have e2 : endS (oneB l) m = { m with over := true, val := reg m.R 0 } := by unfold endS; exact if_pos rfl
      have e3 : runS [oneB l] (n + 1) m = runS [oneB l] n (stepM [oneB l] m) := by
        show (if stepD [oneB l] m = true then _ else _) = _
        rw [if_pos hD]
      rw [e3, run_over (by rw [e1, e2]), e1, e2]
      exact ⟨rfl, he, rfl, rfl, rfl⟩
    | cons o r =>
      have hx : (lstS [oneB l] m)[m.pos]? = some o := hx
      cases ht : opT o m.R with
      | true =>
        have hs : stuckS [oneB l] m = true := by unfold stuckS; rw [hx, ho]; exact ht
        have hD : stepD [oneB l] m = false := by unfold stepD; rw [hs, Bool.not_true, Bool.and_false]
        have e3 : runS [oneB l] (n + 1) m = stepM [oneB l] m := by unfold runS; rw [hD]; rfl
        have e4 : execR (o :: r) m.R m.M m.prints = (m.R, m.M, m.prints, true) := by rw [execR, if_pos ht]
        rw [e3, e4, step_stuck hs]
        exact ⟨rfl, rfl, rfl, rfl, rfl⟩
      | false =>
        have hs : stuckS [oneB l] m = false := by unfold stuckS; rw [hx]; simp only; rw [ht, Bool.and_false]
        have hD : stepD [oneB l] m = true := by unfold stepD; rw [ho, hs]; rfl
        have e1 : stepM [oneB l] m = { opS o m with steps := m.steps + 1 } := by
          unfold stepM
          rw [if_neg (by rw [ho]; decide), hx]
          simp only
          rw [if_neg (by rw [ht]; decide)]
        have e3 : runS [oneB l] (n + 1) m = runS [oneB l] n (stepM [oneB l] m) := by
          show (if stepD [oneB l] m = true then _ else _) = _
          rw [if_pos hD]
        have e4 : execR (o :: r) m.R m.M m.prints = execR r (opR o m.R m.M) (opM o m.R m.M) (opP o m.R m.prints) := by rw [execR, if_neg (by rw [ht]; decide)]
        have hr : l.drop (m.pos + 1) = r := by rw [← List.drop_drop, hd]; rfl
        rw [e3, e1, e4]
        exact one_run l n r { opS o m with steps := m.steps + 1 } ho he hb hbd hr (by rw [List.length_cons] at hn; omega)
theorem one_all (l : List Op) (r m : List Int) (hl : l.length ≤ 200) : outE (runM [oneB l] 1000 (newM r m)) = (if (execR l (newM r m).R (newM r m).M []).2.2.2 then 101 else 0) ∧ (runM [oneB l] 1000 (newM r m)).prints = (execR l (newM r m).R (newM r m).M []).2.2.1 ∧
    (runM [oneB l] 1000 (newM r m)).R = (execR l (newM r m).R (newM r m).M []).1 ∧ (runM [oneB l] 1000 (newM r m)).M = (execR l (newM r m).R (newM r m).M []).2.1 := by
  obtain ⟨h1, h2, h3, h4, h5⟩ := one_run l 1000 l (newM r m) rfl rfl rfl rfl rfl (by omega)
  have e : runM [oneB l] 1000 (newM r m) = runS [oneB l] 1000 (newM r m) := by
    unfold runM
    rw [show clampS 1000 = 1000 by decide]
    exact last_over h1
  rw [e]
  refine ⟨?_, h3, h4, h5⟩
  unfold outE
  rw [if_pos h1]
  exact h2
/-- No dependence told: neither depends on the other. -/
theorem step_in {l : List Op} {t : List Int} {i j n m : Nat} (hi : i < j) (hj : j < n) {e : Edge} (he : e ∈ stepE l t (lastT l j) 0 i j (meetL l i j)) (hm : m = n) : e ∈ onceE l t m := by
  subst hm
  have h1 : ∀ k, i < k → e ∈ onceJ l t j k := fun k => by
    induction k with
    | zero => omega
    | succ k ih =>
      intro hk
      unfold onceJ
      by_cases e2 : i = k
      · subst e2; exact List.mem_append_right _ he
      · exact List.mem_append_left _ (ih (by omega))
  have h2 : ∀ k, j < k → e ∈ onceE l t k := fun k => by
    induction k with
    | zero => omega
    | succ k ih =>
      intro hk
      unfold onceE
      by_cases e2 : j = k
      · subst e2; exact List.mem_append_right _ (h1 _ hi)
      · exact List.mem_append_left _ (ih (by omega))
  exact h2 _ hj
theorem step_place {l : List Op} {t T : List Int} {i j : Nat} {m : Bool} {e : Edge} (he : e ∈ stepE l t T 0 i j m) : e.f = i ∧ e.t = j := by
  unfold stepE at he
  split at he
  · rcases List.mem_append.1 he with he | he
    · unfold trueE at he; split at he <;> simp at he; subst he; exact ⟨rfl, rfl⟩
    · unfold pairE at he
      rcases List.mem_append.1 he with he | he
      · unfold antiE at he; split at he <;> simp at he; subst he; exact ⟨rfl, rfl⟩
      rcases List.mem_append.1 he with he | he
      · unfold outDE at he; split at he <;> simp at he; subst he; exact ⟨rfl, rfl⟩
      rcases List.mem_append.1 he with he | he
      · unfold memE at he; split at he <;> simp at he; subst he; exact ⟨rfl, rfl⟩
      · unfold ordE at he; split at he <;> simp at he; subst he; exact ⟨rfl, rfl⟩
  · cases he
theorem apart_of {l : List Op} {t : List Int} {i : Nat} {a b : Op} (hi : l[i]? = some a) (hj : l[i + 1]? = some b) (hok : ∀ o ∈ l, opOk o = true) (hw : ∀ o ∈ l, o.wf) (hno : ∀ e ∈ onceE l t l.length, ¬ (e.f = (i : Int) ∧ e.t = ((i + 1 : Nat) : Int))) : Apart a b := by
  have hil := (List.getElem?_eq_some_iff.1 hi).1
  have hjl := (List.getElem?_eq_some_iff.1 hj).1
  have ea : l[i] = a := (List.getElem?_eq_some_iff.1 hi).2
  have eb : l[i + 1] = b := (List.getElem?_eq_some_iff.1 hj).2
  have ma : a ∈ l := List.mem_of_getElem? hi
  have mb : b ∈ l := List.mem_of_getElem? hj
  have oa := hok a ma
  have ob := hok b mb
  have wa := hw a ma
  have wb := hw b mb
  have ba := opOk_bd oa wa
  have bb := opOk_bd ob wb
  have hnil : stepE l t (lastT l (i + 1)) 0 i (i + 1) (meetL l i ((i + 1 : Nat) : Int)) = [] := by
    refine List.eq_nil_iff_forall_not_mem.2 fun e he => ?_
    exact hno e (step_in (j := i + 1) (n := l.length) (Nat.lt_succ_self i) hjl he rfl) (step_place he)
  unfold stepE at hnil
  rw [hi, hj] at hnil
  simp only at hnil
  obtain ⟨h1, h2⟩ := List.append_eq_nil_iff.1 hnil
  unfold pairE at h2
  obtain ⟨h2, h3⟩ := List.append_eq_nil_iff.1 h2
  obtain ⟨h3, h4⟩ := List.append_eq_nil_iff.1 h3
  obtain ⟨h4, h5⟩ := List.append_eq_nil_iff.1 h4
  have wra := wrB_iff oa wa
  have wrb := wrB_iff ob wb
  refine ⟨oa, ob, wa, wb, fun hk x hx e => ?_, fun hk x hx e => ?_, fun ka kb e => ?_, fun ka kb hs R => ?_, fun e1 e2 => ?_⟩
  · have hwt : wrB a = true := by rw [wra]; simpa using hk
    have hT : (lastT l (i + 1))[x.toNat]? = some ((i : Int) + 1) := by
      have h0 := lastT_len l i
      unfold lastT
      rw [hi]
      simp only
      rw [if_pos hwt, e, List.getElem?_set_self (by omega)]
    unfold trueE at h1
    by_cases hf : fromB (lastT l (i + 1)) b i = true
    · rw [if_pos hf] at h1; cases h1
    · refine hf (List.any_eq_true.2 ⟨x, hx, ?_⟩)
      rw [hT]
      simp
  · have hwt : wrB b = true := by rw [wrb]; simpa using hk
    unfold antiE at h2
    rw [dN_yes hwt] at h2
    by_cases hf : (decide (0 ≤ b.d) && seesB a b.d) = true
    · rw [if_pos hf] at h2; cases h2
    · refine hf ?_
      rw [Bool.and_eq_true]
      refine ⟨by simp; omega, List.any_eq_true.2 ⟨x, hx, by rw [e]; simp⟩⟩
  · have hwa : wrB a = true := by rw [wra]; simpa using ka
    have hwb : wrB b = true := by rw [wrb]; simpa using kb
    unfold outDE at h3
    rw [dN_yes hwa, dN_yes hwb] at h3
    rw [if_pos (by rw [Bool.and_eq_true]; exact ⟨by simp; omega, by rw [e]; simp⟩)] at h3
    cases h3
  · unfold memE at h4
    have hor : (a.k == 16 || b.k == 16) = true := by rcases hs with e | e <;> rw [e] <;> simp
    have hm : meetL l i ((i + 1 : Nat) : Int) = false := by
      cases hm : meetL l i ((i + 1 : Nat) : Int) with
      | false => rfl
      | true => rw [hm, hor] at h4; simp at h4
    unfold meetL at hm
    rw [dif_pos ⟨by omega, by omega, by omega⟩] at hm
    simp only [Int.toNat_natCast] at hm
    rw [ea, eb] at hm
    have m1 : memB a = true := by unfold memB; rw [opOk_chk oa]; rcases ka with e | e <;> rw [e] <;> rfl
    have m2 : memB b = true := by unfold memB; rw [opOk_chk ob]; rcases kb with e | e <;> rw [e] <;> rfl
    have m3 : (a.k == 15 && b.k == 15) = false := by rcases hs with e | e <;> rw [e] <;> simp
    unfold meetB at hm
    rw [m1, m2, m3] at hm
    simp only [Bool.true_and, Bool.not_false, Bool.or_eq_false_iff] at hm
    obtain ⟨⟨x1, x2⟩, _⟩ := hm
    have x1 : a.a = b.a := by simpa using x1
    have x2 : ¬ a.n % 256 = b.n % 256 := by simpa using x2
    unfold celS
    rw [x1]
    omega
  · unfold ordE at h5
    rw [e1, e2] at h5
    simp at h5
/-- Two neighbours change places. -/
def swapL (l : List Op) (i : Nat) (a b : Op) : List Op := (l.set i b).set (i + 1) a
theorem split_two {l : List Op} {i : Nat} {a b : Op} (hi : l[i]? = some a) (hj : l[i + 1]? = some b) : l = l.take i ++ a :: b :: l.drop (i + 2) ∧ swapL l i a b = l.take i ++ b :: a :: l.drop (i + 2) := by
  have hil := (List.getElem?_eq_some_iff.1 hi).1
  have hjl := (List.getElem?_eq_some_iff.1 hj).1
  have ht : (l.take i).length = i := by rw [List.length_take]; omega
  constructor
  · apply List.ext_getElem?
    intro k
    by_cases h1 : k < i
    · rw [List.getElem?_append_left (by omega), List.getElem?_take, if_pos h1]
    · rw [List.getElem?_append_right (by omega), ht]
      obtain ⟨d, rfl⟩ : ∃ d, k = i + d := ⟨k - i, by omega⟩
      rw [Nat.add_sub_cancel_left]
      match d with
      | 0 => exact hi
      | 1 => exact hj
      | d + 2 => rw [List.getElem?_cons_succ, List.getElem?_cons_succ, List.getElem?_drop]; congr 1; omega
  · unfold swapL
    apply List.ext_getElem?
    intro k
    by_cases h1 : k < i
    · rw [List.getElem?_append_left (by omega), List.getElem?_take, if_pos h1, List.getElem?_set_ne (by omega), List.getElem?_set_ne (by omega)]
    · rw [List.getElem?_append_right (by omega), ht]
      obtain ⟨d, rfl⟩ : ∃ d, k = i + d := ⟨k - i, by omega⟩
      rw [Nat.add_sub_cancel_left]
      match d with
      | 0 => rw [List.getElem?_set_ne (by omega), Nat.add_zero, List.getElem?_set_self hil]; rfl
      | 1 => rw [List.getElem?_set_self (by rw [List.length_set]; omega)]; rfl
      | d + 2 => rw [List.getElem?_set_ne (by omega), List.getElem?_set_ne (by omega), List.getElem?_cons_succ, List.getElem?_cons_succ, List.getElem?_drop]; congr 1; omega
theorem swap_law {l : List Op} {t : List Int} {i : Nat} {a b : Op} (hi : l[i]? = some a) (hj : l[i + 1]? = some b) (hok : ∀ o ∈ l, opOk o = true) (hw : ∀ o ∈ l, o.wf) (hno : ∀ e ∈ onceE l t l.length, ¬ (e.f = (i : Int) ∧ e.t = ((i + 1 : Nat) : Int))) (hl : l.length ≤ 200) (r m : List Int) :
    outE (runM [oneB l] 1000 (newM r m)) = outE (runM [oneB (swapL l i a b)] 1000 (newM r m)) ∧ (runM [oneB l] 1000 (newM r m)).prints = (runM [oneB (swapL l i a b)] 1000 (newM r m)).prints ∧
    (outE (runM [oneB l] 1000 (newM r m)) = 0 → (runM [oneB l] 1000 (newM r m)).R = (runM [oneB (swapL l i a b)] 1000 (newM r m)).R ∧ (runM [oneB l] 1000 (newM r m)).M = (runM [oneB (swapL l i a b)] 1000 (newM r m)).M) := by
  have hA := apart_of hi hj hok hw hno
  obtain ⟨e1, e2⟩ := split_two hi hj
  have hlen : (swapL l i a b).length ≤ 200 := by unfold swapL; rw [List.length_set, List.length_set]; exact hl
  obtain ⟨x1, x2, x3, x4⟩ := one_all l r m hl
  obtain ⟨y1, y2, y3, y4⟩ := one_all (swapL l i a b) r m hlen
  have hE : Eqv (execR l (newM r m).R (newM r m).M []) (execR (swapL l i a b) (newM r m).R (newM r m).M []) := by
    rw [e2]
    have := exec_pre (fun R M P => exec_swap hA (l.drop (i + 2)) R M P) (l.take i) (newM r m).R (newM r m).M []
    rw [← e1] at this
    exact this
  obtain ⟨z1, z2, z3⟩ := hE
  rw [x1, x2, x3, x4, y1, y2, y3, y4]
  refine ⟨by rw [z1], z2, fun h => z3 ?_⟩
  cases hb : (execR l (newM r m).R (newM r m).M []).2.2.2 with
  | false => rfl
  | true => rw [hb] at h; simp at h
theorem swap_mem {l : List Op} {i : Nat} {a b : Op} (hi : l[i]? = some a) (hj : l[i + 1]? = some b) {o : Op} : o ∈ swapL l i a b ↔ o ∈ l := by
  obtain ⟨e1, e2⟩ := split_two hi hj
  rw [e2]
  conv => rhs; rw [e1]
  simp only [List.mem_append, List.mem_cons]
  constructor
  · rintro (h | rfl | rfl | h)
    · exact .inl h
    · exact .inr (.inr (.inl rfl))
    · exact .inr (.inl rfl)
    · exact .inr (.inr (.inr h))
  · rintro (h | rfl | rfl | h)
    · exact .inl h
    · exact .inr (.inr (.inl rfl))
    · exact .inr (.inl rfl)
    · exact .inr (.inr (.inr h))
end
/- Lists of operations and of blocks in rows of a call's own: the names that the machine's texts import. -/
end Go.Proofs.Ytcibkoodnfkogaa
