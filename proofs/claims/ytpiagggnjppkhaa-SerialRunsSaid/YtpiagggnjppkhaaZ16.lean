/- Plain laws of the machine: parts come to the same; what nothing writes stays. -/
import Derived.Test.YtpiagggnjppkhaaZ5
import Derived.Test.YtpiagggnjppkhaaZ15
namespace Go.Proofs.Ytpiagggnjppkhaa
open Go.RowKit
set_option linter.unusedVariables false
set_option linter.unusedSimpArgs false
theorem step_over {l : List Blk} {m : Mc} (h : m.over = true) : stepM l m = m := by unfold stepM; rw [if_pos h]
theorem stuck_over {l : List Blk} {m : Mc} (h : m.over = true) : stuckS l m = false := by unfold stuckS; rw [h]; rfl
theorem did_over {l : List Blk} {m : Mc} (h : m.over = true) : stepD l m = false := by unfold stepD; rw [h]; rfl
theorem step_stuck {l : List Blk} {m : Mc} (h : stuckS l m = true) : stepM l m = { m with over := true, e := 101 } := by
  unfold stuckS at h
  rw [Bool.and_eq_true] at h
  have h1 : m.over = false := by simpa using h.1
  unfold stepM
  rw [h1]
  simp only [Bool.false_eq_true, if_false]
  cases hx : (lstS l m)[m.pos]? with
  | none => rw [hx] at h; simp at h
  | some o => rw [hx] at h; simp only; rw [if_pos h.2]
theorem did_no {l : List Blk} {m : Mc} (h : stepD l m = false) : m.over = true ∨ stuckS l m = true := by
  unfold stepD at h
  cases h1 : m.over
  · rw [h1] at h
    right
    simpa using h
  · exact .inl rfl
theorem last_over {l : List Blk} {m : Mc} (h : m.over = true) : lastS l m = m := by unfold lastS; rw [stuck_over h]; rfl
theorem run_over {l : List Blk} {m : Mc} (h : m.over = true) (n : Nat) : runS l n m = m := by
  cases n with
  | zero => rfl
  | succ n => unfold runS; rw [did_over h]; exact step_over h
theorem step_no {l : List Blk} {m : Mc} (h : stepD l m = false) : (stepM l m).over = true ∧ lastS l m = stepM l m := by
  rcases did_no h with h | h
  · rw [step_over h, last_over h]
    exact ⟨h, rfl⟩
  · refine ⟨by rw [step_stuck h], by unfold lastS; rw [h]; rfl⟩
theorem run_no {l : List Blk} {m : Mc} (h : stepD l m = false) (n : Nat) : lastS l (runS l n m) = lastS l m := by
  obtain ⟨h1, h2⟩ := step_no h
  cases n with
  | zero => rfl
  | succ n =>
    have : runS l (n + 1) m = stepM l m := by unfold runS; rw [h]; rfl
    rw [this, last_over h1, h2]
theorem last_no {l : List Blk} {m : Mc} (h : stuckS l m = true) : stepD l m = false := by unfold stepD; rw [h]; simp
theorem run_last (l : List Blk) (n : Nat) (m : Mc) : lastS l (runS l n (lastS l m)) = lastS l (runS l n m) := by
  cases h : stuckS l m
  · have : lastS l m = m := by unfold lastS; rw [h]; rfl
    rw [this]
  · have hn := last_no h
    obtain ⟨h1, h2⟩ := step_no hn
    rw [run_no hn, h2, run_over h1, last_over h1]
theorem run_run (l : List Blk) (b : Nat) : ∀ (a : Nat) (m : Mc), lastS l (runS l b (runS l a m)) = lastS l (runS l (a + b) m)
  | 0, m => by rw [Nat.zero_add]; rfl
  | a + 1, m => by
    cases h : stepD l m
    · obtain ⟨h1, h2⟩ := step_no h
      have : runS l (a + 1) m = stepM l m := by unfold runS; rw [h]; rfl
      rw [this, run_over h1, run_no h, h2, last_over h1]
    · have e1 : runS l (a + 1) m = runS l a (stepM l m) := by show (if stepD l m = true then _ else _) = _; rw [if_pos h]
      have e2 : runS l (a + 1 + b) m = runS l (a + b) (stepM l m) := by
        rw [show a + 1 + b = (a + b) + 1 by omega]
        show (if stepD l m = true then _ else _) = _
        rw [if_pos h]
      rw [e1, e2]
      exact run_run l b a _
theorem clamp_small {n : Nat} (h : n ≤ 1048576) : clampS n = n := by unfold clampS; omega
/-- Steps dealt out in two parts. -/
theorem runM_parts (l : List Blk) (m : Mc) (a b : Nat) (h : a + b ≤ 1048576) : runM l b (runM l a m) = runM l ((a + b : Nat) : Int) m := by
  unfold runM
  rw [clamp_small (show a ≤ 1048576 by omega), clamp_small (show b ≤ 1048576 by omega), clamp_small h, run_last, run_run]
theorem step_steps {l : List Blk} {m : Mc} (h : stepD l m = true) : (stepM l m).steps = m.steps + 1 := by
  unfold stepD at h
  rw [Bool.and_eq_true] at h
  have h1 : m.over = false := by simpa using h.1
  have h2 : stuckS l m = false := by simpa using h.2
  unfold stuckS at h2
  rw [h1] at h2
  unfold stepM
  rw [h1]
  simp only [Bool.false_eq_true, if_false]
  cases hx : (lstS l m)[m.pos]? with
  | none => rfl
  | some o =>
    rw [hx] at h2
    simp at h2
    simp only
    rw [if_neg (by rw [h2]; decide)]
theorem step_no_steps {l : List Blk} {m : Mc} (h : stepD l m = false) : (stepM l m).steps = m.steps ∧ (stepM l m).R = m.R ∧ (stepM l m).M = m.M := by
  rcases did_no h with h | h
  · rw [step_over h]
    exact ⟨rfl, rfl, rfl⟩
  · rw [step_stuck h]
    exact ⟨rfl, rfl, rfl⟩
theorem last_steps (l : List Blk) (m : Mc) : (lastS l m).steps = m.steps := by
  unfold lastS
  split
  · next h => exact (step_no_steps (last_no h)).1
  · rfl
theorem run_steps (l : List Blk) : ∀ (n : Nat) (m : Mc), (runS l n m).steps = m.steps + (tagsS l n m).length
  | 0, m => rfl
  | n + 1, m => by
    cases h : stepD l m
    · have e1 : runS l (n + 1) m = stepM l m := by unfold runS; rw [h]; rfl
      have e2 : tagsS l (n + 1) m = [] := by unfold tagsS; rw [h]; rfl
      rw [e1, e2]
      exact (step_no_steps h).1
    · have e1 : runS l (n + 1) m = runS l n (stepM l m) := by show (if stepD l m = true then _ else _) = _; rw [if_pos h]
      have e2 : tagsS l (n + 1) m = stepT l m :: tagsS l n (stepM l m) := by show (if stepD l m = true then _ else _) = _; rw [if_pos h]
      rw [e1, e2, run_steps l n, step_steps h, List.length_cons]
      omega
theorem tags_len (l : List Blk) : ∀ (n : Nat) (m : Mc), (tagsS l n m).length ≤ n
  | 0, m => Nat.le_refl _
  | n + 1, m => by
    unfold tagsS
    split
    · simpa using tags_len l n _
    · simp
/-- A register that no operation writes; memory without stores. -/
def keepsR (l : List Blk) (r : Nat) : Prop := ∀ b ∈ l, ∀ o, o ∈ b.ops ∨ o ∈ b.body → (o.k ≤ 15 → o.d.toNat ≠ r)
def keepsM (l : List Blk) : Prop := ∀ b ∈ l, ∀ o, o ∈ b.ops ∨ o ∈ b.body → o.k ≠ 16
theorem lst_in {l : List Blk} {m : Mc} {o : Op} (h : (lstS l m)[m.pos]? = some o) : ∃ b ∈ l, o ∈ b.ops ∨ o ∈ b.body := by
  have ho := List.mem_of_getElem? h
  unfold lstS at ho
  cases hb : l[m.blk]? with
  | none => rw [hb] at ho; cases m.body <;> simp at ho
  | some b =>
    refine ⟨b, List.mem_of_getElem? hb, ?_⟩
    rw [hb] at ho
    cases h2 : m.body <;> rw [h2] at ho <;> simp at ho
    · exact .inl ho
    · exact .inr ho
theorem endS_RM (b : Blk) (m : Mc) : (endS b m).R = m.R ∧ (endS b m).M = m.M := by
  unfold endS
  repeat' split
  all_goals exact ⟨rfl, rfl⟩
theorem step_keepR {l : List Blk} {m : Mc} {r : Nat} (hp : PrgOk l) (hk : keepsR l r) : (stepM l m).R[r]? = m.R[r]? := by
  unfold stepM
  split
  · rfl
  split
  · next o ho =>
    obtain ⟨b, hb, hob⟩ := lst_in ho
    have h := hk b hb o hob
    have h17 := (opOk_bd (lst_mem hp ho).1 (lst_mem hp ho).2).2.1
    split
    · rfl
    · show (opR o m.R m.M)[r]? = _
      unfold opR
      split
      · rw [List.getElem?_set_ne (h (by omega))]
      split
      · rw [List.getElem?_set_ne (h (by omega))]
      split
      · rfl
      · rw [List.getElem?_set_ne (h (by omega))]
  · show (endS (l[m.blk]?.getD noBlk) m).R[r]? = _
    rw [(endS_RM _ _).1]
theorem step_keepM {l : List Blk} {m : Mc} (hk : keepsM l) : (stepM l m).M = m.M := by
  unfold stepM
  split
  · rfl
  split
  · next o ho =>
    obtain ⟨b, hb, hob⟩ := lst_in ho
    have h := hk b hb o hob
    split
    · rfl
    · show opM o m.R m.M = _
      unfold opM
      rw [if_neg h]
  · show (endS (l[m.blk]?.getD noBlk) m).M = _
    rw [(endS_RM _ _).2]
theorem run_keepR {l : List Blk} {r : Nat} (hp : PrgOk l) (hk : keepsR l r) : ∀ (n : Nat) (m : Mc), (runS l n m).R[r]? = m.R[r]?
  | 0, _ => rfl
  | n + 1, m => by
    unfold runS
    split
    · rw [run_keepR hp hk n, step_keepR hp hk]
    · exact step_keepR hp hk
theorem run_keepM {l : List Blk} (hk : keepsM l) : ∀ (n : Nat) (m : Mc), (runS l n m).M = m.M
  | 0, _ => rfl
  | n + 1, m => by
    unfold runS
    split
    · rw [run_keepM hk n, step_keepM hk]
    · exact step_keepM hk
theorem runM_keepR {l : List Blk} {m : Mc} {r : Nat} (hp : PrgOk l) (hk : keepsR l r) (n : Int) : (runM l n m).R[r]? = m.R[r]? := by
  unfold runM lastS
  split
  · rw [step_keepR hp hk, run_keepR hp hk]
  · exact run_keepR hp hk _ _
theorem runM_keepM {l : List Blk} {m : Mc} (hk : keepsM l) (n : Int) : (runM l n m).M = m.M := by
  unfold runM lastS
  split
  · rw [step_keepM hk, run_keepM hk]
  · exact run_keepM hk _ _
theorem run_ok {l : List Blk} (hp : PrgOk l) : ∀ (n : Nat) {m : Mc}, m.ok l → (runS l n m).ok l
  | 0, _, h => h
  | n + 1, m, h => by
    unfold runS
    split
    · exact run_ok hp n (stepM_ok hp h)
    · exact stepM_ok hp h
theorem runM_ok {l : List Blk} {m : Mc} (hp : PrgOk l) (h : m.ok l) (n : Int) : (runM l n m).ok l := by
  unfold runM lastS
  split
  · exact stepM_ok hp (run_ok hp _ h)
  · exact run_ok hp _ h
theorem runM_steps (l : List Blk) (n : Int) (m : Mc) : (runM l n m).steps = m.steps + (tagsS l (clampS n) m).length := by
  unfold runM
  rw [last_steps, run_steps]
theorem runM_le (l : List Blk) (n : Int) (m : Mc) : (runM l n m).steps ≤ m.steps + clampS n := by
  have := runM_steps l n m
  have := tags_len l (clampS n) m
  omega
/-- No step done: the place is as it was. -/
theorem tags_nil {l : List Blk} {n : Nat} {m : Mc} (h : tagsS l n m = []) : n = 0 ∨ stepD l m = false := by
  cases n with
  | zero => exact .inl rfl
  | succ n =>
    right
    unfold tagsS at h
    cases hd : stepD l m
    · rfl
    · rw [hd] at h
      simp at h
theorem step_no_place {l : List Blk} {m : Mc} (h : stepD l m = false) : (stepM l m).blk = m.blk ∧ (stepM l m).body = m.body ∧ (stepM l m).pos = m.pos := by
  rcases did_no h with h | h
  · rw [step_over h]
    exact ⟨rfl, rfl, rfl⟩
  · rw [step_stuck h]
    exact ⟨rfl, rfl, rfl⟩
end Go.Proofs.Ytpiagggnjppkhaa
