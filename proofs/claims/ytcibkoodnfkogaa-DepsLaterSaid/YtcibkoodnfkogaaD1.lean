/- Dependences: the plain answers of deps.Of and deps.Loop. -/
import Derived.Test.YtcibkoodnfkogaaAli3
import Derived.Test.YtcibkoodnfkogaaTab
import Derived.Test.YtcibkoodnfkogaaR10b
namespace Go.Proofs.Ytcibkoodnfkogaa
open Go.RowKit
set_option linter.unusedVariables false
set_option linter.unusedSimpArgs false
/-- A dependence: from, to, latency, distance, why. -/
structure Edge where
  f : Int
  t : Int
  l : Int
  d : Int
  y : Int
def Edge.cells (e : Edge) : List Value := [.int .i64 e.f, .int .i64 e.t, .int .i64 e.l, .int .i64 e.d, .int .i8 e.y]
abbrev Edge.val (e : Edge) : Value := .agg #[.int .i64 e.f, .int .i64 e.t, .int .i64 e.l, .int .i64 e.d, .int .i8 e.y]
/-- An operation's latency. -/
def latE (t : List Int) (o : Op) : Int := t[4 + (clsN o.k).toNat]?.getD 0
def effB (k : Int) : Bool := k == 17 || (k == 13 || k == 14)
/-- The register that an operation writes, or -1. -/
def dN (o : Op) : Int := if wrB o then o.d else -1
/-- By registers: who was last to write it ahead of place n (the place and 1), or 0. -/
def lastT (l : List Op) : Nat → List Int
  | 0 => List.replicate 32 0
  | n + 1 => match l[n]? with
    | some o => if wrB o then (lastT l n).set o.d.toNat (n + 1) else lastT l n
    | none => lastT l n
/-- By registers: who was last of all to write it, as long as place n has not been reached by another writer. -/
def openT (l : List Op) : Nat → List Int
  | 0 => lastT l l.length
  | n + 1 => match l[n]? with
    | some o => if wrB o then (openT l n).set o.d.toNat 0 else openT l n
    | none => openT l n
def fromB (T : List Int) (o : Op) (i : Nat) : Bool := (rds o).any fun r => T[r.toNat]?.getD 0 == (i : Int) + 1
def seesB (o : Op) (r : Int) : Bool := (rds o).any fun x => x == r
/-- All dependences of a pair but the true one. -/
def antiE (a b : Op) (i j ds : Int) : List Edge := if decide (0 ≤ dN b) && seesB a (dN b) then [⟨i, j, 0, ds, 1⟩] else []
def outE (t : List Int) (a b : Op) (i j ds : Int) : List Edge := if decide (0 ≤ dN b) && dN a == dN b then [⟨i, j, max 0 (latE t a - latE t b + 1), ds, 2⟩] else []
def memE (t : List Int) (a b : Op) (i j ds : Int) (m : Bool) : List Edge := if m && (a.k == 16 || b.k == 16) then [⟨i, j, if a.k == 16 && b.k == 16 then 1 else if a.k == 16 then t[(6 : Nat)]?.getD 0 else 0, ds, 3⟩] else []
def ordE (a b : Op) (i j ds : Int) : List Edge := if effB a.k && effB b.k then [⟨i, j, 1, ds, 4⟩] else []
def pairE (t : List Int) (a b : Op) (i j ds : Int) (m : Bool) : List Edge := antiE a b i j ds ++ (outE t a b i j ds ++ (memE t a b i j ds m ++ ordE a b i j ds))
def trueE (t T : List Int) (a b : Op) (i j : Nat) (ds : Int) : List Edge := if fromB T b i then [⟨i, j, latE t a, ds, 0⟩] else []
def stepE (l : List Op) (t T : List Int) (ds : Int) (i j : Nat) (m : Bool) : List Edge :=
  match l[i]?, l[j]? with
  | some a, some b => trueE t T a b i j ds ++ pairE t a b i j ds m
  | _, _ => []
/-- The dependences of one round that go to j, from places below n. -/
def onceJ (l : List Op) (t : List Int) (j : Nat) : Nat → List Edge
  | 0 => []
  | n + 1 => onceJ l t j n ++ stepE l t (lastT l j) 0 n j (meetL l n j)
def onceE (l : List Op) (t : List Int) : Nat → List Edge
  | 0 => []
  | n + 1 => onceE l t n ++ onceJ l t n n
def arndJ (l : List Op) (t : List Int) (j : Nat) : Nat → List Edge
  | 0 => []
  | n + 1 => arndJ l t j n ++ stepE l t (openT l j) 1 n j (roundL l n j)
def arndE (l : List Op) (t : List Int) : Nat → List Edge
  | 0 => []
  | n + 1 => arndE l t n ++ arndJ l t n l.length
def depOk (o : Op) : Bool := decide (1 ≤ o.k) && decide (o.k ≤ 17) && chk o
/-- The error of a list and a table. -/
def depE (l : List Op) (t : List Int) : Int := if tabOk t then if 1024 < l.length then 3 else if l.all depOk then 0 else 30 else 20
def ofE (l : List Op) (t : List Int) : List Edge := if depE l t == 0 then onceE l t l.length else []
def loopE (l : List Op) (t : List Int) : List Edge := if depE l t == 0 then onceE l t l.length ++ arndE l t l.length else []
theorem dN_yes {o : Op} (h : wrB o = true) : dN o = o.d := by unfold dN; rw [h]; rfl
theorem dN_no {o : Op} (h : wrB o = false) : dN o = -1 := by unfold dN; rw [h]; rfl
theorem dN_bd {o : Op} (hw : o.wf) : -1 ≤ dN o ∧ dN o ≤ 31 := by
  cases h : wrB o with
  | true =>
    rw [dN_yes h]
    unfold wrB at h
    rw [Bool.and_eq_true] at h
    have h2 := h.2
    unfold chk at h2
    simp only [Bool.and_eq_true, decide_eq_true_eq] at h2
    have := hw.d0
    omega
  | false => rw [dN_no h]; omega
theorem pairE_len (t : List Int) (a b : Op) (i j ds : Int) (m : Bool) : (pairE t a b i j ds m).length ≤ 4 := by
  have h1 : (antiE a b i j ds).length ≤ 1 := by unfold antiE; split <;> simp
  have h2 : (outE t a b i j ds).length ≤ 1 := by unfold outE; split <;> simp
  have h3 : (memE t a b i j ds m).length ≤ 1 := by unfold memE; split <;> simp
  have h4 : (ordE a b i j ds).length ≤ 1 := by unfold ordE; split <;> simp
  unfold pairE
  simp only [List.length_append]
  omega
theorem stepE_len (l : List Op) (t T : List Int) (ds : Int) (i j : Nat) (m : Bool) : (stepE l t T ds i j m).length ≤ 5 := by
  unfold stepE
  split
  · rename_i a b _ _
    have h1 : (trueE t T a b i j ds).length ≤ 1 := by unfold trueE; split <;> simp
    have := pairE_len t a b i j ds m
    rw [List.length_append]
    omega
  · simp
theorem onceJ_len (l : List Op) (t : List Int) (j n : Nat) : (onceJ l t j n).length ≤ 5 * n := by
  induction n with
  | zero => simp [onceJ]
  | succ n ih =>
    have := stepE_len l t (lastT l j) 0 n j (meetL l n j)
    unfold onceJ
    rw [List.length_append]
    omega
theorem arndJ_len (l : List Op) (t : List Int) (j n : Nat) : (arndJ l t j n).length ≤ 5 * n := by
  induction n with
  | zero => simp [arndJ]
  | succ n ih =>
    have := stepE_len l t (openT l j) 1 n j (roundL l n j)
    unfold arndJ
    rw [List.length_append]
    omega
theorem onceE_len (l : List Op) (t : List Int) (n : Nat) (hn : n ≤ 1024) : (onceE l t n).length ≤ 5120 * n := by
  induction n with
  | zero => simp [onceE]
  | succ n ih =>
    have := onceJ_len l t n n
    have := ih (by omega)
    unfold onceE
    rw [List.length_append]
    omega
theorem arndE_len (l : List Op) (t : List Int) (n : Nat) (hl : l.length ≤ 1024) : (arndE l t n).length ≤ 5120 * n := by
  induction n with
  | zero => simp [arndE]
  | succ n ih =>
    have := arndJ_len l t n l.length
    unfold arndE
    rw [List.length_append]
    omega
theorem lastT_len (l : List Op) (n : Nat) : (lastT l n).length = 32 := by
  induction n with
  | zero => simp [lastT]
  | succ n ih =>
    unfold lastT
    split
    · split
      · rw [List.length_set]; exact ih
      · exact ih
    · exact ih
theorem openT_len (l : List Op) (n : Nat) : (openT l n).length = 32 := by
  induction n with
  | zero => exact lastT_len _ _
  | succ n ih =>
    unfold openT
    split
    · split
      · rw [List.length_set]; exact ih
      · exact ih
    · exact ih
theorem lastT_bd (l : List Op) (n : Nat) (hn : n ≤ l.length) : ∀ x ∈ lastT l n, 0 ≤ x ∧ x ≤ l.length := by
  induction n with
  | zero => intro x hx; rw [lastT, List.mem_replicate] at hx; omega
  | succ n ih =>
    intro x hx
    have ih := ih (by omega)
    unfold lastT at hx
    split at hx
    · split at hx
      · rcases List.mem_or_eq_of_mem_set hx with h | h
        · exact ih x h
        · omega
      · exact ih x hx
    · exact ih x hx
theorem openT_bd (l : List Op) (n : Nat) : ∀ x ∈ openT l n, 0 ≤ x ∧ x ≤ l.length := by
  induction n with
  | zero => exact lastT_bd l _ (Nat.le_refl _)
  | succ n ih =>
    intro x hx
    unfold openT at hx
    split at hx
    · split at hx
      · rcases List.mem_or_eq_of_mem_set hx with h | h
        · exact ih x h
        · omega
      · exact ih x hx
    · exact ih x hx
theorem chk_regs {o : Op} (h : chk o = true) : o.d ≤ 31 ∧ o.a ≤ 31 ∧ o.b ≤ 31 := by
  unfold chk at h
  simp only [Bool.and_eq_true, decide_eq_true_eq] at h
  omega
theorem wrB_chk {o : Op} (h : wrB o = true) : chk o = true := by
  unfold wrB at h
  rw [Bool.and_eq_true] at h
  exact h.2
theorem rds_bd {o : Op} (hw : o.wf) : ∀ r ∈ rds o, 0 ≤ r ∧ r ≤ 31 := by
  intro r hr
  unfold rds at hr
  split at hr
  · rename_i hc
    have h1 := chk_regs hc
    have h2 := hw.a0
    have h3 := hw.b0
    split at hr
    · simp only [List.mem_cons, List.not_mem_nil, or_false] at hr
      rcases hr with rfl | rfl <;> omega
    · split at hr
      · simp only [List.mem_cons, List.not_mem_nil, or_false] at hr
        subst hr; omega
      · split at hr
        · simp only [List.mem_cons, List.not_mem_nil, or_false] at hr
          subst hr; omega
        · simp at hr
  · simp at hr
theorem rds_len (o : Op) : (rds o).length ≤ 2 := by
  unfold rds
  repeat' split
  all_goals simp
end Go.Proofs.Ytcibkoodnfkogaa
