/- DepsLater: the plain law: greater latencies, the same dependences. -/
import Derived.Test.YtcibkoodnfkogaaE7
namespace Go.Proofs.Ytcibkoodnfkogaa
open Go.RowKit
set_option linter.unusedVariables false
set_option linter.unusedSimpArgs false
def LeE (x y : Edge) : Prop := x.f = y.f ∧ x.t = y.t ∧ x.d = y.d ∧ x.y = y.y ∧ (x.y ≠ 2 → x.l ≤ y.l)
def LeL : List Edge → List Edge → Prop
  | [], [] => True
  | x :: a, y :: b => LeE x y ∧ LeL a b
  | _, _ => False
theorem LeL.app : ∀ {a b c d : List Edge}, LeL a b → LeL c d → LeL (a ++ c) (b ++ d)
  | [], [], _, _, _, h => h
  | _ :: _, _ :: _, _, _, h, k => ⟨h.1, LeL.app h.2 k⟩
  | [], _ :: _, _, _, h, _ => h.elim
  | _ :: _, [], _, _, h, _ => h.elim
theorem LeL.len : ∀ {a b : List Edge}, LeL a b → a.length = b.length
  | [], [], _ => rfl
  | _ :: _, _ :: _, h => by rw [List.length_cons, List.length_cons, LeL.len h.2]
  | [], _ :: _, h => h.elim
  | _ :: _, [], h => h.elim
theorem LeL.get : ∀ {a b : List Edge} (_ : LeL a b) (i : Nat) (hi : i < a.length) (hj : i < b.length), LeE a[i] b[i]
  | _ :: _, _ :: _, h, 0, _, _ => h.1
  | _ :: a, _ :: b, h, i + 1, hi, hj => LeL.get h.2 i (by simpa using hi) (by simpa using hj)
  | [], _, _, _, hi, _ => absurd hi (by simp)
  | _ :: _, [], h, _, _, _ => h.elim
theorem LeE.refl (x : Edge) : LeE x x := ⟨rfl, rfl, rfl, rfl, fun _ => Int.le_refl _⟩
theorem LeL.refl : ∀ (a : List Edge), LeL a a
  | [] => trivial
  | x :: a => ⟨LeE.refl x, LeL.refl a⟩
theorem LeL.one {c : Bool} {x y : Edge} (h : LeE x y) : LeL (if c then [x] else []) (if c then [y] else []) := by
  cases c
  · exact trivial
  · exact ⟨h, trivial⟩
theorem lat_le {t u : List Int} (h : ∀ c : Nat, c < 4 → t[4 + c]?.getD 0 ≤ u[4 + c]?.getD 0) (o : Op) : latE t o ≤ latE u o := by
  obtain ⟨c, hc, e⟩ := clsN_nat o.k
  unfold latE
  rw [e]
  exact h c hc
theorem pair_le {t u : List Int} (h : ∀ c : Nat, c < 4 → t[4 + c]?.getD 0 ≤ u[4 + c]?.getD 0) (a b : Op) (i j ds : Int) (m : Bool) : LeL (pairE t a b i j ds m) (pairE u a b i j ds m) := by
  unfold pairE
  refine LeL.app (LeL.refl _) (LeL.app ?_ (LeL.app ?_ (LeL.refl _)))
  · unfold outE
    exact LeL.one ⟨rfl, rfl, rfl, rfl, fun h2 => absurd rfl h2⟩
  · unfold memE
    refine LeL.one ⟨rfl, rfl, rfl, rfl, fun _ => ?_⟩
    show (if _ then _ else _) ≤ (if _ then _ else _)
    split
    · exact Int.le_refl _
    · split
      · exact h 2 (by omega)
      · exact Int.le_refl _
theorem step_le {t u : List Int} (h : ∀ c : Nat, c < 4 → t[4 + c]?.getD 0 ≤ u[4 + c]?.getD 0) (l : List Op) (T : List Int) (ds : Int) (i j : Nat) (m : Bool) : LeL (stepE l t T ds i j m) (stepE l u T ds i j m) := by
  unfold stepE
  split
  · refine LeL.app ?_ (pair_le h _ _ _ _ _ _)
    unfold trueE
    exact LeL.one ⟨rfl, rfl, rfl, rfl, fun _ => lat_le h _⟩
  · exact trivial
theorem onceJ_le {t u : List Int} (h : ∀ c : Nat, c < 4 → t[4 + c]?.getD 0 ≤ u[4 + c]?.getD 0) (l : List Op) (j n : Nat) : LeL (onceJ l t j n) (onceJ l u j n) := by
  induction n with
  | zero => exact trivial
  | succ n ih => exact LeL.app ih (step_le h _ _ _ _ _ _)
theorem arndJ_le {t u : List Int} (h : ∀ c : Nat, c < 4 → t[4 + c]?.getD 0 ≤ u[4 + c]?.getD 0) (l : List Op) (j n : Nat) : LeL (arndJ l t j n) (arndJ l u j n) := by
  induction n with
  | zero => exact trivial
  | succ n ih => exact LeL.app ih (step_le h _ _ _ _ _ _)
theorem onceE_le {t u : List Int} (h : ∀ c : Nat, c < 4 → t[4 + c]?.getD 0 ≤ u[4 + c]?.getD 0) (l : List Op) (n : Nat) : LeL (onceE l t n) (onceE l u n) := by
  induction n with
  | zero => exact trivial
  | succ n ih => exact LeL.app ih (onceJ_le h _ _ _)
theorem arndE_le {t u : List Int} (h : ∀ c : Nat, c < 4 → t[4 + c]?.getD 0 ≤ u[4 + c]?.getD 0) (l : List Op) (n : Nat) : LeL (arndE l t n) (arndE l u n) := by
  induction n with
  | zero => exact trivial
  | succ n ih => exact LeL.app ih (arndJ_le h _ _ _)
/-- A latency that is made greater. -/
def qE (x mm : Int) : Int := min (wrap64 (max x 0 + mm)) 8
/-- The table whose first n latencies are made greater. -/
def uAt (t : List Int) (mm : Int) : Nat → List Int
  | 0 => t
  | n + 1 => (uAt t mm n).set (4 + n) (qE (t[4 + n]?.getD 0) mm)
theorem uAt_len (t : List Int) (mm : Int) (n : Nat) : (uAt t mm n).length = t.length := by
  induction n with
  | zero => rfl
  | succ n ih => unfold uAt; rw [List.length_set, ih]
theorem uAt_get (t : List Int) (ht : t.length = 13) (mm : Int) (n : Nat) (hn : n ≤ 4) (c : Nat) (hc : c < 4) : (uAt t mm n)[4 + c]?.getD 0 = if c < n then qE (t[4 + c]?.getD 0) mm else t[4 + c]?.getD 0 := by
  induction n with
  | zero => rw [if_neg (by omega)]; rfl
  | succ n ih =>
    have ih := ih (by omega)
    unfold uAt
    by_cases e : c = n
    · subst e
      rw [List.getElem?_set_self (by rw [uAt_len, ht]; omega), if_pos (by omega)]
      rfl
    · rw [List.getElem?_set_ne (by omega), ih]
      by_cases h : c < n
      · rw [if_pos h, if_pos (by omega)]
      · rw [if_neg h, if_neg (by omega)]
theorem later_le {l : List Op} {t : List Int} (ht : t.length = 13) {mm : Int} (h0 : 0 ≤ mm) (h1 : mm ≤ 3) (he : depE l t = 0) (hu : depE l (uAt t mm 4) = 0) : LeL (loopE l t) (loopE l (uAt t mm 4)) := by
  obtain ⟨hl, hb⟩ := lat_all he
  have h : ∀ c : Nat, c < 4 → t[4 + c]?.getD 0 ≤ (uAt t mm 4)[4 + c]?.getD 0 := fun c hc => by
    rw [uAt_get t ht mm 4 (Nat.le_refl _) c hc, if_pos hc]
    have := hb c hc
    unfold qE
    unfold wrap64
    omega
  unfold loopE
  rw [he, hu]
  exact LeL.app (onceE_le h l _) (arndE_le h l _)
end Go.Proofs.Ytcibkoodnfkogaa
