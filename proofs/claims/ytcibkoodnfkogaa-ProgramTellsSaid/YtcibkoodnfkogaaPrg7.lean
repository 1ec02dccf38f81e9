/- The document's End. -/
import Derived.Test.YtcibkoodnfkogaaPrg6
namespace Go.Proofs.Ytcibkoodnfkogaa
open Go.RowKit
set_option linter.unusedVariables false
set_option linter.unusedSimpArgs false
/-- Is an end one of a program of n blocks? -/
def endF (en a th el : Int) (m : Nat) (n : Int) : Bool :=
  (decide (0 ≤ en) && decide (en ≤ 3)) && fitsB a (endA en) 32 && fitsB th (endT en) n && fitsB el (endO en) n && (endY en || m == 0)
theorem endB_eq (b : Blk) (n : Int) : endB b n = endF b.en b.a b.th b.el b.body.length n := rfl
set_option maxHeartbeats 4000000 in
set_option maxRecDepth 100000 in
theorem rend_any (A A2 : Option Addr) (c c2 l1 l2 : Nat) (en a th el n : Int) (w : World) (ha : 0 ≤ a) :
    Calls Try.prog 78 #[.agg #[.slice A l1 c, .int .i8 en, .int .u8 a, .slice A2 l2 c2, .int .i64 th, .int .i64 el], .int .i64 n] w fun e w' => e = .returned (.bool (endF en a th el l2 n)) ∧ Below w.heap.size w w' := by
  suffices H : ∀ r, r = endF en a th el l2 n → Calls Try.prog 78 #[.agg #[.slice A l1 c, .int .i8 en, .int .u8 a, .slice A2 l2 c2, .int .i64 th, .int .i64 el], .int .i64 n] w fun e w' => e = .returned (.bool r) ∧ Below w.heap.size w w' from H _ rfl
  intro r hr
  by_cases h0 : en < 0
  · (have e0 := hid (show r = false by rw [hr]; clear hr; simp [endF, fitsB, endA, endT, endO, endY, *] <;> omega); clear hr; go_enter Try.func78, Try.ntmps78; go_wp2; go_ret; refine ⟨ret_bool e0.out.symm, ?_⟩; ((with_reducible (repeat (first | assumption | exact Below.refl _ _ | refine bset ?_ (Nat.le_refl _) _ | refine balloc ?_ _ | refine bdrew ?_ | refine bdrewN ?_ _))); done))
  by_cases h1 : 3 < en
  · (have e0 := hid (show r = false by rw [hr]; clear hr; simp [endF, fitsB, endA, endT, endO, endY, *] <;> omega); clear hr; go_enter Try.func78, Try.ntmps78; go_wp2; go_ret; refine ⟨ret_bool e0.out.symm, ?_⟩; ((with_reducible (repeat (first | assumption | exact Below.refl _ _ | refine bset ?_ (Nat.le_refl _) _ | refine balloc ?_ _ | refine bdrew ?_ | refine bdrewN ?_ _))); done))
  have h : en = 0 ∨ en = 1 ∨ en = 2 ∨ en = 3 := by omega
  clear h0 h1
  rcases h with rfl | rfl | rfl | rfl
  · by_cases c0 : ¬ (a = 0)
    · (have e0 := hid (show r = false by rw [hr]; clear hr; simp [endF, fitsB, endA, endT, endO, endY, *] <;> omega); clear hr; go_enter Try.func78, Try.ntmps78; go_wp2; go_ret; refine ⟨ret_bool e0.out.symm, ?_⟩; ((with_reducible (repeat (first | assumption | exact Below.refl _ _ | refine bset ?_ (Nat.le_refl _) _ | refine balloc ?_ _ | refine bdrew ?_ | refine bdrewN ?_ _))); done))
    replace c0 : a = 0 := by omega
    subst c0
    by_cases c1 : ¬ (0 ≤ th)
    · replace c1 : th < 0 := by omega
      (have e0 := hid (show r = false by rw [hr]; clear hr; simp [endF, fitsB, endA, endT, endO, endY, *] <;> omega); clear hr; go_enter Try.func78, Try.ntmps78; go_wp2; go_ret; refine ⟨ret_bool e0.out.symm, ?_⟩; ((with_reducible (repeat (first | assumption | exact Below.refl _ _ | refine bset ?_ (Nat.le_refl _) _ | refine balloc ?_ _ | refine bdrew ?_ | refine bdrewN ?_ _))); done))
    replace c1 : 0 ≤ th := by omega
    by_cases c2 : ¬ (th < n)
    · replace c2 : n ≤ th := by omega
      (have e0 := hid (show r = false by rw [hr]; clear hr; simp [endF, fitsB, endA, endT, endO, endY, *] <;> omega); clear hr; go_enter Try.func78, Try.ntmps78; go_wp2; go_ret; refine ⟨ret_bool e0.out.symm, ?_⟩; ((with_reducible (repeat (first | assumption | exact Below.refl _ _ | refine bset ?_ (Nat.le_refl _) _ | refine balloc ?_ _ | refine bdrew ?_ | refine bdrewN ?_ _))); done))
    replace c2 : th < n := by omega
    by_cases c3 : ¬ (el = 0)
    · (have e0 := hid (show r = false by rw [hr]; clear hr; simp [endF, fitsB, endA, endT, endO, endY, *] <;> omega); clear hr; go_enter Try.func78, Try.ntmps78; go_wp2; go_ret; refine ⟨ret_bool e0.out.symm, ?_⟩; ((with_reducible (repeat (first | assumption | exact Below.refl _ _ | refine bset ?_ (Nat.le_refl _) _ | refine balloc ?_ _ | refine bdrew ?_ | refine bdrewN ?_ _))); done))
    replace c3 : el = 0 := by omega
    subst c3
    by_cases c4 : ¬ ((l2 : Int) = 0)
    · have cb : ((l2 : Int) == 0) = false := by simpa using c4
      (have e0 := hid (show r = false by rw [hr]; clear hr; simp [endF, fitsB, endA, endT, endO, endY, *] <;> omega); clear hr; go_enter Try.func78, Try.ntmps78; go_wp2; go_ret; refine ⟨ret_bool e0.out.symm, ?_⟩; ((with_reducible (repeat (first | assumption | exact Below.refl _ _ | refine bset ?_ (Nat.le_refl _) _ | refine balloc ?_ _ | refine bdrew ?_ | refine bdrewN ?_ _))); done))
    replace c4 : (l2 : Int) = 0 := by omega
    (have e0 := hid (show r = true by rw [hr]; clear hr; simp [endF, fitsB, endA, endT, endO, endY, *] <;> omega); clear hr; go_enter Try.func78, Try.ntmps78; go_wp2; go_ret; refine ⟨ret_bool e0.out.symm, ?_⟩; ((with_reducible (repeat (first | assumption | exact Below.refl _ _ | refine bset ?_ (Nat.le_refl _) _ | refine balloc ?_ _ | refine bdrew ?_ | refine bdrewN ?_ _))); done))
  · by_cases c0 : ¬ (a < 32)
    · replace c0 : 32 ≤ a := by omega
      (have e0 := hid (show r = false by rw [hr]; clear hr; simp [endF, fitsB, endA, endT, endO, endY, *] <;> omega); clear hr; go_enter Try.func78, Try.ntmps78; go_wp2; go_ret; refine ⟨ret_bool e0.out.symm, ?_⟩; ((with_reducible (repeat (first | assumption | exact Below.refl _ _ | refine bset ?_ (Nat.le_refl _) _ | refine balloc ?_ _ | refine bdrew ?_ | refine bdrewN ?_ _))); done))
    replace c0 : a < 32 := by omega
    by_cases c1 : ¬ (0 ≤ th)
    · replace c1 : th < 0 := by omega
      (have e0 := hid (show r = false by rw [hr]; clear hr; simp [endF, fitsB, endA, endT, endO, endY, *] <;> omega); clear hr; go_enter Try.func78, Try.ntmps78; go_wp2; go_ret; refine ⟨ret_bool e0.out.symm, ?_⟩; ((with_reducible (repeat (first | assumption | exact Below.refl _ _ | refine bset ?_ (Nat.le_refl _) _ | refine balloc ?_ _ | refine bdrew ?_ | refine bdrewN ?_ _))); done))
    replace c1 : 0 ≤ th := by omega
    by_cases c2 : ¬ (th < n)
    · replace c2 : n ≤ th := by omega
      (have e0 := hid (show r = false by rw [hr]; clear hr; simp [endF, fitsB, endA, endT, endO, endY, *] <;> omega); clear hr; go_enter Try.func78, Try.ntmps78; go_wp2; go_ret; refine ⟨ret_bool e0.out.symm, ?_⟩; ((with_reducible (repeat (first | assumption | exact Below.refl _ _ | refine bset ?_ (Nat.le_refl _) _ | refine balloc ?_ _ | refine bdrew ?_ | refine bdrewN ?_ _))); done))
    replace c2 : th < n := by omega
    by_cases c3 : ¬ (0 ≤ el)
    · replace c3 : el < 0 := by omega
      (have e0 := hid (show r = false by rw [hr]; clear hr; simp [endF, fitsB, endA, endT, endO, endY, *] <;> omega); clear hr; go_enter Try.func78, Try.ntmps78; go_wp2; go_ret; refine ⟨ret_bool e0.out.symm, ?_⟩; ((with_reducible (repeat (first | assumption | exact Below.refl _ _ | refine bset ?_ (Nat.le_refl _) _ | refine balloc ?_ _ | refine bdrew ?_ | refine bdrewN ?_ _))); done))
    replace c3 : 0 ≤ el := by omega
    by_cases c4 : ¬ (el < n)
    · replace c4 : n ≤ el := by omega
      (have e0 := hid (show r = false by rw [hr]; clear hr; simp [endF, fitsB, endA, endT, endO, endY, *] <;> omega); clear hr; go_enter Try.func78, Try.ntmps78; go_wp2; go_ret; refine ⟨ret_bool e0.out.symm, ?_⟩; ((with_reducible (repeat (first | assumption | exact Below.refl _ _ | refine bset ?_ (Nat.le_refl _) _ | refine balloc ?_ _ | refine bdrew ?_ | refine bdrewN ?_ _))); done))
    replace c4 : el < n := by omega
    by_cases c5 : ¬ ((l2 : Int) = 0)
    · have cb : ((l2 : Int) == 0) = false := by simpa using c5
      (have e0 := hid (show r = false by rw [hr]; clear hr; simp [endF, fitsB, endA, endT, endO, endY, *] <;> omega); clear hr; go_enter Try.func78, Try.ntmps78; go_wp2; go_ret; refine ⟨ret_bool e0.out.symm, ?_⟩; ((with_reducible (repeat (first | assumption | exact Below.refl _ _ | refine bset ?_ (Nat.le_refl _) _ | refine balloc ?_ _ | refine bdrew ?_ | refine bdrewN ?_ _))); done))
    replace c5 : (l2 : Int) = 0 := by omega
    (have e0 := hid (show r = true by rw [hr]; clear hr; simp [endF, fitsB, endA, endT, endO, endY, *] <;> omega); clear hr; go_enter Try.func78, Try.ntmps78; go_wp2; go_ret; refine ⟨ret_bool e0.out.symm, ?_⟩; ((with_reducible (repeat (first | assumption | exact Below.refl _ _ | refine bset ?_ (Nat.le_refl _) _ | refine balloc ?_ _ | refine bdrew ?_ | refine bdrewN ?_ _))); done))
  · by_cases c0 : ¬ (a < 32)
    · replace c0 : 32 ≤ a := by omega
      (have e0 := hid (show r = false by rw [hr]; clear hr; simp [endF, fitsB, endA, endT, endO, endY, *] <;> omega); clear hr; go_enter Try.func78, Try.ntmps78; go_wp2; go_ret; refine ⟨ret_bool e0.out.symm, ?_⟩; ((with_reducible (repeat (first | assumption | exact Below.refl _ _ | refine bset ?_ (Nat.le_refl _) _ | refine balloc ?_ _ | refine bdrew ?_ | refine bdrewN ?_ _))); done))
    replace c0 : a < 32 := by omega
    by_cases c1 : ¬ (th = 0)
    · (have e0 := hid (show r = false by rw [hr]; clear hr; simp [endF, fitsB, endA, endT, endO, endY, *] <;> omega); clear hr; go_enter Try.func78, Try.ntmps78; go_wp2; go_ret; refine ⟨ret_bool e0.out.symm, ?_⟩; ((with_reducible (repeat (first | assumption | exact Below.refl _ _ | refine bset ?_ (Nat.le_refl _) _ | refine balloc ?_ _ | refine bdrew ?_ | refine bdrewN ?_ _))); done))
    replace c1 : th = 0 := by omega
    subst c1
    by_cases c2 : ¬ (el = 0)
    · (have e0 := hid (show r = false by rw [hr]; clear hr; simp [endF, fitsB, endA, endT, endO, endY, *] <;> omega); clear hr; go_enter Try.func78, Try.ntmps78; go_wp2; go_ret; refine ⟨ret_bool e0.out.symm, ?_⟩; ((with_reducible (repeat (first | assumption | exact Below.refl _ _ | refine bset ?_ (Nat.le_refl _) _ | refine balloc ?_ _ | refine bdrew ?_ | refine bdrewN ?_ _))); done))
    replace c2 : el = 0 := by omega
    subst c2
    by_cases c3 : ¬ ((l2 : Int) = 0)
    · have cb : ((l2 : Int) == 0) = false := by simpa using c3
      (have e0 := hid (show r = false by rw [hr]; clear hr; simp [endF, fitsB, endA, endT, endO, endY, *] <;> omega); clear hr; go_enter Try.func78, Try.ntmps78; go_wp2; go_ret; refine ⟨ret_bool e0.out.symm, ?_⟩; ((with_reducible (repeat (first | assumption | exact Below.refl _ _ | refine bset ?_ (Nat.le_refl _) _ | refine balloc ?_ _ | refine bdrew ?_ | refine bdrewN ?_ _))); done))
    replace c3 : (l2 : Int) = 0 := by omega
    (have e0 := hid (show r = true by rw [hr]; clear hr; simp [endF, fitsB, endA, endT, endO, endY, *] <;> omega); clear hr; go_enter Try.func78, Try.ntmps78; go_wp2; go_ret; refine ⟨ret_bool e0.out.symm, ?_⟩; ((with_reducible (repeat (first | assumption | exact Below.refl _ _ | refine bset ?_ (Nat.le_refl _) _ | refine balloc ?_ _ | refine bdrew ?_ | refine bdrewN ?_ _))); done))
  · by_cases c0 : ¬ (a < 32)
    · replace c0 : 32 ≤ a := by omega
      (have e0 := hid (show r = false by rw [hr]; clear hr; simp [endF, fitsB, endA, endT, endO, endY, *] <;> omega); clear hr; go_enter Try.func78, Try.ntmps78; go_wp2; go_ret; refine ⟨ret_bool e0.out.symm, ?_⟩; ((with_reducible (repeat (first | assumption | exact Below.refl _ _ | refine bset ?_ (Nat.le_refl _) _ | refine balloc ?_ _ | refine bdrew ?_ | refine bdrewN ?_ _))); done))
    replace c0 : a < 32 := by omega
    by_cases c1 : ¬ (0 ≤ th)
    · replace c1 : th < 0 := by omega
      (have e0 := hid (show r = false by rw [hr]; clear hr; simp [endF, fitsB, endA, endT, endO, endY, *] <;> omega); clear hr; go_enter Try.func78, Try.ntmps78; go_wp2; go_ret; refine ⟨ret_bool e0.out.symm, ?_⟩; ((with_reducible (repeat (first | assumption | exact Below.refl _ _ | refine bset ?_ (Nat.le_refl _) _ | refine balloc ?_ _ | refine bdrew ?_ | refine bdrewN ?_ _))); done))
    replace c1 : 0 ≤ th := by omega
    by_cases c2 : ¬ (th < n)
    · replace c2 : n ≤ th := by omega
      (have e0 := hid (show r = false by rw [hr]; clear hr; simp [endF, fitsB, endA, endT, endO, endY, *] <;> omega); clear hr; go_enter Try.func78, Try.ntmps78; go_wp2; go_ret; refine ⟨ret_bool e0.out.symm, ?_⟩; ((with_reducible (repeat (first | assumption | exact Below.refl _ _ | refine bset ?_ (Nat.le_refl _) _ | refine balloc ?_ _ | refine bdrew ?_ | refine bdrewN ?_ _))); done))
    replace c2 : th < n := by omega
    by_cases c3 : ¬ (el = 0)
    · (have e0 := hid (show r = false by rw [hr]; clear hr; simp [endF, fitsB, endA, endT, endO, endY, *] <;> omega); clear hr; go_enter Try.func78, Try.ntmps78; go_wp2; go_ret; refine ⟨ret_bool e0.out.symm, ?_⟩; ((with_reducible (repeat (first | assumption | exact Below.refl _ _ | refine bset ?_ (Nat.le_refl _) _ | refine balloc ?_ _ | refine bdrew ?_ | refine bdrewN ?_ _))); done))
    replace c3 : el = 0 := by omega
    subst c3
    (have e0 := hid (show r = true by rw [hr]; clear hr; simp [endF, fitsB, endA, endT, endO, endY, *] <;> omega); clear hr; go_enter Try.func78, Try.ntmps78; go_wp2; go_ret; refine ⟨ret_bool e0.out.symm, ?_⟩; ((with_reducible (repeat (first | assumption | exact Below.refl _ _ | refine bset ?_ (Nat.le_refl _) _ | refine balloc ?_ _ | refine bdrew ?_ | refine bdrewN ?_ _))); done))
end Go.Proofs.Ytcibkoodnfkogaa
