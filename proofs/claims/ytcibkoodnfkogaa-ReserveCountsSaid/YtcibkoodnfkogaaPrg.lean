/- Programs as plain data; the contracts of program.all, of, fits. -/
import Derived.Test.YtcibkoodnfkogaaBase2
namespace Go.Proofs.Ytcibkoodnfkogaa
open Go.RowKit
set_option linter.unusedVariables false
set_option linter.unusedSimpArgs false
/-- Is it an operation of a program? -/
def opOk (o : Op) : Bool := decide (1 ≤ o.k) && decide (o.k ≤ 17) && chk o
def allOk (l : List Op) : Bool := l.all opOk
theorem allOk_no {l : List Op} {i : Nat} (hi : i < l.length) (h : opOk l[i] = false) : allOk l = false := by
  rw [Bool.eq_false_iff]
  intro ha
  have := List.all_eq_true.1 ha l[i] (List.getElem_mem hi)
  rw [h] at this
  cases this
theorem allOk_yes {l : List Op} (h : ∀ j (hj : j < l.length), opOk l[j] = true) : allOk l = true := by
  refine List.all_eq_true.2 fun o hm => ?_
  obtain ⟨j, hj, rfl⟩ := List.getElem_of_mem hm
  exact h j hj
set_option maxHeartbeats 4000000 in
set_option maxRecDepth 100000 in
theorem all_any (A : Option Addr) (l : List Op) (cap : Nat) (w : World) (hl : OpsIn w A l) (hw : ∀ o ∈ l, o.wf) (hm : l.length ≤ 1000000000000000000) :
    Calls Try.prog 74 #[.slice A l.length cap] w fun e w' => e = .returned (.bool (allOk l)) ∧ Below w.heap.size w w' := by
  have HL := hid hl
  have HW := hid hw
  clear hl hw
  go_enter Try.func74, Try.ntmps74
  go_wp2
  go_loopg [7] l.length (fun g v wr => ∃ i : Nat, i ≤ l.length ∧ v = .int .i64 i ∧ Hid (g + i = l.length) ∧ Hid (∀ j (hj : j < i) (hj2 : j < l.length), opOk l[j] = true) ∧ Below w.heap.size w wr)
  case atStart => exact ⟨0, by omega, rfl, by exact Nat.add_zero _, fun j hj => by omega, Below.refl _ _⟩
  case round =>
    obtain ⟨i, hi, rfl, hg, hall, hbw⟩ := hrel
    by_cases hlt : i < l.length
    · obtain ⟨g, off, rfl, hop⟩ := (OpsIn.keep HL.out hbw).get i hlt
      obtain ⟨c0, c1, c2, c3, c4⟩ := hop
      have hwf := hid (HW.out l[i] (List.getElem_mem hlt))
      have hb0 := hbw
      by_cases h1 : l[i].k < 1
      · have e0 := hid (allOk_no hlt (show opOk l[i] = false by unfold opOk; rw [decide_eq_false (by omega)]; rfl))
        go_wp2
        go_ret
        refine ⟨ret_bool e0.out.symm, ?_⟩
        ((with_reducible (repeat (first | assumption | exact Below.refl _ _ | refine bset ?_ (Nat.le_refl _) _ | refine balloc ?_ _ | refine bdrew ?_ | refine bdrewN ?_ _))); done)
      by_cases h2 : 17 < l[i].k
      · have e0 := hid (allOk_no hlt (show opOk l[i] = false by unfold opOk; rw [decide_eq_false (show ¬ l[i].k ≤ 17 by omega), Bool.and_false]; rfl))
        go_wp2
        go_ret
        refine ⟨ret_bool e0.out.symm, ?_⟩
        ((with_reducible (repeat (first | assumption | exact Below.refl _ _ | refine bset ?_ (Nat.le_refl _) _ | refine balloc ?_ _ | refine bdrew ?_ | refine bdrewN ?_ _))); done)
      have hck := fun w => check_any l[i] w hwf.out
      cases h3 : chk l[i]
      · have e0 := hid (allOk_no hlt (show opOk l[i] = false by unfold opOk; rw [h3, Bool.and_false]))
        have e1 : chkE l[i] = 30 := by unfold chkE; rw [h3]; rfl
        rw [e1] at hck
        have HC := hid hck
        clear e1 hck h3
        go_wp2_with (go_at_call 72; (with_reducible refine (HC.out _).mono ?_); rintro e w' ⟨rfl, hb⟩)
        go_ret
        exact ⟨ret_bool e0.out.symm, below_step hb0 hb⟩
      · have e0 := hid (show opOk l[i] = true by unfold opOk; rw [h3, decide_eq_true (by omega), decide_eq_true (show l[i].k ≤ 17 by omega)]; rfl)
        have e1 : chkE l[i] = 0 := by unfold chkE; rw [h3]; rfl
        rw [e1] at hck
        have HC := hid hck
        clear e1 hck h3
        go_wp2_with (go_at_call 72; (with_reducible refine (HC.out _).mono ?_); rintro e w' ⟨rfl, hb⟩)
        go_roundg (l.length - (i + 1))
        case measure => have := hg.out; omega
        case rel =>
          refine ⟨i + 1, by omega, by go_num, by show _ + _ = _; omega, fun j hj hj2 => ?_, below_step hb0 hb⟩
          by_cases h : j < i
          · exact hall.out j h hj2
          · obtain rfl : j = i := by omega
            exact e0.out
    · obtain rfl : i = l.length := by omega
      have e0 := hid (allOk_yes (l := l) fun j hj => hall.out j hj hj)
      go_wp2
      go_ret
      exact ⟨ret_bool e0.out.symm, hbw⟩
/-- Is a number below another one; or 0, if it does not count? -/
def fitsB (n : Int) (c : Bool) (below : Int) : Bool := if c then decide (0 ≤ n) && decide (n < below) else n == 0
set_option maxHeartbeats 4000000 in
set_option maxRecDepth 100000 in
theorem pfits_any (n below : Int) (c : Bool) (w : World) :
    Calls Try.prog 109 #[.int .i64 n, .bool c, .int .i64 below] w fun e w' => e = .returned (.bool (fitsB n c below)) ∧ w = w' := by
  cases c
  · go_enter Try.func109, Try.ntmps109
    go_wp2
    go_ret
    exact ⟨rfl, rfl⟩
  · by_cases h : 0 ≤ n
    · have e : fitsB n true below = decide (n < below) := by unfold fitsB; rw [decide_eq_true h]; rfl
      rw [e]
      clear e
      go_enter Try.func109, Try.ntmps109
      go_wp2
      go_ret
      exact ⟨rfl, rfl⟩
    · have e : fitsB n true below = false := by unfold fitsB; rw [decide_eq_false h]; rfl
      rw [e]
      clear e
      go_enter Try.func109, Try.ntmps109
      go_wp2
      go_ret
      exact ⟨rfl, rfl⟩
/-- What counts of an end: a, then, other, body. -/
def endA (k : Int) : Bool := !(k == 0)
def endT (k : Int) : Bool := !(k == 2)
def endO (k : Int) : Bool := k == 1
def endY (k : Int) : Bool := k == 3
set_option maxHeartbeats 4000000 in
set_option maxRecDepth 100000 in
theorem of_end (k : Int) (w : World) (h : k = 0 ∨ k = 1 ∨ k = 2 ∨ k = 3) :
    Calls Try.prog 108 #[.int .i8 k] w fun e w' => e = .returned (.tuple #[.agg #[.bool (endA k), .bool (endT k), .bool (endO k), .bool (endY k)], .bool true]) ∧ Below w.heap.size w w' := by
  rcases h with rfl | rfl | rfl | rfl
  all_goals
    go_enter Try.func108, Try.ntmps108
    go_wp2
    refine bodyPost_ret (v := .tuple #[.agg #[_, _, _, _], .bool true]) (by simp [results, Try.results108, go_sem]; first | rfl | exact ⟨rfl, rfl, rfl, rfl⟩) rfl ⟨rfl, ?_⟩
    ((with_reducible (repeat (first | assumption | exact Below.refl _ _ | refine bset ?_ (Nat.le_refl _) _ | refine balloc ?_ _ | refine bdrew ?_ | refine bdrewN ?_ _))); done)
set_option maxHeartbeats 4000000 in
set_option maxRecDepth 100000 in
theorem of_noend (k : Int) (w : World) (h : k < 0 ∨ 3 < k) (h0 : -128 ≤ k) (h1 : k ≤ 127) :
    Calls Try.prog 108 #[.int .i8 k] w fun e w' => e = .returned (.tuple #[.agg #[.bool false, .bool false, .bool false, .bool false], .bool false]) ∧ Below w.heap.size w w' := by
  by_cases h2 : k < 0
  · clear h
    go_enter Try.func108, Try.ntmps108
    go_wp2
    refine bodyPost_ret (v := .tuple #[.agg #[.bool false, .bool false, .bool false, .bool false], .bool false]) (by simp [results, Try.results108, go_sem]) rfl ⟨rfl, ?_⟩
    ((with_reducible (repeat (first | assumption | exact Below.refl _ _ | refine bset ?_ (Nat.le_refl _) _ | refine balloc ?_ _ | refine bdrew ?_ | refine bdrewN ?_ _))); done)
  · have h3 : 4 ≤ k := by omega
    clear h
    go_enter Try.func108, Try.ntmps108
    go_wp2
    refine bodyPost_ret (v := .tuple #[.agg #[.bool false, .bool false, .bool false, .bool false], .bool false]) (by simp [results, Try.results108, go_sem]) rfl ⟨rfl, ?_⟩
    ((with_reducible (repeat (first | assumption | exact Below.refl _ _ | refine bset ?_ (Nat.le_refl _) _ | refine balloc ?_ _ | refine bdrew ?_ | refine bdrewN ?_ _))); done)
end Go.Proofs.Ytcibkoodnfkogaa
