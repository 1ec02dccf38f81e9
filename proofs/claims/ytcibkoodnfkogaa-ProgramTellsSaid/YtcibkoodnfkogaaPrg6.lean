/- The document's Op, all, End for programs. -/
import Derived.Test.YtcibkoodnfkogaaPrg5
import Derived.Test.YtcibkoodnfkogaaR03c
namespace Go.Proofs.Ytcibkoodnfkogaa
open Go.RowKit
set_option linter.unusedVariables false
set_option linter.unusedSimpArgs false
set_option maxHeartbeats 4000000 in
set_option maxRecDepth 100000 in
theorem rop_any (o : Op) (w : World) :
    Calls Try.prog 110 #[o.val] w fun e w' => e = .returned (.bool (opOk o)) ∧ Below w.heap.size w w' := by
  by_cases h1 : o.k < 1
  · have e0 := hid (show opOk o = false by unfold opOk; rw [decide_eq_false (by omega)]; rfl)
    go_enter Try.func110, Try.ntmps110
    go_wp2
    go_ret
    refine ⟨ret_bool e0.out.symm, ?_⟩
    ((with_reducible (repeat (first | assumption | exact Below.refl _ _ | refine bset ?_ (Nat.le_refl _) _ | refine balloc ?_ _ | refine bdrew ?_ | refine bdrewN ?_ _))); done)
  by_cases h2 : 17 < o.k
  · have e0 := hid (show opOk o = false by unfold opOk; rw [decide_eq_false (show ¬ o.k ≤ 17 by omega), Bool.and_false]; rfl)
    have h3 : ¬ o.k ≤ 17 := by omega
    have h4 : 1 ≤ o.k := by omega
    go_enter Try.func110, Try.ntmps110
    go_wp2
    go_ret
    refine ⟨ret_bool e0.out.symm, ?_⟩
    ((with_reducible (repeat (first | assumption | exact Below.refl _ _ | refine bset ?_ (Nat.le_refl _) _ | refine balloc ?_ _ | refine bdrew ?_ | refine bdrewN ?_ _))); done)
  have h4 : 1 ≤ o.k := by omega
  have h5 : o.k ≤ 17 := by omega
  have hck := hid (fun w => rcheck_any o w)
  cases h3 : chk o
  · have e0 := hid (show opOk o = false by unfold opOk; rw [h3, Bool.and_false])
    have e1 : chkE o = 30 := by unfold chkE; rw [h3]; rfl
    rw [e1] at hck
    clear e1 h3
    go_enter Try.func110, Try.ntmps110
    go_wp2_with fail
    with_reducible refine (hck.out _).mono ?_
    rintro e w1 ⟨rfl, hb⟩
    obtain ⟨hc, hf⟩ := bcell hb
    go_wp2
    go_ret
    refine ⟨ret_bool e0.out.symm, btrans (a := w) ?_ hb⟩
    ((with_reducible (repeat (first | assumption | exact Below.refl _ _ | refine bset ?_ (Nat.le_refl _) _ | refine balloc ?_ _ | refine bdrew ?_ | refine bdrewN ?_ _))); done)
  · have e0 := hid (show opOk o = true by unfold opOk; rw [h3, decide_eq_true h4, decide_eq_true h5]; rfl)
    have e1 : chkE o = 0 := by unfold chkE; rw [h3]; rfl
    rw [e1] at hck
    clear e1 h3
    go_enter Try.func110, Try.ntmps110
    go_wp2_with fail
    with_reducible refine (hck.out _).mono ?_
    rintro e w1 ⟨rfl, hb⟩
    obtain ⟨hc, hf⟩ := bcell hb
    go_wp2
    go_ret
    refine ⟨ret_bool e0.out.symm, btrans (a := w) ?_ hb⟩
    ((with_reducible (repeat (first | assumption | exact Below.refl _ _ | refine bset ?_ (Nat.le_refl _) _ | refine balloc ?_ _ | refine bdrew ?_ | refine bdrewN ?_ _))); done)
set_option maxHeartbeats 4000000 in
set_option maxRecDepth 100000 in
theorem rall_any (A : Option Addr) (l : List Op) (cap : Nat) (w : World) (hl : OpsIn w A l) (hm : l.length ≤ 1000000000000000000) :
    Calls Try.prog 77 #[.slice A l.length cap] w fun e w' => e = .returned (.bool (allOk l)) ∧ Below w.heap.size w w' := by
  have HL := hid hl
  clear hl
  go_enter Try.func77, Try.ntmps77
  go_wp2
  go_loopg [3] l.length (fun g v wr => ∃ i : Nat, i ≤ l.length ∧ v = .int .i64 i ∧ Hid (g + i = l.length) ∧ Hid (∀ j (hj : j < i) (hj2 : j < l.length), opOk l[j] = true) ∧ Below w.heap.size w wr)
  case atStart => exact ⟨0, by omega, rfl, by exact Nat.add_zero _, fun j hj => by omega, Below.refl _ _⟩
  case round =>
    obtain ⟨i, hi, rfl, hg, hall, hbw⟩ := hrel
    by_cases hlt : i < l.length
    · obtain ⟨g, off, rfl, hop⟩ := (OpsIn.keep HL.out hbw).get i hlt
      obtain ⟨c0, c1, c2, c3, c4⟩ := hop
      have hb0 := hid hbw
      have hij : (i : Int) < (l.length : Int) := by omega
      have hi0 : (0 : Int) ≤ (i : Int) := by omega
      have HC := hid (fun w => rop_any l[i] w)
      clear hbw
      cases h3 : opOk l[i]
      · have e0 := hid (allOk_no hlt h3)
        rw [h3] at HC
        clear h3
        go_wp2_with (go_at_call 110; (with_reducible refine (HC.out _).mono ?_); rintro e w' ⟨rfl, hb⟩)
        go_ret
        exact ⟨ret_bool e0.out.symm, btrans hb0.out hb⟩
      · have e0 := hid h3
        rw [h3] at HC
        clear h3
        go_wp2_with (go_at_call 110; (with_reducible refine (HC.out _).mono ?_); rintro e w' ⟨rfl, hb⟩)
        go_roundg (l.length - (i + 1))
        case measure => have := hg.out; omega
        case rel =>
          refine ⟨i + 1, by omega, by go_num, by show _ + _ = _; omega, fun j hj hj2 => ?_, btrans hb0.out hb⟩
          by_cases h : j < i
          · exact hall.out j h hj2
          · obtain rfl : j = i := by omega
            exact e0.out
    · obtain rfl : i = l.length := by omega
      have e0 := hid (allOk_yes (l := l) fun j hj => hall.out j hj hj)
      go_wp2
      go_ret
      exact ⟨ret_bool e0.out.symm, hbw⟩
end Go.Proofs.Ytcibkoodnfkogaa
