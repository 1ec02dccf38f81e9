/- The contracts of alias.memory and of the closure 'written' of alias.meet. -/
import Derived.Test.YtcibkoodnfkogaaBase2
import Derived.Test.YtcibkoodnfkogaaOps2
namespace Go.Proofs.Ytcibkoodnfkogaa
open Go.RowKit
set_option linter.unusedVariables false
set_option linter.unusedSimpArgs false
/-- Is it an operation on memory? -/
def memB (o : Op) : Bool := (o.k == 15 || o.k == 16) && chk o
set_option maxHeartbeats 4000000 in
set_option maxRecDepth 100000 in
theorem memory_any (o : Op) (w : World) (ho : o.wf) :
    Calls Try.prog 101 #[o.val] w fun e w' => e = .returned (.bool (memB o)) ∧ Below w.heap.size w w' := by
  have hck := fun w => check_any o w ho
  obtain ⟨k, d, a, b, n⟩ := o
  simp only [Op.val] at *
  cases hk : chk ⟨k, d, a, b, n⟩
  all_goals cases h1 : (k == 15)
  all_goals cases h2 : (k == 16)
  all_goals
    have e : memB ⟨k, d, a, b, n⟩ = ((k == 15 || k == 16) && chk ⟨k, d, a, b, n⟩) := rfl
    rw [h1, h2, hk] at e
    replace e := hid e
    have e3 : chkE ⟨k, d, a, b, n⟩ = if chk ⟨k, d, a, b, n⟩ then 0 else 30 := rfl
    rw [hk] at e3
    simp only [if_true, Bool.false_eq_true, if_false] at e3
    rw [e3] at hck
    have HC := hid hck
    clear e3 hck ho hk
    go_enter Try.func101, Try.ntmps101
    go_wp2_with (go_at_call 72; refine (HC.out _).mono ?_; rintro e w' ⟨rfl, hb2⟩)
    go_ret
    refine ⟨ret_bool e.out.symm, ?_⟩
    first | ((with_reducible (repeat (first | assumption | exact Below.refl _ _ | refine bset ?_ (Nat.le_refl _) _ | refine balloc ?_ _ | refine bdrew ?_ | refine bdrewN ?_ _))); done) | (have hB := below_old hb2; ((with_reducible (repeat (first | assumption | exact Below.refl _ _ | refine bset ?_ (Nat.le_refl _) _ | refine balloc ?_ _ | refine bdrew ?_ | refine bdrewN ?_ _))); done))
/-- Is a register written in a stretch? -/
def written (l : List Op) (r : Int) : Bool := l.any fun o => wrB o && wrN o == r
theorem written_yes {l : List Op} {r : Int} {i : Nat} (hi : i < l.length) (h1 : wrB l[i] = true) (h2 : (wrN l[i] == r) = true) : written l r = true :=
  List.any_eq_true.2 ⟨l[i], List.getElem_mem hi, by simp only [h1, h2, Bool.and_self]⟩
theorem written_no {l : List Op} {r : Int} (h : ∀ j (hj : j < l.length), (wrB l[j] && wrN l[j] == r) = false) : written l r = false := by
  rw [Bool.eq_false_iff]
  intro hw
  obtain ⟨o, hm, ho⟩ := List.any_eq_true.1 hw
  obtain ⟨j, hj, rfl⟩ := List.getElem_of_mem hm
  rw [h j hj] at ho
  cases ho
set_option maxHeartbeats 4000000 in
set_option maxRecDepth 100000 in
theorem written_any (r : Int) (a : Addr) (A : Option Addr) (l : List Op) (cap : Nat) (w : World) (ha : w.cell? a = some (.slice A l.length cap)) (hl : OpsIn w A l) (hw : ∀ o ∈ l, o.wf) (hm : l.length ≤ 1000000000000000000) :
    Calls Try.prog 102 #[.int .u8 r, .pointer (some a)] w fun e w' => e = .returned (.bool (written l r)) ∧ Below w.heap.size w w' := by
  have HL := hid hl
  have HW := hid hw
  have HA := hid ha
  clear hl hw
  go_enter Try.func102, Try.ntmps102
  go_wp2
  clear ha
  go_loopg [10] l.length (fun g v wr => ∃ i : Nat, i ≤ l.length ∧ v = .int .i64 i ∧ Hid (g + i = l.length) ∧ Hid (∀ j (hj : j < i) (hj2 : j < l.length), (wrB l[j] && wrN l[j] == r) = false) ∧ Below w.heap.size w wr)
  case atStart => exact ⟨0, by omega, rfl, by exact Nat.add_zero _, fun j hj => by omega, Below.refl _ _⟩
  case round =>
    obtain ⟨i, hi, rfl, hg, hall, hbw⟩ := hrel
    by_cases hlt : i < l.length
    · obtain ⟨g, off, rfl, hop⟩ := (OpsIn.keep HL.out hbw).get i hlt
      obtain ⟨c0, c1, c2, c3, c4⟩ := hop
      have hwf := hid (HW.out l[i] (List.getElem_mem hlt))
      have hb0 := hbw
      cases h1 : wrB l[i]
      · go_wp2_with (go_at_call 103; refine (writes_any l[i] _ hwf.out).mono ?_; rintro e w' ⟨rfl, hb⟩)
        go_roundg (l.length - (i + 1))
        case measure => have := hg.out; omega
        case rel =>
          refine ⟨i + 1, by omega, by go_num, by show _ + _ = _; omega, fun j hj hj2 => ?_, below_step hb0 hb⟩
          by_cases h : j < i
          · exact hall.out j h hj2
          · obtain rfl : j = i := by omega
            rw [h1]; rfl
      cases h2 : (wrN l[i] == r)
      · go_wp2_with (go_at_call 103; refine (writes_any l[i] _ hwf.out).mono ?_; rintro e w' ⟨rfl, hb⟩)
        go_roundg (l.length - (i + 1))
        case measure => have := hg.out; omega
        case rel =>
          refine ⟨i + 1, by omega, by go_num, by show _ + _ = _; omega, fun j hj hj2 => ?_, below_step hb0 hb⟩
          by_cases h : j < i
          · exact hall.out j h hj2
          · obtain rfl : j = i := by omega
            rw [h2, Bool.and_false]
      · have e := hid (written_yes hlt h1 h2)
        go_wp2_with (go_at_call 103; refine (writes_any l[i] _ hwf.out).mono ?_; rintro e w' ⟨rfl, hb⟩)
        go_ret
        exact ⟨ret_bool e.out.symm, below_step hb0 hb⟩
    · obtain rfl : i = l.length := by omega
      have e := hid (written_no (r := r) (l := l) fun j hj => hall.out j hj hj)
      go_wp2
      go_ret
      exact ⟨ret_bool e.out.symm, hbw⟩
end Go.Proofs.Ytcibkoodnfkogaa
