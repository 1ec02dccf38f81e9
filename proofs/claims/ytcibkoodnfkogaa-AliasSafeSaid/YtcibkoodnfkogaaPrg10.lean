/- Does a list use a class of which there is no unit? -/
import Derived.Test.YtcibkoodnfkogaaPrg2
import Derived.Test.YtcibkoodnfkogaaTab
import Derived.Test.YtcibkoodnfkogaaR03b
namespace Go.Proofs.Ytcibkoodnfkogaa
open Go.RowKit
set_option linter.unusedVariables false
set_option linter.unusedSimpArgs false
theorem cls_lt (k : Int) (h : clsB k = true) : ∃ c : Nat, c < 4 ∧ clsN k = c := by
  have hk : isK k = true := by
    unfold clsB at h
    rw [Bool.and_eq_true] at h
    exact h.1
  have hr : 0 ≤ k ∧ k < 24 := by unfold isK at hk; simpa using hk
  have hk2 : ∃ m : Nat, m < 24 ∧ k = m := ⟨k.toNat, by omega, by omega⟩
  obtain ⟨m, hm, rfl⟩ := hk2
  have hall : ∀ m : Nat, m < 24 → clsB (m : Int) = true → 0 ≤ clsN (m : Int) ∧ clsN (m : Int) < 4 := by decide +kernel
  have := hall m hm h
  exact ⟨(clsN (m : Int)).toNat, by omega, by omega⟩
/-- Is an operation's class one without a unit? -/
def lackB (t : List Int) (o : Op) : Bool := clsB o.k && (t[(clsN o.k).toNat]?.getD 0 == 0)
def usesB (l : List Op) (t : List Int) : Bool := l.any (lackB t)
theorem usesB_yes {l : List Op} {t : List Int} {i : Nat} (hi : i < l.length) (h : lackB t l[i] = true) : usesB l t = true :=
  List.any_eq_true.2 ⟨l[i], List.getElem_mem hi, h⟩
theorem usesB_no {l : List Op} {t : List Int} (h : ∀ j (hj : j < l.length), lackB t l[j] = false) : usesB l t = false := by
  rw [Bool.eq_false_iff]
  intro ha
  obtain ⟨o, hm, ho⟩ := List.any_eq_true.1 ha
  obtain ⟨j, hj, rfl⟩ := List.getElem_of_mem hm
  rw [h j hj] at ho
  cases ho
end Go.Proofs.Ytcibkoodnfkogaa
