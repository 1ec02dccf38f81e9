/- Is there an operation of a class in a list? -/
import Derived.Test.YtcibkoodnfkogaaBase2
namespace Go.Proofs.Ytcibkoodnfkogaa
open Go.RowKit
set_option linter.unusedVariables false
set_option linter.unusedSimpArgs false
/-- A kind's class, told by the kinds. -/
def ucls (k : Int) : Int := if k = 12 ∨ k = 13 ∨ k = 14 then 1 else if k = 15 ∨ k = 16 ∨ k = 17 then 2 else 0
def hasC (l : List Op) (c : Int) : Bool := l.any fun o => ucls o.k == c
theorem hasC_yes {l : List Op} {c : Int} {i : Nat} (hi : i < l.length) (h : (ucls l[i].k == c) = true) : hasC l c = true := List.any_eq_true.2 ⟨l[i], List.getElem_mem hi, h⟩
theorem hasC_no {l : List Op} {c : Int} (h : ∀ j (hj : j < l.length), (ucls l[j].k == c) = false) : hasC l c = false := by
  rw [Bool.eq_false_iff]
  intro ha
  obtain ⟨o, hm, ho⟩ := List.any_eq_true.1 ha
  obtain ⟨j, hj, rfl⟩ := List.getElem_of_mem hm
  rw [h j hj] at ho
  cases ho
theorem ucls_cases (k : Int) : (k = 12 ∧ ucls k = 1) ∨ (k = 13 ∧ ucls k = 1) ∨ (k = 14 ∧ ucls k = 1) ∨ (k = 15 ∧ ucls k = 2) ∨ (k = 16 ∧ ucls k = 2) ∨ (k = 17 ∧ ucls k = 2) ∨
    (((k == 12) = false ∧ (k == 13) = false ∧ (k == 14) = false ∧ (k == 15) = false ∧ (k == 16) = false ∧ (k == 17) = false) ∧ ucls k = 0) := by
  unfold ucls
  simp only [beq_eq_false_iff_ne, ne_eq]
  split
  · omega
  · split <;> omega
set_option maxHeartbeats 4000000 in
set_option maxRecDepth 100000 in
theorem uses_any (A : Option Addr) (l : List Op) (cap : Nat) (c : Int) (w : World) (hl : OpsIn w A l) (hm : l.length ≤ 1000000000000000000) :
    Calls Try.prog 44 #[.slice A l.length cap, .int .i64 c] w fun e w' => e = .returned (.bool (hasC l c)) ∧ w = w' := by
  have HL := hid hl
  clear hl
  go_enter Try.func44, Try.ntmps44
  go_wp2
  go_loopg [5] l.length (fun g v wr => ∃ i : Nat, i ≤ l.length ∧ v = .int .i64 i ∧ Hid (g + i = l.length) ∧ Hid (∀ j (hj : j < i) (hj2 : j < l.length), (ucls l[j].k == c) = false) ∧ w = wr)
  case atStart => exact ⟨0, by omega, rfl, by exact Nat.add_zero _, fun j hj => by omega, rfl⟩
  case round =>
    obtain ⟨i, hi, rfl, hg, hall, rfl⟩ := hrel
    by_cases hlt : i < l.length
    · obtain ⟨g, off, rfl, hop⟩ := HL.out.get i hlt
      obtain ⟨c0, c1, c2, c3, c4⟩ := hop
      have hij : (i : Int) < (l.length : Int) := by omega
      have hi0 : (0 : Int) ≤ (i : Int) := by omega
      have hu := ucls_cases l[i].k
      cases hcc : (ucls l[i].k == c)
      · have hst : Hid (∀ j (hj : j < i + 1) (hj2 : j < l.length), (ucls l[j].k == c) = false) := hid fun j hj hj2 => by
          by_cases h : j < i
          · exact hall.out j h hj2
          · obtain rfl : j = i := by omega
            exact hcc
        rcases hu with ⟨hk, he⟩ | ⟨hk, he⟩ | ⟨hk, he⟩ | ⟨hk, he⟩ | ⟨hk, he⟩ | ⟨hk, he⟩ | ⟨⟨hk1, hk2, hk3, hk4, hk5, hk6⟩, he⟩
        all_goals
          rw [he] at hcc
          clear he
          go_wp2
          go_roundg (l.length - (i + 1))
          case measure => have := hg.out; omega
          case rel => exact ⟨i + 1, by omega, by go_num, by show _ + _ = _; omega, hst, rfl⟩
      · have hst := hid (hasC_yes hlt hcc)
        rcases hu with ⟨hk, he⟩ | ⟨hk, he⟩ | ⟨hk, he⟩ | ⟨hk, he⟩ | ⟨hk, he⟩ | ⟨hk, he⟩ | ⟨⟨hk1, hk2, hk3, hk4, hk5, hk6⟩, he⟩
        all_goals
          rw [he] at hcc
          clear he
          go_wp2
          go_ret
          exact ⟨ret_bool hst.out.symm, rfl⟩
    · obtain rfl : i = l.length := by omega
      have e0 := hid (hasC_no (l := l) (c := c) fun j hj => hall.out j hj hj)
      go_wp2
      go_ret
      exact ⟨ret_bool e0.out.symm, rfl⟩
end Go.Proofs.Ytcibkoodnfkogaa
