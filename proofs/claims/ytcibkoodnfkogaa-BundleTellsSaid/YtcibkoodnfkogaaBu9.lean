/- The contracts of words and Same. -/
import Derived.Test.YtcibkoodnfkogaaBu8
import Derived.Deep.QuietTactic
namespace Go.Proofs.Ytcibkoodnfkogaa
open Go.RowKit
set_option linter.unusedVariables false
set_option linter.unusedSimpArgs false
set_option maxHeartbeats 4000000 in
set_option maxRecDepth 100000 in
theorem words_any (A A2 : Option Addr) (l : List Int) (cap cap2 : Nat) (w : World) (hl : WordsIn w A l) (hl2 : WordsIn w A2 l) (hm : l.length ≤ 1000000000000000000) :
    Calls Try.prog 50 #[.slice A l.length cap, .slice A2 l.length cap2] w fun e w' => e = .returned (.bool true) ∧ Below w.heap.size w w' := by
  have HL := hid hl
  have HL2 := hid hl2
  clear hl hl2
  go_enter Try.func50, Try.ntmps50
  go_wp2
  go_loopg [13] l.length (fun g v wr => ∃ i : Nat, i ≤ l.length ∧ v = .int .i64 i ∧ Hid (g + i = l.length) ∧ ∃ n, wr = w.drewN n)
  case atStart => exact ⟨0, by omega, rfl, by exact Nat.add_zero _, 0, rfl⟩
  case round =>
    obtain ⟨i, hi, rfl, hg, n, rfl⟩ := hrel
    by_cases hlt : i < l.length
    · obtain ⟨g, off, rfl, hx⟩ := HL.out (by intro h; rw [h] at hlt; simp at hlt)
      obtain ⟨g2, off2, rfl, hx2⟩ := HL2.out (by intro h; rw [h] at hlt; simp at hlt)
      have c0 := hx i _ (List.getElem?_eq_getElem hlt)
      have d0 := hx2 i _ (List.getElem?_eq_getElem hlt)
      have hij : (i : Int) < (l.length : Int) := by omega
      have hi0 : (0 : Int) ≤ (i : Int) := by omega
      clear hx hx2
      go_wp2
      go_quiet (fail)
      go_wp2
      go_roundg (l.length - (i + 1))
      case measure => have := hg.out; omega
      case rel => exact ⟨i + 1, by omega, by go_num, by show _ + _ = _; omega, _, rfl⟩
    · obtain rfl : i = l.length := by omega
      go_wp2
      go_ret
      exact ⟨rfl, bdrewN (Below.refl _ _) n⟩
/-- Are two bundles the same? -/
def sameB (a b : Nat → List Op) : Prop := ∀ j, j < 4 → a j = b j
def sameL (a b : List (Nat → List Op)) : Prop := a.length = b.length ∧ ∀ (i : Nat) (x y : Nat → List Op), a[i]? = some x → b[i]? = some y → sameB x y
set_option maxHeartbeats 4000000 in
set_option maxRecDepth 100000 in
theorem same_yes (A A2 : Option Addr) (a b : List (Nat → List Op)) (cap cap2 : Nat) (w : World) (hl : BunsIn w A a) (hl2 : BunsIn w A2 b) (hs : sameL a b) (hm : a.length ≤ 1000000000000000000) (hw : ∀ x ∈ a, ∀ j, j < 4 → (x j).length ≤ 1000000000000000000) :
    Calls Try.prog 49 #[.slice A a.length cap, .slice A2 b.length cap2] w fun e w' => e = .returned (.bool true) ∧ Below w.heap.size w w' := by
  have HL := hid hl
  have HL2 := hid hl2
  have HS := hid hs.2
  have HW := hid hw
  rw [← hs.1]
  have HN := hid hs.1
  clear hl hl2 hs hw
  go_enter Try.func49, Try.ntmps49
  go_wp2
  go_loopg [15] a.length (fun g v wr => ∃ i : Nat, i ≤ a.length ∧ v = .int .i64 i ∧ Hid (g + i = a.length) ∧ ∃ n, wr = w.drewN n)
  case atStart => exact ⟨0, by omega, rfl, by exact Nat.add_zero _, 0, rfl⟩
  case round =>
    obtain ⟨i, hi, rfl, hg, n, rfl⟩ := hrel
    by_cases hlt : i < a.length
    · have hlt2 : i < b.length := by have := HN.out; omega
      obtain ⟨g, off, rfl, hx⟩ := HL.out.get i hlt
      obtain ⟨g2, off2, rfl, hx2⟩ := HL2.out.get i hlt2
      obtain ⟨D, c, hD⟩ := hx
      obtain ⟨D2, c2, hD2⟩ := hx2
      have HD := hid hD
      have HD2 := hid hD2
      have hsm := hid (HS.out i _ _ (List.getElem?_eq_getElem hlt) (List.getElem?_eq_getElem hlt2))
      have hwl := hid (HW.out a[i] (List.getElem_mem hlt))
      have hij : (i : Int) < (a.length : Int) := by omega
      have hi0 : (0 : Int) ≤ (i : Int) := by omega
      clear hD hD2
      go_wp2
      go_loopg [18] 4 (fun gj v wr => ∃ j : Nat, j ≤ 4 ∧ v = .int .i64 j ∧ Hid (gj + j = 4) ∧ ∃ n, wr = w.drewN n)
      case atStart => exact ⟨0, by omega, rfl, by exact Nat.add_zero _, n, rfl⟩
      case round =>
        obtain ⟨j, hj, rfl, hgj, n, rfl⟩ := hrel
        by_cases hj4 : j < 4
        · have k0 := (HD.out j hj4).1
          have k1 := (HD2.out j hj4).1
          have hml := hwl.out j hj4
          have O1 := hid (HD.out j hj4).2.1
          have O2 := hid (HD2.out j hj4).2.1
          rw [← hsm.out j hj4] at k1 O2
          generalize a[i] j = L at *
          generalize D j = E at *
          generalize D2 j = E2 at *
          generalize c j = d at *
          generalize c2 j = d2 at *
          have hji : (j : Int) < 4 := by omega
          have hj0 : (0 : Int) ≤ (j : Int) := by omega
          go_wp2
          go_quiet (fail)
          go_wp2
          go_loopg [46] L.length (fun gm v wr => ∃ m : Nat, m ≤ L.length ∧ v = .int .i64 m ∧ Hid (gm + m = L.length) ∧ ∃ n, wr = w.drewN n)
          case atStart => exact ⟨0, by omega, rfl, by exact Nat.add_zero _, _, rfl⟩
          case round =>
            obtain ⟨m, hm, rfl, hgm, n, rfl⟩ := hrel
            by_cases hlm : m < L.length
            · obtain ⟨g4, off4, rfl, hop⟩ := O1.out.get m hlm
              obtain ⟨g5, off5, rfl, hop2⟩ := O2.out.get m hlm
              obtain ⟨c0, c1, c2, c3, c4⟩ := hop
              obtain ⟨d0, d1, d2, d3, d4⟩ := hop2
              have hmi : (m : Int) < (L.length : Int) := by omega
              have hm0 : (0 : Int) ≤ (m : Int) := by omega
              go_wp2
              go_quiet (fail)
              go_wp2
              go_roundg (L.length - (m + 1))
              case measure => have := hgm.out; omega
              case rel => exact ⟨m + 1, by omega, by go_num, by show _ + _ = _; omega, _, rfl⟩
            · obtain rfl : m = L.length := by omega
              go_wp2
              go_roundg (4 - (j + 1))
              case measure => have := hgj.out; omega
              case rel => exact ⟨j + 1, by omega, by go_num, by show _ + _ = _; omega, _, rfl⟩
        · obtain rfl : j = 4 := by omega
          go_wp2
          go_roundg (a.length - (i + 1))
          case measure => have := hg.out; omega
          case rel => exact ⟨i + 1, by omega, by go_num, by show _ + _ = _; omega, _, rfl⟩
    · obtain rfl : i = a.length := by omega
      go_wp2
      go_ret
      exact ⟨rfl, bdrewN (Below.refl _ _) n⟩
end Go.Proofs.Ytcibkoodnfkogaa
