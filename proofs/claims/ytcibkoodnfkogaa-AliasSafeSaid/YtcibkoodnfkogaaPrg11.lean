/- The document's Uses. -/
import Derived.Test.YtcibkoodnfkogaaPrg10
namespace Go.Proofs.Ytcibkoodnfkogaa
open Go.RowKit
set_option linter.unusedVariables false
set_option linter.unusedSimpArgs false
/-- A table's thirteen cells lie at block g. -/
def TabIn (w : World) (g : Nat) (t : List Int) : Prop := ∀ j, j < 13 → w.cell? ⟨g, j, none⟩ = some (.int .i64 (t[j]?.getD 0))
theorem TabIn.keep {w w' : World} {g : Nat} {t : List Int} (h : TabIn w g t) (hb : Below w.heap.size w w') : TabIn w' g t := fun j hj => cell_keep (h j hj) hb
set_option maxHeartbeats 4000000 in
set_option maxRecDepth 100000 in
theorem ruses_any (A : Option Addr) (l : List Op) (cap : Nat) (t : List Int) (w : World) (hl : OpsIn w A l) (hm : l.length ≤ 1000000000000000000) (ht : t.length = 13) :
    Calls Try.prog 80 #[.slice A l.length cap, tabV t] w fun e w' => e = .returned (.bool (usesB l t)) ∧ Below w.heap.size w w' := by
  have HL := hid hl
  have htab : Hid (∀ T, TabIn (w.alloc (.cells (t.map (Value.int .i64)).toArray T)) w.heap.size t) := hid (fun T j hj => tab_cell t w j (by omega) T)
  clear hl
  replace ht := hid ht
  unfold tabV
  go_enter Try.func80, Try.ntmps80
  go_wp2
  go_loopg [5] l.length (fun g v wr => ∃ i : Nat, i ≤ l.length ∧ v = .int .i64 i ∧ Hid (g + i = l.length) ∧ Hid (∀ j (hj : j < i) (hj2 : j < l.length), lackB t l[j] = false) ∧ Hid (TabIn wr w.heap.size t) ∧ Below w.heap.size w wr)
  case atStart =>
    refine ⟨0, by omega, rfl, by exact Nat.add_zero _, fun j hj => by omega, hid (htab.out _), ?_⟩
    ((with_reducible (repeat (first | assumption | exact Below.refl _ _ | refine bset ?_ (Nat.le_refl _) _ | refine balloc ?_ _ | refine bdrew ?_ | refine bdrewN ?_ _))); done)
  case round =>
    obtain ⟨i, hi, rfl, hg, hall, htr, hbw⟩ := hrel
    by_cases hlt : i < l.length
    · obtain ⟨g, off, rfl, hop⟩ := (OpsIn.keep HL.out hbw).get i hlt
      obtain ⟨c0, c1, c2, c3, c4⟩ := hop
      have hb0 := hid hbw
      have hij : (i : Int) < (l.length : Int) := by omega
      have hi0 : (0 : Int) ≤ (i : Int) := by omega
      have HC := hid (fun w => rclass_any l[i].k w)
      clear hbw
      cases h1 : clsB l[i].k
      · have e0 := hid (show lackB t l[i] = false by unfold lackB; rw [h1]; rfl)
        rw [h1] at HC
        clear h1
        go_wp2_with fail
        with_reducible refine (HC.out _).mono ?_
        rintro e w1 ⟨rfl, hb⟩
        have T1 := hid (htr.out.keep hb)
        go_wp2
        go_roundg (l.length - (i + 1))
        case measure => have := hg.out; omega
        case rel =>
          refine ⟨i + 1, by omega, by go_num, by show _ + _ = _; omega, fun j hj hj2 => ?_, T1, btrans hb0.out hb⟩
          by_cases h : j < i
          · exact hall.out j h hj2
          · obtain rfl : j = i := by omega
            exact e0.out
      · obtain ⟨c, hc4, hcn⟩ := cls_lt _ h1
        have e2 : lackB t l[i] = (t[c]?.getD 0 == 0) := by unfold lackB; rw [h1, hcn]; rfl
        rw [h1, hcn] at HC
        clear h1 hcn
        have hc4i : (c : Int) < 4 := by omega
        have hc0 : (0 : Int) ≤ (c : Int) := by omega
        cases h2 : (t[c]?.getD 0 == 0)
        · rw [h2] at e2
          replace e2 := hid e2
          go_wp2_with fail
          with_reducible refine (HC.out _).mono ?_
          rintro e w1 ⟨rfl, hb⟩
          have T1 := hid (htr.out.keep hb)
          have tc := T1.out c (by omega)
          go_wp2
          go_roundg (l.length - (i + 1))
          case measure => have := hg.out; omega
          case rel =>
            refine ⟨i + 1, by omega, by go_num, by show _ + _ = _; omega, fun j hj hj2 => ?_, T1, btrans hb0.out hb⟩
            by_cases h : j < i
            · exact hall.out j h hj2
            · obtain rfl : j = i := by omega
              exact e2.out
        · rw [h2] at e2
          have e0 := hid (usesB_yes hlt e2)
          clear e2
          go_wp2_with fail
          with_reducible refine (HC.out _).mono ?_
          rintro e w1 ⟨rfl, hb⟩
          have tc := htr.out.keep hb c (by omega)
          go_wp2
          go_ret
          exact ⟨ret_bool e0.out.symm, btrans hb0.out hb⟩
    · obtain rfl : i = l.length := by omega
      have e0 := hid (usesB_no (l := l) (t := t) fun j hj => hall.out j hj hj)
      go_wp2
      go_ret
      exact ⟨ret_bool e0.out.symm, hbw⟩
end Go.Proofs.Ytcibkoodnfkogaa
