/- bundle.Check and the document's: Check of a bundle. -/
import Derived.Test.YtcibkoodnfkogaaBu5
import Derived.Test.YtcibkoodnfkogaaR03c
namespace Go.Proofs.Ytcibkoodnfkogaa
open Go.RowKit
set_option linter.unusedVariables false
set_option linter.unusedSimpArgs false
def bunE (b : Nat → List Op) (t : List Int) : Int := if tabE t ≠ 0 then tabE t else if rightB b t then 0 else 210
/-- The value of a bundle. -/
abbrev bunV (b : Nat → List Op) (A : Nat → Option Addr) (c : Nat → Nat) : Value := .agg #[.slice (A 0) (b 0).length (c 0), .slice (A 1) (b 1).length (c 1), .slice (A 2) (b 2).length (c 2), .slice (A 3) (b 3).length (c 3)]
def BunVal (w : World) (b : Nat → List Op) (A : Nat → Option Addr) (c : Nat → Nat) : Prop := ∀ j, j < 4 → OpsIn w (A j) (b j) ∧ (b j).length ≤ c j ∧ (A j = none → c j = 0)
theorem BunAt.box {w : World} {b : Nat → List Op} {A : Nat → Option Addr} {c : Nat → Nat} (h : BunVal w b A c) (T : TypeId) : BunAt (w.alloc (.cells #[.slice (A 0) (b 0).length (c 0), .slice (A 1) (b 1).length (c 1), .slice (A 2) (b 2).length (c 2), .slice (A 3) (b 3).length (c 3)] T)) w.heap.size 0 b := by
  refine ⟨A, c, fun j hj => ⟨?_, (h j hj).1.keep (balloc (Below.refl _ _) _), (h j hj).2⟩⟩
  rw [Nat.zero_add, cell_of_row _ _ _ _ _ _ (heap_alloc_new _ _)]
  obtain rfl | rfl | rfl | rfl : j = 0 ∨ j = 1 ∨ j = 2 ∨ j = 3 := by omega
  all_goals rfl
theorem bun_cell {w : World} {b : Nat → List Op} {A : Nat → Option Addr} {c : Nat → Nat} (T : TypeId) (j : Nat) (hj : j < 4) : (w.alloc (.cells #[.slice (A 0) (b 0).length (c 0), .slice (A 1) (b 1).length (c 1), .slice (A 2) (b 2).length (c 2), .slice (A 3) (b 3).length (c 3)] T)).cell? ⟨w.heap.size, j, none⟩ = some (.slice (A j) (b j).length (c j)) := by
  rw [cell_of_row _ _ _ _ _ _ (heap_alloc_new _ _)]
  obtain rfl | rfl | rfl | rfl : j = 0 ∨ j = 1 ∨ j = 2 ∨ j = 3 := by omega
  all_goals rfl
set_option maxHeartbeats 4000000 in
set_option maxRecDepth 100000 in
theorem bcheck_any (b : Nat → List Op) (A : Nat → Option Addr) (c : Nat → Nat) (t : List Int) (w : World) (hv : BunVal w b A c) (hw : BunWf b) (ht : t.length = 13) :
    Calls Try.prog 53 #[bunV b A c, tabV t] w fun e w' => e = .returned (.int .i64 (bunE b t)) ∧ Below w.heap.size w w' := by
  obtain ⟨a0, a1, a2, a3, a4, a5, a6, a7, a8, a9, a10, a11, a12, rfl⟩ := thirteen ht
  have C2 := hid (fun (w : World) => tcheck_any [a0, a1, a2, a3, a4, a5, a6, a7, a8, a9, a10, a11, a12] w ht)
  have HV := hid (fun T => BunAt.box hv T)
  clear hv ht
  have hV : tabV [a0, a1, a2, a3, a4, a5, a6, a7, a8, a9, a10, a11, a12] = tabX a0 a1 a2 a3 a4 a5 a6 a7 a8 a9 a10 a11 a12 := rfl
  rw [hV] at C2 ⊢
  clear hV
  generalize htt : [a0, a1, a2, a3, a4, a5, a6, a7, a8, a9, a10, a11, a12] = t at C2 ⊢
  have hbox := hid (fun w T => htt ▸ TabIn.box a0 a1 a2 a3 a4 a5 a6 a7 a8 a9 a10 a11 a12 w T)
  have CR := hid (fun (w : World) (g gt : Nat) (h : BunAt w g 0 b) (ht : TabIn w gt t) => right_any g 0 gt b t w h hw ht)
  clear htt hw
  by_cases hT : tabE t = 0
  case neg =>
    have e0 : Hid (bunE b t = tabE t) := hid (by unfold bunE; rw [if_pos hT])
    go_enter Try.func53, Try.ntmps53
    go_wp2_with fail
    with_reducible refine (C2.out _).mono ?_
    rintro e w1 ⟨rfl, hb⟩
    go_wp2_with fail
    go_ret
    exact ⟨ret_int e0.out.symm, btrans (a := w) (by ((with_reducible (repeat (first | assumption | exact Below.refl _ _ | refine bset ?_ (Nat.le_refl _) _ | refine balloc ?_ _ | refine bdrew ?_ | refine bdrewN ?_ _))); done)) hb⟩
  rw [hT] at C2
  have e0 : bunE b t = if rightB b t then 0 else 210 := by unfold bunE; rw [if_neg (fun h => h hT)]
  clear hT
  cases hr : rightB b t
  all_goals
    rw [hr] at e0 CR
    simp only [if_true, Bool.false_eq_true, if_false] at e0
    have E0 := hid e0
    clear e0 hr
    go_enter Try.func53, Try.ntmps53
    go_wp2_with fail
    with_reducible refine (C2.out _).mono ?_
    rintro e w1 ⟨rfl, hb⟩
    have B1 := hid (btrans (a := w) (by ((with_reducible (repeat (first | assumption | exact Below.refl _ _ | refine bset ?_ (Nat.le_refl _) _ | refine balloc ?_ _ | refine bdrew ?_ | refine bdrewN ?_ _))); done)) hb)
    have TT : Hid (TabIn w1 (w.heap.size + 1) t) := hid (TabIn.keep (by have := hbox.out (w.alloc (.cells #[.slice (A 0) (b 0).length (c 0), .slice (A 1) (b 1).length (c 1), .slice (A 2) (b 2).length (c 2), .slice (A 3) (b 3).length (c 3)] 91)) 28; rw [hsz] at this; exact this) hb)
    have BB : Hid (BunAt w1 w.heap.size 0 b) := hid (BunAt.keep ((HV.out 91).keep (balloc (Below.refl _ _) _)) hb)
    clear hb
    go_wp2_with fail
    with_reducible refine (CR.out _ _ _ BB.out TT.out).mono ?_
    rintro e w2 ⟨rfl, hb⟩
    go_wp2_with fail
    go_ret
    exact ⟨ret_int E0.out.symm, btrans B1.out hb⟩
set_option maxHeartbeats 4000000 in
set_option maxRecDepth 100000 in
theorem rwidth_any (t : List Int) (w : World) (ht : t.length = 13) :
    Calls Try.prog 85 #[tabV t] w fun e w' => e = .returned (.int .i64 (tabW t)) ∧ Below w.heap.size w w' := by
  obtain ⟨a0, a1, a2, a3, a4, a5, a6, a7, a8, a9, a10, a11, a12, rfl⟩ := thirteen ht
  have C2 := hid (fun (w : World) => rtcheck_any [a0, a1, a2, a3, a4, a5, a6, a7, a8, a9, a10, a11, a12] w ht)
  have hV : tabV [a0, a1, a2, a3, a4, a5, a6, a7, a8, a9, a10, a11, a12] = tabX a0 a1 a2 a3 a4 a5 a6 a7 a8 a9 a10 a11 a12 := rfl
  rw [hV] at C2 ⊢
  clear hV ht
  generalize htt : [a0, a1, a2, a3, a4, a5, a6, a7, a8, a9, a10, a11, a12] = t at C2 ⊢
  have hbox := hid (fun w T => htt ▸ TabIn.box a0 a1 a2 a3 a4 a5 a6 a7 a8 a9 a10 a11 a12 w T)
  clear htt
  unfold tabE at C2
  cases hok : tabOk t
  · have E0 : Hid (tabW t = 0) := hid (by unfold tabW; rw [hok]; rfl)
    rw [hok] at C2
    clear hok
    go_enter Try.func85, Try.ntmps85
    go_wp2_with fail
    with_reducible refine (C2.out _).mono ?_
    rintro e w1 ⟨rfl, hb⟩
    go_wp2_with fail
    go_ret
    refine ⟨ret_int E0.out.symm, btrans (a := w) ?_ hb⟩
    ((with_reducible (repeat (first | assumption | exact Below.refl _ _ | refine bset ?_ (Nat.le_refl _) _ | refine balloc ?_ _ | refine bdrew ?_ | refine bdrewN ?_ _))); done)
  · rw [hok] at C2
    have E0 := hid (tabW_sum hok)
    have OK := hid hok
    clear hok
    go_enter Try.func85, Try.ntmps85
    go_wp2_with fail
    with_reducible refine (C2.out _).mono ?_
    rintro e w1 ⟨rfl, hb⟩
    have B1 := hid (btrans (a := w) (by ((with_reducible (repeat (first | assumption | exact Below.refl _ _ | refine bset ?_ (Nat.le_refl _) _ | refine balloc ?_ _ | refine bdrew ?_ | refine bdrewN ?_ _))); done)) hb)
    have TT : Hid (TabIn w1 w.heap.size t) := hid ((hbox.out w 28).keep hb)
    have hH : Hid (w.heap.size < w1.heap.size) := hid (World.block_lt_of_cell? w1 _ (TT.out 0 (by omega)))
    clear hb
    go_wp2_with fail
    go_loopg [3, 4] 4 (fun gk v3 v wr => ∃ j : Nat, j ≤ 4 ∧ v = .int .i64 j ∧ v3 = .int .i64 (sumU t j) ∧ Hid (gk + j = 4) ∧ wr = w1)
    case atStart => exact ⟨0, by omega, rfl, rfl, by exact Nat.add_zero _, rfl⟩
    case round =>
      obtain ⟨j, hj, rfl, rfl, hg, rfl⟩ := hrel
      have hs := sumU_bd OK.out j hj
      obtain ⟨hs0, hs1⟩ := hs
      by_cases hj4 : j < 4
      · have hu := units_bd OK.out j hj4
        obtain ⟨hu0, hu1⟩ := hu
        have kt := TT.out j (by omega)
        have hji : (j : Int) < 4 := by omega
        have hj0 : (0 : Int) ≤ (j : Int) := by omega
        have hst : Hid (sumU t j + t[j]?.getD 0 = sumU t (j + 1)) := hid rfl
        generalize sumU t j = s at *
        generalize t[j]?.getD 0 = u at *
        go_wp2
        go_roundg (4 - (j + 1))
        case measure => have := hg.out; omega
        case rel => exact ⟨j + 1, by omega, by go_num, by rw [← hst.out]; try go_num, by show _ + _ = _; have := hg.out; omega, rfl⟩
      · obtain rfl : j = 4 := by omega
        go_wp2
        go_ret
        exact ⟨ret_int E0.out.symm, B1.out⟩
end Go.Proofs.Ytcibkoodnfkogaa
