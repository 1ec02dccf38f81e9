/- Bundles as plain data; the contracts of bundle.right, bundle.Check. -/
import Derived.Test.YtcibkoodnfkogaaBu1
import Derived.Test.YtcibkoodnfkogaaTab
import Derived.Test.YtcibkoodnfkogaaPrg11
import Derived.BigGuard
namespace Go.Proofs.Ytcibkoodnfkogaa
open Go.RowKit
set_option linter.unusedVariables false
set_option linter.unusedSimpArgs false
/-- A bundle's four cells (a list of operations for each class) lie at block g from place o on. -/
def BunAt (w : World) (g o : Nat) (b : Nat → List Op) : Prop :=
  ∃ (A : Nat → Option Addr) (c : Nat → Nat), ∀ j, j < 4 → w.cell? ⟨g, o + j, none⟩ = some (.slice (A j) (b j).length (c j)) ∧ OpsIn w (A j) (b j) ∧ (b j).length ≤ c j ∧ (A j = none → c j = 0)
theorem BunAt.keep {w w' : World} {g o : Nat} {b : Nat → List Op} (h : BunAt w g o b) (hb : Below w.heap.size w w') : BunAt w' g o b := by
  obtain ⟨A, c, h⟩ := h
  exact ⟨A, c, fun j hj => ⟨cell_keep (h j hj).1 hb, (h j hj).2.1.keep hb, (h j hj).2.2⟩⟩
/-- Its operations are some; its lists are no longer than can be. -/
def BunWf (b : Nat → List Op) : Prop := ∀ j, j < 4 → (∀ o ∈ b j, o.wf) ∧ (b j).length ≤ 140737488351232
/-- Is it an operation of a class? -/
def opC (c : Int) (o : Op) : Bool := clsB o.k && (clsN o.k == c) && chk o
def rowOk (b : Nat → List Op) (t : List Int) (j : Nat) : Bool := decide (((b j).length : Int) ≤ t[j]?.getD 0) && (b j).all (opC j)
/-- Is it well formed under a table? -/
def rightB (b : Nat → List Op) (t : List Int) : Bool := rowOk b t 0 && rowOk b t 1 && rowOk b t 2 && rowOk b t 3
theorem right_no {b : Nat → List Op} {t : List Int} {j : Nat} (hj : j < 4) (h : rowOk b t j = false) : rightB b t = false := by
  unfold rightB
  obtain rfl | rfl | rfl | rfl : j = 0 ∨ j = 1 ∨ j = 2 ∨ j = 3 := by omega
  all_goals simp [h]
theorem right_yes {b : Nat → List Op} {t : List Int} (h : ∀ j, j < 4 → rowOk b t j = true) : rightB b t = true := by
  unfold rightB
  rw [h 0 (by omega), h 1 (by omega), h 2 (by omega), h 3 (by omega)]
  rfl
theorem right_row {b : Nat → List Op} {t : List Int} (h : rightB b t = true) (j : Nat) (hj : j < 4) : rowOk b t j = true := by
  unfold rightB at h
  simp only [Bool.and_eq_true] at h
  obtain rfl | rfl | rfl | rfl : j = 0 ∨ j = 1 ∨ j = 2 ∨ j = 3 := by omega
  · exact h.1.1.1
  · exact h.1.1.2
  · exact h.1.2
  · exact h.2
theorem all_no {l : List Op} {f : Op → Bool} {i : Nat} (hi : i < l.length) (h : f l[i] = false) : l.all f = false := by
  rw [Bool.eq_false_iff]
  intro ha
  have := List.all_eq_true.1 ha l[i] (List.getElem_mem hi)
  rw [h] at this
  cases this
theorem all_yes {l : List Op} {f : Op → Bool} (h : ∀ j (hj : j < l.length), f l[j] = true) : l.all f = true := by
  refine List.all_eq_true.2 fun o hm => ?_
  obtain ⟨j, hj, rfl⟩ := List.getElem_of_mem hm
  exact h j hj
theorem index_bun (v : Nat → Value) (j : Nat) (hj : j < 4) (w : World) : (Instr.index 89 (.agg #[v 0, v 1, v 2, v 3]) (.int .i64 (j : Int))).run Try.prog w = .ok (v j) w := by
  obtain rfl | rfl | rfl | rfl : j = 0 ∨ j = 1 ∨ j = 2 ∨ j = 3 := by omega
  all_goals (show _ = _; kernel_rfl)
set_option maxHeartbeats 4000000 in
set_option maxRecDepth 100000 in
theorem right_any (g o gt : Nat) (b : Nat → List Op) (t : List Int) (w : World) (hb : BunAt w g o b) (hw : BunWf b) (ht : TabIn w gt t) :
    Calls Try.prog 81 #[.pointer (some ⟨g, o, none⟩), .pointer (some ⟨gt, 0, none⟩)] w fun e w' => e = .returned (.bool (rightB b t)) ∧ Below w.heap.size w w' := by
  obtain ⟨A, c, hc⟩ := hb
  have HC := hid hc
  have HT := hid ht
  have HW := hid hw
  have k0 : w.cell? ⟨g, o, none⟩ = some (.slice (A 0) (b 0).length (c 0)) := (hc 0 (by omega)).1
  have k1 := (hc 1 (by omega)).1
  have k2 := (hc 2 (by omega)).1
  have k3 := (hc 3 (by omega)).1
  have hix := hid (fun j hj w => index_bun (fun j => .slice (A j) (b j).length (c j)) j hj w)
  clear hc ht hw
  go_enter Try.func81, Try.ntmps81
  go_wp2
  clear k0 k1 k2 k3
  go_loopg [15] 4 (fun gk v wr => ∃ j : Nat, j ≤ 4 ∧ v = .int .i64 j ∧ Hid (gk + j = 4) ∧ Hid (∀ i, i < j → rowOk b t i = true) ∧ Below w.heap.size w wr)
  case atStart => exact ⟨0, by omega, rfl, by exact Nat.add_zero _, fun i hi => by omega, Below.refl _ _⟩
  case round =>
    obtain ⟨j, hj, rfl, hg, hall, hbw⟩ := hrel
    by_cases hj4 : j < 4
    · obtain ⟨wo, rfl⟩ : ∃ wo : World, wo = wr := ⟨_, rfl⟩
      have hi := hix.out j hj4
      have kt := HT.out.keep hbw j (by omega)
      have OL := hid ((HC.out j hj4).2.1.keep hbw)
      have WL := hid (HW.out j hj4).1
      have ml := (HW.out j hj4).2
      have hb0 := hid hbw
      have hji : (j : Int) < 4 := by omega
      have hj0 : (0 : Int) ≤ (j : Int) := by omega
      have hno := hid (fun h => right_no (b := b) (t := t) hj4 h)
      have hrow : Hid (rowOk b t j = (decide (((b j).length : Int) ≤ t[j]?.getD 0) && (b j).all (opC j))) := hid rfl
      clear hbw
      by_cases hle : ((b j).length : Int) ≤ t[j]?.getD 0
      · have hrow2 : Hid (rowOk b t j = (b j).all (opC j)) := hid (by rw [hrow.out, decide_eq_true hle]; rfl)
        generalize hL : b j = L at *
        generalize A j = D at *
        generalize c j = d at *
        generalize t[j]?.getD 0 = u at *
        replace hL := hid hL
        go_wp2
        clear hi
        go_loopg [30] L.length (fun gm v wz => ∃ m : Nat, m ≤ L.length ∧ v = .int .i64 m ∧ Hid (gm + m = L.length) ∧ Hid (∀ n (hn : n < m) (hn2 : n < L.length), opC j L[n] = true) ∧ Below wo.heap.size wo wz)
        case atStart => exact ⟨0, by omega, rfl, by exact Nat.add_zero _, fun n hn => by omega, Below.refl _ _⟩
        case round =>
          obtain ⟨m, hm, rfl, hgm, hallm, hbz⟩ := hrel
          by_cases hlm : m < L.length
          · obtain ⟨g4, off4, rfl, hop4⟩ := (OpsIn.keep OL.out hbz).get m hlm
            obtain ⟨c0, c1, c2, c3, c4⟩ := hop4
            have hbz0 := hid hbz
            clear hbz
            have hmj : (m : Int) < (L.length : Int) := by omega
            have hm0 : (0 : Int) ≤ (m : Int) := by omega
            have KC := hid (fun w => class_any L[m].k w)
            have KK := hid (fun w => check_any L[m] w (WL.out L[m] (List.getElem_mem hlm)))
            have hop : Hid (opC j L[m] = (clsB L[m].k && (clsN L[m].k == j) && chk L[m])) := hid rfl
            cases h1 : clsB L[m].k
            · have e0 := hid (hno.out (hrow2.out.trans (all_no hlm (by rw [hop.out, h1]; rfl))))
              rw [h1] at KC
              clear h1
              go_wp2_with fail
              with_reducible refine (KC.out _).mono ?_
              rintro e w6 ⟨rfl, hb⟩
              go_wp2
              go_ret
              exact ⟨ret_bool e0.out.symm, btrans hb0.out (btrans hbz0.out (btrans (a := wr) (by ((with_reducible (repeat (first | assumption | exact Below.refl _ _ | refine bset ?_ (Nat.le_refl _) _ | refine balloc ?_ _ | refine bdrew ?_ | refine bdrewN ?_ _))); done)) hb))⟩
            cases h2 : (clsN L[m].k == (j : Int))
            · have e0 := hid (hno.out (hrow2.out.trans (all_no hlm (by rw [hop.out, h1, h2]; rfl))))
              have h2n : (clsN L[m].k != (j : Int)) = true := by unfold bne; rw [h2]; rfl
              rw [h1] at KC
              clear h1
              go_wp2_with fail
              with_reducible refine (KC.out _).mono ?_
              rintro e w6 ⟨rfl, hb⟩
              go_wp2
              go_ret
              exact ⟨ret_bool e0.out.symm, btrans hb0.out (btrans hbz0.out (btrans (a := wr) (by ((with_reducible (repeat (first | assumption | exact Below.refl _ _ | refine bset ?_ (Nat.le_refl _) _ | refine balloc ?_ _ | refine bdrew ?_ | refine bdrewN ?_ _))); done)) hb))⟩
            have h2n : (clsN L[m].k != (j : Int)) = false := by unfold bne; rw [h2]; rfl
            cases h3 : chk L[m]
            all_goals
              unfold chkE at KK
              rw [h3] at KK
              rw [h1] at KC
            · have e0 := hid (hno.out (hrow2.out.trans (all_no hlm (by rw [hop.out, h1, h2, h3]; rfl))))
              clear h1 h3
              go_wp2_with fail
              with_reducible refine (KC.out _).mono ?_
              rintro e w6 ⟨rfl, hb⟩
              have hb6 : Hid (Below wr.heap.size wr w6) := hid (btrans (a := wr) (by ((with_reducible (repeat (first | assumption | exact Below.refl _ _ | refine bset ?_ (Nat.le_refl _) _ | refine balloc ?_ _ | refine bdrew ?_ | refine bdrewN ?_ _))); done)) hb)
              have s0 : w6.cell? ⟨wr.heap.size, 0, none⟩ = some (.int .i8 L[m].k) := cell_keep (by simp) hb
              have s1 : w6.cell? ⟨wr.heap.size, 1, none⟩ = some (.int .u8 L[m].d) := cell_keep (by simp) hb
              have s2 : w6.cell? ⟨wr.heap.size, 2, none⟩ = some (.int .u8 L[m].a) := cell_keep (by simp) hb
              have s3 : w6.cell? ⟨wr.heap.size, 3, none⟩ = some (.int .u8 L[m].b) := cell_keep (by simp) hb
              have s4 : w6.cell? ⟨wr.heap.size, 4, none⟩ = some (.int .i64 L[m].n) := cell_keep (by simp) hb
              clear hb
              go_wp2_with fail
              with_reducible refine (KK.out _).mono ?_
              rintro e w7 ⟨rfl, hb⟩
              go_wp2
              go_ret
              exact ⟨ret_bool e0.out.symm, btrans hb0.out (btrans hbz0.out (btrans hb6.out hb))⟩
            · have e0 : Hid (opC j L[m] = true) := hid (by rw [hop.out, h1, h2, h3]; rfl)
              clear h1 h3
              go_wp2_with fail
              with_reducible refine (KC.out _).mono ?_
              rintro e w6 ⟨rfl, hb⟩
              have hb6 : Hid (Below wr.heap.size wr w6) := hid (btrans (a := wr) (by ((with_reducible (repeat (first | assumption | exact Below.refl _ _ | refine bset ?_ (Nat.le_refl _) _ | refine balloc ?_ _ | refine bdrew ?_ | refine bdrewN ?_ _))); done)) hb)
              have s0 : w6.cell? ⟨wr.heap.size, 0, none⟩ = some (.int .i8 L[m].k) := cell_keep (by simp) hb
              have s1 : w6.cell? ⟨wr.heap.size, 1, none⟩ = some (.int .u8 L[m].d) := cell_keep (by simp) hb
              have s2 : w6.cell? ⟨wr.heap.size, 2, none⟩ = some (.int .u8 L[m].a) := cell_keep (by simp) hb
              have s3 : w6.cell? ⟨wr.heap.size, 3, none⟩ = some (.int .u8 L[m].b) := cell_keep (by simp) hb
              have s4 : w6.cell? ⟨wr.heap.size, 4, none⟩ = some (.int .i64 L[m].n) := cell_keep (by simp) hb
              clear hb
              go_wp2_with fail
              with_reducible refine (KK.out _).mono ?_
              rintro e w7 ⟨rfl, hb⟩
              go_wp2
              go_roundg (L.length - (m + 1))
              case measure => have := hgm.out; omega
              case rel =>
                refine ⟨m + 1, by omega, by go_num, by show _ + _ = _; omega, fun n hn hn2 => ?_, btrans hbz0.out (btrans hb6.out hb)⟩
                by_cases h : n < m
                · exact hallm.out n h hn2
                · obtain rfl : n = m := by omega
                  exact e0.out
          · obtain rfl : m = L.length := by omega
            have e3 := hid (hrow2.out.trans (all_yes fun n hn => hallm.out n hn hn))
            have hbz0 := hid hbz
            clear hbz
            go_wp2
            go_roundg (4 - (j + 1))
            case measure => have := hg.out; omega
            case rel =>
              refine ⟨j + 1, by omega, by go_num, by show _ + _ = _; omega, fun i hi => ?_, btrans hb0.out hbz0.out⟩
              by_cases h : i < j
              · exact hall.out i h
              · obtain rfl : i = j := by omega
                exact e3.out
      · have e0 := hid (hno.out (by rw [hrow.out, decide_eq_false hle]; rfl))
        generalize hL : b j = L at *
        generalize A j = D at *
        generalize c j = d at *
        generalize t[j]?.getD 0 = u at *
        replace hL := hid hL
        have hgt : u < (L.length : Int) := by omega
        go_wp2
        go_ret
        exact ⟨ret_bool e0.out.symm, hb0.out⟩
    · obtain rfl : j = 4 := by omega
      have e0 := hid (right_yes (b := b) (t := t) hall.out)
      go_wp2
      go_ret
      exact ⟨ret_bool e0.out.symm, hbw⟩
end Go.Proofs.Ytcibkoodnfkogaa
