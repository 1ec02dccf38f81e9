/- The document's Check of a bundle. -/
import Derived.Test.YtcibkoodnfkogaaR05
import Derived.Deep.QuietTactic
import Derived.BigQuiet
namespace Go.Proofs.Ytcibkoodnfkogaa
open Go.RowKit
set_option linter.unusedVariables false
set_option linter.unusedSimpArgs false
set_option maxHeartbeats 4000000 in
set_option maxRecDepth 100000 in
theorem rbcheck_any (b : Nat → List Op) (A : Nat → Option Addr) (c : Nat → Nat) (t : List Int) (w : World) (hv : BunVal w b A c) (hw : BunWf b) (ht : t.length = 13) :
    Calls Try.prog 54 #[bunV b A c, tabV t] w fun e w' => e = .returned (.int .i64 (bunE b t)) ∧ Below w.heap.size w w' := by
  obtain ⟨a0, a1, a2, a3, a4, a5, a6, a7, a8, a9, a10, a11, a12, rfl⟩ := thirteen ht
  have C2 := hid (fun (w : World) => rtcheck_any [a0, a1, a2, a3, a4, a5, a6, a7, a8, a9, a10, a11, a12] w ht)
  have HV := hid hv
  have HW := hid hw
  have hcell := hid (fun T j hj => bun_cell (w := w) (b := b) (A := A) (c := c) T j hj)
  clear hv ht hw
  have hV : tabV [a0, a1, a2, a3, a4, a5, a6, a7, a8, a9, a10, a11, a12] = tabX a0 a1 a2 a3 a4 a5 a6 a7 a8 a9 a10 a11 a12 := rfl
  rw [hV] at C2 ⊢
  clear hV
  generalize htt : [a0, a1, a2, a3, a4, a5, a6, a7, a8, a9, a10, a11, a12] = t at C2 ⊢
  have hbox := hid (fun w T => htt ▸ TabIn.box a0 a1 a2 a3 a4 a5 a6 a7 a8 a9 a10 a11 a12 w T)
  clear htt
  by_cases hT : tabE t = 0
  case neg =>
    have e0 : Hid (bunE b t = tabE t) := hid (by unfold bunE; rw [if_pos hT])
    go_enter Try.func54, Try.ntmps54
    go_wp2_with fail
    with_reducible refine (C2.out _).mono ?_
    rintro e w1 ⟨rfl, hb⟩
    go_wp2_with fail
    go_ret
    exact ⟨ret_int e0.out.symm, btrans (a := w) (by ((with_reducible (repeat (first | assumption | exact Below.refl _ _ | refine bset ?_ (Nat.le_refl _) _ | refine balloc ?_ _ | refine bdrew ?_ | refine bdrewN ?_ _))); done)) hb⟩
  rw [hT] at C2
  have e0 : bunE b t = if rightB b t then 0 else 210 := by unfold bunE; rw [if_neg (fun h => h hT)]
  have E0 := hid e0
  have hno : Hid (∀ j, j < 4 → rowOk b t j = false → bunE b t = 210) := hid fun j hj h => by rw [e0, right_no hj h]; rfl
  clear hT e0
  go_enter Try.func54, Try.ntmps54
  go_wp2_with fail
  with_reducible refine (C2.out _).mono ?_
  rintro e w1 ⟨rfl, hb⟩
  have B1 := hid (btrans (a := w) (by ((with_reducible (repeat (first | assumption | exact Below.refl _ _ | refine bset ?_ (Nat.le_refl _) _ | refine balloc ?_ _ | refine bdrew ?_ | refine bdrewN ?_ _))); done)) hb)
  have TT : Hid (TabIn w1 (w.heap.size + 1) t) := hid (TabIn.keep (by have := hbox.out (w.alloc (.cells #[.slice (A 0) (b 0).length (c 0), .slice (A 1) (b 1).length (c 1), .slice (A 2) (b 2).length (c 2), .slice (A 3) (b 3).length (c 3)] 91)) 28; rw [hsz] at this; exact this) hb)
  have KB : Hid (∀ j, j < 4 → w1.cell? ⟨w.heap.size, j, none⟩ = some (.slice (A j) (b j).length (c j))) := hid fun j hj => cell_keep (cell_keep (hcell.out 91 j hj) (balloc (Below.refl _ _) _)) hb
  clear hb
  go_wp2_with fail
  go_loopg [6] 4 (fun gk v wr => ∃ j : Nat, j ≤ 4 ∧ v = .int .i64 j ∧ Hid (gk + j = 4) ∧ Hid (∀ i, i < j → rowOk b t i = true) ∧ Below w1.heap.size w1 wr)
  case atStart => exact ⟨0, by omega, rfl, by exact Nat.add_zero _, fun i hi => by omega, Below.refl _ _⟩
  case round =>
    obtain ⟨j, hj, rfl, hg, hall, hbw⟩ := hrel
    by_cases hj4 : j < 4
    · obtain ⟨wo, rfl⟩ : ∃ wo : World, wo = wr := ⟨_, rfl⟩
      have hb0 := hid hbw
      have kt := (TT.out.keep hbw) j (by omega)
      have kb := cell_keep (KB.out j hj4) hbw
      have KB2 := hid (fun (x : World) (hx : Below wo.heap.size wo x) => cell_keep (cell_keep (KB.out j hj4) hbw) hx)
      have OL := hid (((HV.out j hj4).1.keep B1.out).keep hbw)
      have ml := (HV.out j hj4).2.1
      have ml2 := (HW.out j hj4).2
      have hji : (j : Int) < 4 := by omega
      have hj0 : (0 : Int) ≤ (j : Int) := by omega
      have hno1 := hid (hno.out j hj4)
      have hrow : Hid (rowOk b t j = (decide (((b j).length : Int) ≤ t[j]?.getD 0) && (b j).all (opC j))) := hid rfl
      clear hbw
      by_cases hle : ((b j).length : Int) ≤ t[j]?.getD 0
      · have hrow2 : Hid (rowOk b t j = (b j).all (opC j)) := hid (by rw [hrow.out, decide_eq_true hle]; rfl)
        generalize hL : b j = L at *
        generalize A j = D at *
        generalize c j = d at *
        generalize t[j]?.getD 0 = u at *
        replace hL := hid hL
        go_wp2
        go_quiet (fail)
        go_wp2
        clear kb
        go_loopg [7] L.length (fun gm v wz => ∃ m : Nat, m ≤ L.length ∧ v = .int .i64 m ∧ Hid (gm + m = L.length) ∧ Hid (∀ n (hn : n < m) (hn2 : n < L.length), opC j L[n] = true) ∧ Below wo.heap.size wo wz)
        case atStart => exact ⟨0, by omega, rfl, by exact Nat.add_zero _, fun n hn => by omega, by ((with_reducible (repeat (first | assumption | exact Below.refl _ _ | refine bset ?_ (Nat.le_refl _) _ | refine balloc ?_ _ | refine bdrew ?_ | refine bdrewN ?_ _))); done)⟩
        case round =>
          obtain ⟨m, hm, rfl, hgm, hallm, hbz⟩ := hrel
          have kb := KB2.out _ hbz
          by_cases hlm : m < L.length
          · obtain ⟨g4, off4, rfl, hop4⟩ := (OpsIn.keep OL.out hbz).get m hlm
            obtain ⟨c0, c1, c2, c3, c4⟩ := hop4
            have hbz0 := hid hbz
            clear hbz
            have hmj : (m : Int) < (L.length : Int) := by omega
            have hm0 : (0 : Int) ≤ (m : Int) := by omega
            have KC := hid (fun w => rclass_any L[m].k w)
            have KK := hid (fun w => rcheck_any L[m] w)
            have hop : Hid (opC j L[m] = (clsB L[m].k && (clsN L[m].k == j) && chk L[m])) := hid rfl
            have S0 := hid c0
            have S1 := hid c1
            have S2 := hid c2
            have S3 := hid c3
            have S4 := hid c4
            have SB := hid kb
            cases h1 : clsB L[m].k
            · have e0 := hid (hno1.out (hrow2.out.trans (all_no hlm (by rw [hop.out, h1]; rfl))))
              rw [h1] at KC
              clear h1
              go_wp2_with fail
              with_reducible refine (KC.out _).mono ?_
              rintro e w6 ⟨rfl, hb⟩
              go_wp2
              go_ret
              exact ⟨ret_int e0.out.symm, btrans B1.out (btrans hb0.out (btrans hbz0.out hb))⟩
            cases h2 : (clsN L[m].k == (j : Int))
            · have e0 := hid (hno1.out (hrow2.out.trans (all_no hlm (by rw [hop.out, h1, h2]; rfl))))
              have h2n : (clsN L[m].k != (j : Int)) = true := by unfold bne; rw [h2]; rfl
              rw [h1] at KC
              clear h1
              go_wp2_with fail
              with_reducible refine (KC.out _).mono ?_
              rintro e w6 ⟨rfl, hb⟩
              go_wp2
              go_ret
              exact ⟨ret_int e0.out.symm, btrans B1.out (btrans hb0.out (btrans hbz0.out hb))⟩
            have h2n : (clsN L[m].k != (j : Int)) = false := by unfold bne; rw [h2]; rfl
            cases h3 : chk L[m]
            all_goals
              unfold chkE at KK
              rw [h3] at KK
              rw [h1] at KC
            · have e0 := hid (hno1.out (hrow2.out.trans (all_no hlm (by rw [hop.out, h1, h2, h3]; rfl))))
              clear h1 h3
              go_wp2_with fail
              with_reducible refine (KC.out _).mono ?_
              rintro e w6 ⟨rfl, hb⟩
              have hb6 := hid hb
              have s0 := cell_keep S0.out hb
              have s1 := cell_keep S1.out hb
              have s2 := cell_keep S2.out hb
              have s3 := cell_keep S3.out hb
              have s4 := cell_keep S4.out hb
              have sb := cell_keep SB.out hb
              clear hb c0 c1 c2 c3 c4 kb
              go_wp2_with fail
              with_reducible refine (KK.out _).mono ?_
              rintro e w7 ⟨rfl, hb⟩
              go_wp2
              go_ret
              exact ⟨ret_int e0.out.symm, btrans B1.out (btrans hb0.out (btrans hbz0.out (btrans hb6.out hb)))⟩
            · have e0 : Hid (opC j L[m] = true) := hid (by rw [hop.out, h1, h2, h3]; rfl)
              clear h1 h3
              go_wp2_with fail
              with_reducible refine (KC.out _).mono ?_
              rintro e w6 ⟨rfl, hb⟩
              have hb6 := hid hb
              have s0 := cell_keep S0.out hb
              have s1 := cell_keep S1.out hb
              have s2 := cell_keep S2.out hb
              have s3 := cell_keep S3.out hb
              have s4 := cell_keep S4.out hb
              have sb := cell_keep SB.out hb
              clear hb c0 c1 c2 c3 c4 kb
              go_wp2_with fail
              with_reducible refine (KK.out _).mono ?_
              rintro e w7 ⟨rfl, hb⟩
              go_wp2
              go_roundg (L.length - (m + 1))
              case measure => have := hgm.out; omega
              case rel =>
                refine ⟨m + 1, by omega, by go_num, by show _ + _ = _; omega, fun n hn hn2 => ?_, btrans hbz0.out (btrans hb6.out hb)⟩
                by_cases h : n < m
                · exact hallm.out n h hn2
                · obtain rfl : n = m := by omega
                  exact e0.out
          · obtain rfl : m = L.length := by omega
            have e3 := hid (hrow2.out.trans (all_yes fun n hn => hallm.out n hn hn))
            have hbz0 := hid hbz
            clear hbz
            go_wp2
            go_roundg (4 - (j + 1))
            case measure => have := hg.out; omega
            case rel =>
              refine ⟨j + 1, by omega, by go_num, by show _ + _ = _; omega, fun i hi => ?_, btrans hb0.out hbz0.out⟩
              by_cases h : i < j
              · exact hall.out i h
              · obtain rfl : i = j := by omega
                exact e3.out
      · have e0 := hid (hno1.out (by rw [hrow.out, decide_eq_false hle]; rfl))
        generalize hL : b j = L at *
        generalize A j = D at *
        generalize c j = d at *
        generalize t[j]?.getD 0 = u at *
        replace hL := hid hL
        have hgt : u < (L.length : Int) := by omega
        go_wp2
        go_quiet (fail)
        go_wp2
        go_ret
        exact ⟨ret_int e0.out.symm, btrans B1.out (btrans hb0.out (by ((with_reducible (repeat (first | assumption | exact Below.refl _ _ | refine bset ?_ (Nat.le_refl _) _ | refine balloc ?_ _ | refine bdrew ?_ | refine bdrewN ?_ _))); done)))⟩
    · obtain rfl : j = 4 := by omega
      have e0 : Hid (bunE b t = 0) := hid (by rw [E0.out, right_yes (b := b) (t := t) hall.out]; rfl)
      go_wp2
      go_ret
      exact ⟨ret_int e0.out.symm, btrans B1.out hbw⟩
end Go.Proofs.Ytcibkoodnfkogaa
