/- The contract of the document's Encode. -/
import Derived.Test.YtcibkoodnfkogaaR06
import Derived.Test.YtcibkoodnfkogaaR04
import Derived.Test.YtcibkoodnfkogaaBu4
import Derived.StillTailTactics
namespace Go.Proofs.Ytcibkoodnfkogaa
open Go.RowKit
set_option linter.unusedVariables false
set_option linter.unusedSimpArgs false
theorem rowW_at {b : Nat → List Op} {t : List Int} {j m : Nat} (h : m < (b j).length) : (rowW b t j).take (m + 1) = (rowW b t j).take m ++ [wordN (b j)[m]] := by
  rw [List.take_add_one]
  unfold rowW
  rw [List.getElem?_append_left (by rw [List.length_map]; exact h), List.getElem?_map, List.getElem?_eq_getElem h]
  rfl
theorem rowW_off {b : Nat → List Op} {t : List Int} {j m : Nat} (h : (b j).length ≤ m) (h2 : (m : Int) < t[j]?.getD 0) : (rowW b t j).take (m + 1) = (rowW b t j).take m ++ [0] := by
  rw [List.take_add_one]
  unfold rowW
  rw [List.getElem?_append_right (by rw [List.length_map]; exact h), List.getElem?_replicate, if_pos (by rw [List.length_map]; omega)]
  rfl
theorem rowW_len2 {b : Nat → List Op} {t : List Int} {j : Nat} (h : ((b j).length : Int) ≤ t[j]?.getD 0) : (rowW b t j).length = (t[j]?.getD 0).toNat := by
  unfold rowW
  rw [List.length_append, List.length_map, List.length_replicate]
  omega
set_option maxHeartbeats 4000000 in
set_option maxRecDepth 100000 in
theorem rencode_any (A : Option Addr) (l : List (Nat → List Op)) (cap : Nat) (t : List Int) (w : World) (hl : BunsIn w A l) (hw : ∀ b ∈ l, BunWf b) (ht : t.length = 13) (hm : l.length ≤ 9223372036854775807) :
    Calls Try.prog 51 #[.slice A l.length cap, tabV t] w (EncP l t w) := by
  obtain ⟨a0, a1, a2, a3, a4, a5, a6, a7, a8, a9, a10, a11, a12, rfl⟩ := thirteen ht
  have C2 := hid (fun (w : World) => rtcheck_any [a0, a1, a2, a3, a4, a5, a6, a7, a8, a9, a10, a11, a12] w ht)
  have RB := hid (fun (w : World) (b : Nat → List Op) (A : Nat → Option Addr) (c : Nat → Nat) (hv : BunVal w b A c) (hw : BunWf b) => rbcheck_any b A c [a0, a1, a2, a3, a4, a5, a6, a7, a8, a9, a10, a11, a12] w hv hw ht)
  have HL := hid hl
  have HW := hid hw
  clear hl hw ht
  have hV : tabV [a0, a1, a2, a3, a4, a5, a6, a7, a8, a9, a10, a11, a12] = tabX a0 a1 a2 a3 a4 a5 a6 a7 a8 a9 a10 a11 a12 := rfl
  rw [hV] at C2 RB ⊢
  clear hV
  generalize htt : [a0, a1, a2, a3, a4, a5, a6, a7, a8, a9, a10, a11, a12] = t at C2 RB ⊢
  have hbox := hid (fun w T => htt ▸ TabIn.box a0 a1 a2 a3 a4 a5 a6 a7 a8 a9 a10 a11 a12 w T)
  have h13 : Hid (∀ (x : World) (g : Nat), TabIn x g t → x.cell? ⟨g, 0, none⟩ = some (.int .i64 a0) ∧ x.cell? ⟨g, 1, none⟩ = some (.int .i64 a1) ∧ x.cell? ⟨g, 2, none⟩ = some (.int .i64 a2) ∧ x.cell? ⟨g, 3, none⟩ = some (.int .i64 a3) ∧ x.cell? ⟨g, 4, none⟩ = some (.int .i64 a4) ∧ x.cell? ⟨g, 5, none⟩ = some (.int .i64 a5) ∧ x.cell? ⟨g, 6, none⟩ = some (.int .i64 a6) ∧ x.cell? ⟨g, 7, none⟩ = some (.int .i64 a7) ∧ x.cell? ⟨g, 8, none⟩ = some (.int .i64 a8) ∧ x.cell? ⟨g, 9, none⟩ = some (.int .i64 a9) ∧ x.cell? ⟨g, 10, none⟩ = some (.int .i64 a10) ∧ x.cell? ⟨g, 11, none⟩ = some (.int .i64 a11) ∧ x.cell? ⟨g, 12, none⟩ = some (.int .i64 a12)) := hid (by
    subst htt
    intro x g h
    exact ⟨h 0 (by omega), h 1 (by omega), h 2 (by omega), h 3 (by omega), h 4 (by omega), h 5 (by omega), h 6 (by omega), h 7 (by omega), h 8 (by omega), h 9 (by omega), h 10 (by omega), h 11 (by omega), h 12 (by omega)⟩)
  clear htt
  by_cases hT : tabE t = 0
  case neg =>
    have e0 : encE l t = tabE t := by unfold encE; rw [if_pos hT]
    have hT2 : ¬ encE l t = 0 := by rw [e0]; exact hT
    have E0 := hid e0
    have E1 := hid hT2
    clear e0 hT2
    go_enter Try.func51, Try.ntmps51
    go_wp2_with fail
    with_reducible refine (C2.out _).mono ?_
    rintro e w1 ⟨rfl, hb⟩
    go_wp2_with fail
    go_ret2
    refine ⟨.slice none 0 0, ?_, btrans (a := w) ?_ hb, fun _ => rfl, fun h => absurd h E1.out⟩
    · rw [E0.out]; rfl
    · ((with_reducible (repeat (first | assumption | exact Below.refl _ _ | refine bset ?_ (Nat.le_refl _) _ | refine balloc ?_ _ | refine bdrew ?_ | refine bdrewN ?_ _))); done)
  rw [hT] at C2
  have hok := hid (tabE_iff0 hT)
  by_cases hlen : 65536 < l.length
  · have E0 : Hid (encE l t = 3) := hid (by unfold encE; rw [if_neg (fun h => h hT), if_pos hlen])
    have hl2 : (65536 : Int) < (l.length : Int) := by omega
    clear hT
    go_enter Try.func51, Try.ntmps51
    go_wp2_with fail
    with_reducible refine (C2.out _).mono ?_
    rintro e w1 ⟨rfl, hb⟩
    go_wp2_with fail
    go_ret2
    refine ⟨.slice none 0 0, ?_, btrans (a := w) ?_ hb, fun _ => rfl, fun h => by rw [E0.out] at h; omega⟩
    · rw [E0.out]; rfl
    · ((with_reducible (repeat (first | assumption | exact Below.refl _ _ | refine bset ?_ (Nat.le_refl _) _ | refine balloc ?_ _ | refine bdrew ?_ | refine bdrewN ?_ _))); done)
  have e0 : encE l t = if l.all (rightB · t) then 0 else 210 := by unfold encE; rw [if_neg (fun h => h hT), if_neg hlen]
  have E0 := hid e0
  have EB : Hid (∀ b, bunE b t = if rightB b t then 0 else 210) := hid fun b => by unfold bunE; rw [if_neg (fun h => h hT)]
  have hl2 : ¬ (65536 : Int) < (l.length : Int) := by omega
  have hl3 : (l.length : Int) ≤ 65536 := by omega
  clear hT e0 hlen
  obtain ⟨ii, z, hi, hz, h1, h8, hz1⟩ := u64_info
  have HI := hid hi
  have HZ := hid hz
  have HU := hid (Try.underlying75)
  replace h1 := hid h1
  replace h8 := hid h8
  replace hz1 := hid hz1
  clear hi hz
  go_enter Try.func51, Try.ntmps51
  go_wp2_with fail
  with_reducible refine (C2.out _).mono ?_
  rintro e w1 ⟨rfl, hb⟩
  have B1 := hid (btrans (a := w) (by ((with_reducible (repeat (first | assumption | exact Below.refl _ _ | refine bset ?_ (Nat.le_refl _) _ | refine balloc ?_ _ | refine bdrew ?_ | refine bdrewN ?_ _))); done)) hb)
  have TT : Hid (TabIn w1 w.heap.size t) := hid ((hbox.out w 28).keep hb)
  clear hb
  go_wp2_with fail
  go_loopg [7, 8] l.length (fun gk v7 v wr => ∃ i : Nat, i ≤ l.length ∧ v = .int .i64 i ∧ Hid (gk + i = l.length) ∧ Hid (∀ m (hm : m < l.length), m < i → rightB l[m] t = true) ∧ Hid (OwnW wr (w.heap.size + 1) v7 (encL t (l.take i))) ∧ Hid (TabIn wr w.heap.size t) ∧ Below w.heap.size w wr)
  case atStart => exact ⟨0, by omega, rfl, by exact Nat.add_zero _, fun m hm h => by omega, hid (by simpa [encL, OwnW] using World.ownsRow_nil _ _ _ _), TT, B1.out⟩
  case round =>
    obtain ⟨i, hi, rfl, hg, hall, hown, htr, hbw⟩ := hrel
    by_cases hlt : i < l.length
    · obtain ⟨wo, rfl⟩ : ∃ wo : World, wo = wr := ⟨_, rfl⟩
      obtain ⟨g, off, rfl, hop⟩ := HL.out.get i hlt
      have hb0 := hid hbw
      obtain ⟨D, c, hc⟩ := hop
      have HC := hid hc
      have hwf := hid (HW.out l[i] (List.getElem_mem hlt))
      have CR := hid (fun (w : World) (hv : BunVal w l[i] D c) => RB.out w l[i] D c hv hwf.out)
      rw [EB.out] at CR
      have BV : Hid (BunVal wo.drew l[i] D c) := hid fun j hj => ⟨((hc j hj).2.1.keep hbw).keep (bdrew (Below.refl _ _)), (hc j hj).2.2⟩
      have hij : (i : Int) < (l.length : Int) := by omega
      have hi0 : (0 : Int) ≤ (i : Int) := by omega
      obtain ⟨q0, q1, q2, q3, q4, q5, q6, q7, q8, q9, q10, q11, q12⟩ := h13.out _ _ htr.out
      have k0 : wo.cell? ⟨g, off + i * 4, none⟩ = some (.slice (D 0) (l[i] 0).length (c 0)) := cell_keep (hc 0 (by omega)).1 hbw
      have k1 := cell_keep (hc 1 (by omega)).1 hbw
      have k2 := cell_keep (hc 2 (by omega)).1 hbw
      have k3 := cell_keep (hc 3 (by omega)).1 hbw
      clear hbw hc
      cases hr : rightB l[i] t
      · have e1 : Hid (encE l t = 210) := hid (by rw [E0.out, if_neg]; intro h; have := List.all_eq_true.1 h l[i] (List.getElem_mem hlt); rw [hr] at this; cases this)
        rw [hr] at CR
        simp only [Bool.false_eq_true, if_false] at CR
        go_wp2_with fail
        go_still_tail 5, (by kernel_rfl)
        change wpList _ _ _ _ _ wo.drew
        go_wp2_with fail
        with_reducible refine (CR.out _ BV.out).mono ?_
        rintro e w2 ⟨rfl, hb⟩
        go_wp2_with fail
        go_ret2
        refine ⟨.slice none 0 0, ?_, btrans hb0.out (btrans (a := wo) (bdrew (Below.refl _ _)) hb), fun _ => rfl, fun h => by rw [e1.out] at h; omega⟩
        rw [e1.out]; rfl
      rw [hr] at CR
      simp only [if_true] at CR
      have HR := hid hr
      clear hr
      go_wp2_with fail
      go_still_tail 5, (by kernel_rfl)
      change wpList _ _ _ _ _ wo.drew
      go_wp2_with fail
      with_reducible refine (CR.out _ BV.out).mono ?_
      rintro e w2 ⟨rfl, hb⟩
      replace hb := btrans (a := wo) (bdrew (Below.refl _ _)) hb
      have B2 := hid (btrans hb0.out hb)
      have T2 := hid (htr.out.keep hb)
      have O2 := hid (hown.out.below hb)
      clear hb q0 q1 q2 q3 q4 q5 q6 q7 q8 q9 q10 q11 q12 k0 k1 k2 k3
      go_wp2_with fail
      go_loopg [7, 9] 4 (fun gk v7 v wr => ∃ j : Nat, j ≤ 4 ∧ v = .int .i64 j ∧ Hid (gk + j = 4) ∧ Hid (OwnW wr (w.heap.size + 1) v7 (encL t (l.take i) ++ rowsW l[i] t j)) ∧ Hid (TabIn wr w.heap.size t) ∧ Hid (Below w.heap.size w wr) ∧ Below w.heap.size w wr)
      case atStart => exact ⟨0, by omega, rfl, by exact Nat.add_zero _, hid (by simpa [rowsW] using O2.out), T2, B2, B2.out⟩
      case round =>
        obtain ⟨j, hj, rfl, hgj, hownj, htrj, hbj, _⟩ := hrel
        by_cases hj4 : j < 4
        · obtain ⟨wp, rfl⟩ : ∃ wp : World, wp = wr := ⟨_, rfl⟩
          have hH : Hid (∀ x : World, TabIn x w.heap.size t → w.heap.size < x.heap.size) := hid fun x hx => World.block_lt_of_cell? x _ (hx 0 (by omega))
          have KT := hid (fun (x : World) (hx : TabIn x w.heap.size t) => hx j (by omega))
          have KB := hid (fun (x : World) (hx : Below w.heap.size w x) => cell_keep (HC.out j hj4).1 hx)
          have OL2 := hid ((HC.out j hj4).2.1)
          have WL := hid (hwf.out j hj4).1
          have OPS := hid (right_op HR.out j hj4)
          have hle := right_len HR.out j hj4
          have hub := (units_bd hok.out j hj4).2
          have hlen0 : Hid ((encL t (l.take i)).length ≤ 32 * i ∧ (rowsW l[i] t j).length ≤ 8 * j) := hid ⟨encL_len hok.out i (by omega) (fun m hm h => hall.out m hm h), rowsW_len j fun k hk => ⟨right_len HR.out k (by omega), (units_bd hok.out k (by omega)).2⟩⟩
          have hji : (j : Int) < 4 := by omega
          have hj0 : (0 : Int) ≤ (j : Int) := by omega
          have hlc := (HC.out j hj4).2.2.1
          have hrw : Hid (rowsW l[i] t (j + 1) = rowsW l[i] t j ++ rowW l[i] t j) := hid (rowsW_step _ _ _)
          have R1 : Hid (∀ m (h : m < (l[i] j).length), (rowW l[i] t j).take (m + 1) = (rowW l[i] t j).take m ++ [wordN (l[i] j)[m]]) := hid fun m h => rowW_at h
          have R2 : Hid (∀ m, (l[i] j).length ≤ m → (m : Int) < t[j]?.getD 0 → (rowW l[i] t j).take (m + 1) = (rowW l[i] t j).take m ++ [0]) := hid fun m h h2 => rowW_off h h2
          have R3 := hid (rowW_len2 hle)
          generalize hL : l[i] j = L at *
          generalize D j = E at *
          generalize c j = d at *
          generalize hU : t[j]?.getD 0 = u at *
          generalize hRW : rowW l[i] t j = R at *
          replace hU := hid hU
          replace hRW := hid hRW
          generalize hX : encL t (l.take i) ++ rowsW l[i] t j = X at *
          have hXl : Hid (X.length ≤ 32 * i + 8 * j) := hid (by rw [← hX, List.length_append]; have := hlen0.out; omega)
          replace hX := hid hX
          replace hL := hid hL
          go_wp2
          go_loopg [7, 10] u.toNat (fun gm v7 v wr => ∃ m : Nat, m ≤ u.toNat ∧ v = .int .i64 m ∧ Hid (gm + m = u.toNat) ∧ Hid (OwnW wr (w.heap.size + 1) v7 (X ++ R.take m)) ∧ Hid (TabIn wr w.heap.size t) ∧ Hid (Below w.heap.size w wr))
          case atStart => exact ⟨0, by omega, rfl, by exact Nat.add_zero _, hid (by simpa using hownj.out), htrj, hbj⟩
          case round =>
            obtain ⟨m, hm, rfl, hgm, hownm, htrm, hbm⟩ := hrel
            have kt := KT.out _ htrm.out
            have hHw := hid (hH.out _ htrm.out)
            by_cases hlm : (m : Int) < u
            · have kb := KB.out _ hbm.out
              have hm0 : (0 : Int) ≤ (m : Int) := by omega
              by_cases hlm2 : m < L.length
              · obtain ⟨g4, off4, rfl, hop4⟩ := (OpsIn.keep OL2.out hbm.out).get m hlm2
                obtain ⟨s0, s1, s2, s3, s4⟩ := hop4
                have hmj : (m : Int) < (L.length : Int) := by omega
                have hbd := chk_bd (opC_chk (OPS.out L[m] (List.getElem_mem hlm2)))
                have KW := hid (fun w => rword_any L[m] w (WL.out L[m] (List.getElem_mem hlm2)) hbd.1 hbd.2.1 hbd.2.2.1 hbd.2.2.2.1 hbd.2.2.2.2.1 hbd.2.2.2.2.2.1 hbd.2.2.2.2.2.2)
                have hsn : Hid (X ++ R.take (m + 1) = (X ++ R.take m) ++ [wordN L[m]]) := hid (by rw [R1.out m hlm2, List.append_assoc])
                have hXS : Hid ((X ++ R.take m).length ≤ 32 * i + 8 * j + m) := hid (by have := hXl.out; rw [List.length_append, List.length_take]; omega)
                generalize X ++ R.take m = XS at hownm hsn hXS
                clear hbd
                go_wp2_with fail
                with_reducible refine (KW.out _).mono ?_
                rintro e w6 ⟨rfl, hb⟩
                have hb6 := hid hb
                clear hb s0 s1 s2 s3 s4 kb kt
                go_wp2_with (at_builtin; refine wpList_append_lies _ (by rfl) _ _ _ (by rfl) (w.heap.size + 1) 85 ii z 1 8 HU.out HI.out HZ.out h1.out h8.out hz1.out (by omega) u7 XS.length (u64V XS) (by rfl) ?hown ⟨w6.heap.size, 0, none⟩ 1 1 [.int .u64 (wordN L[m])] (by rfl) (by rfl) ?hnews ?hone (by omega) ?h63 ?hbytes ?hbase _ rfl ?_)
                case hown => exact own_below hownm.out (hb6.out.alloc hb6.out.size _)
                case hnews => exact World.news_of_block (heap_new_at _ _ _ (by simp))
                case hone => intro u hu; simp only [List.mem_cons, List.not_mem_nil, or_false] at hu; subst hu; rfl
                case h63 => unfold maxLen; have := hXS.out; omega
                case hbytes => have := hXS.out; omega
                case hbase => have h1 := hHw.out; have h2 := hb6.out.size; simp; omega
                intro g3 d3 w7 hown7 hgrow7 hat hlt7
                have OW := hid (OwnW.snoc hown7 rfl)
                have T7 := hid (htrm.out.grow hownm.out (by omega) (hb6.out.alloc hb6.out.size _) hgrow7)
                have B7 := hid (below_grow hbm.out hownm.out (by omega) (hb6.out.alloc hb6.out.size _) hgrow7)
                clear hown7 hgrow7 hat hlt7
                go_wp2
                go_roundg (u.toNat - (m + 1))
                case measure => have := hgm.out; omega
                case rel => exact ⟨m + 1, by omega, by go_num, by show _ + _ = _; omega, hid (by rw [hsn.out]; exact OW.out), T7, B7⟩
              · have hmj : ¬ (m : Int) < (L.length : Int) := by omega
                have hb6 : Hid (Below wr.heap.size wr wr) := hid (Below.refl _ _)
                have hsn : Hid (X ++ R.take (m + 1) = (X ++ R.take m) ++ [0]) := hid (by rw [R2.out m (by omega) hlm, List.append_assoc])
                have hXS : Hid ((X ++ R.take m).length ≤ 32 * i + 8 * j + m) := hid (by have := hXl.out; rw [List.length_append, List.length_take]; omega)
                generalize X ++ R.take m = XS at hownm hsn hXS
                go_wp2_with (at_builtin; refine wpList_append_lies _ (by rfl) _ _ _ (by rfl) (w.heap.size + 1) 85 ii z 1 8 HU.out HI.out HZ.out h1.out h8.out hz1.out (by omega) u7 XS.length (u64V XS) (by rfl) ?hown ⟨wr.heap.size, 0, none⟩ 1 1 [.int .u64 0] (by rfl) (by rfl) ?hnews ?hone (by omega) ?h63 ?hbytes ?hbase _ rfl ?_)
                case hown => exact own_below hownm.out (hb6.out.alloc hb6.out.size _)
                case hone => rfl
                case h63 => unfold maxLen; have := hXS.out; omega
                case hbytes => have := hXS.out; omega
                case hbase => have h1 := hHw.out; simp; omega
                intro g3 d3 w7 hown7 hgrow7 hat hlt7
                have OW := hid (OwnW.snoc hown7 rfl)
                have T7 := hid (htrm.out.grow hownm.out (by omega) (hb6.out.alloc hb6.out.size _) hgrow7)
                have B7 := hid (below_grow hbm.out hownm.out (by omega) (hb6.out.alloc hb6.out.size _) hgrow7)
                clear hown7 hgrow7 hat hlt7
                go_wp2
                go_roundg (u.toNat - (m + 1))
                case measure => have := hgm.out; omega
                case rel => exact ⟨m + 1, by omega, by go_num, by show _ + _ = _; omega, hid (by rw [hsn.out]; exact OW.out), T7, B7⟩
            · have hmeq : m = u.toNat := by omega
              have OWf : Hid (OwnW wr (w.heap.size + 1) u7 (encL t (l.take i) ++ rowsW l[i] t (j + 1))) := hid (by rw [hrw.out, ← List.append_assoc, hX.out, ← List.take_length (l := R), R3.out, ← hmeq]; exact hownm.out)
              clear hmeq
              go_wp2
              go_roundg (4 - (j + 1))
              case measure => have := hgj.out; omega
              case rel => exact ⟨j + 1, by omega, by go_num, by show _ + _ = _; omega, OWf, htrm, hbm, hbm.out⟩
        · obtain rfl : j = 4 := by omega
          go_wp2
          go_roundg (l.length - (i + 1))
          case measure => have := hg.out; omega
          case rel =>
            refine ⟨i + 1, by omega, by go_num, by show _ + _ = _; omega, fun m hm hmi => ?_, hid (by rw [encL_step hlt]; exact hownj.out), htrj, hbj.out⟩
            by_cases h : m < i
            · exact hall.out m hm h
            · obtain rfl : m = i := by omega
              exact HR.out
    · obtain rfl : i = l.length := by omega
      have e1 : Hid (encE l t = 0) := hid (by rw [E0.out, if_pos]; exact List.all_eq_true.2 fun b hb => by obtain ⟨j, hj, rfl⟩ := List.getElem_of_mem hb; exact hall.out j hj hj)
      have hb0 := hid hbw
      rw [List.take_length] at hown
      clear hbw
      go_wp2
      go_ret2
      refine ⟨u7, ?_, hb0.out, fun h => absurd e1.out h, fun _ => ?_⟩
      · rw [e1.out]; rfl
      · exact own_base hown.out (by omega)
end Go.Proofs.Ytcibkoodnfkogaa
