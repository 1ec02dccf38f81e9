/- The contract of bundle.Encode. -/
import Derived.Test.YtcibkoodnfkogaaBu3
namespace Go.Proofs.Ytcibkoodnfkogaa
open Go.RowKit
set_option linter.unusedVariables false
set_option linter.unusedSimpArgs false
theorem OwnW.lt {w : World} {base : Nat} {v : Value} {l : List Int} (h : OwnW w base v l) : ∀ k, v.ownBlock = some k → base ≤ k ∧ k < w.heap.size := World.ownsRow.lt h
theorem OwnW.below {w w' : World} {base : Nat} {v : Value} {l : List Int} (h : OwnW w base v l) (hb : Below w.heap.size w w') : OwnW w' base v l := own_below h hb
theorem OwnW.snoc {w : World} {base n g c : Nat} {l : List Int} {x : Int} (h : w.ownsRow base 85 1 (.slice (some ⟨g, 0, none⟩) (n + 1) c) (n + 1) (u64V l ++ [.int .u64 x])) (hn : n = l.length) : OwnW w base (.slice (some ⟨g, 0, none⟩) (n + 1) c) (l ++ [x]) := by
  subst hn
  unfold OwnW
  rw [List.length_append, u64V, List.map_append]
  exact h
set_option maxHeartbeats 4000000 in
set_option maxRecDepth 100000 in
theorem encode_any (A : Option Addr) (l : List (Nat → List Op)) (cap : Nat) (t : List Int) (w : World) (hl : BunsIn w A l) (hw : ∀ b ∈ l, BunWf b) (ht : t.length = 13) (hm : l.length ≤ 9223372036854775807) :
    Calls Try.prog 45 #[.slice A l.length cap, tabV t] w (EncP l t w) := by
  obtain ⟨a0, a1, a2, a3, a4, a5, a6, a7, a8, a9, a10, a11, a12, rfl⟩ := thirteen ht
  have C2 := hid (fun (w : World) => tcheck_any [a0, a1, a2, a3, a4, a5, a6, a7, a8, a9, a10, a11, a12] w ht)
  have HL := hid hl
  have HW := hid hw
  clear hl hw ht
  have hV : tabV [a0, a1, a2, a3, a4, a5, a6, a7, a8, a9, a10, a11, a12] = tabX a0 a1 a2 a3 a4 a5 a6 a7 a8 a9 a10 a11 a12 := rfl
  rw [hV] at C2 ⊢
  clear hV
  generalize htt : [a0, a1, a2, a3, a4, a5, a6, a7, a8, a9, a10, a11, a12] = t at C2 ⊢
  have hbox := hid (fun w T => htt ▸ TabIn.box a0 a1 a2 a3 a4 a5 a6 a7 a8 a9 a10 a11 a12 w T)
  clear htt
  by_cases hT : tabE t = 0
  case neg =>
    have e0 : encE l t = tabE t := by unfold encE; rw [if_pos hT]
    have hT2 : ¬ encE l t = 0 := by rw [e0]; exact hT
    have E0 := hid e0
    have E1 := hid hT2
    clear e0 hT2
    go_enter Try.func45, Try.ntmps45
    go_wp2_with fail
    with_reducible refine (C2.out _).mono ?_
    rintro e w1 ⟨rfl, hb⟩
    go_wp2_with fail
    go_ret2
    refine ⟨.slice none 0 0, ?_, btrans (a := w) ?_ hb, fun _ => rfl, fun h => absurd h E1.out⟩
    · rw [E0.out]; rfl
    · ((with_reducible (repeat (first | assumption | exact Below.refl _ _ | refine bset ?_ (Nat.le_refl _) _ | refine balloc ?_ _ | refine bdrew ?_ | refine bdrewN ?_ _))); done)
  rw [hT] at C2
  have hok := hid (tabE_iff0 hT)
  by_cases hlen : 65536 < l.length
  · have E0 : Hid (encE l t = 3) := hid (by unfold encE; rw [if_neg (fun h => h hT), if_pos hlen])
    have hl2 : (65536 : Int) < (l.length : Int) := by omega
    clear hT
    go_enter Try.func45, Try.ntmps45
    go_wp2_with fail
    with_reducible refine (C2.out _).mono ?_
    rintro e w1 ⟨rfl, hb⟩
    go_wp2_with fail
    go_ret2
    refine ⟨.slice none 0 0, ?_, btrans (a := w) ?_ hb, fun _ => rfl, fun h => by rw [E0.out] at h; omega⟩
    · rw [E0.out]; rfl
    · ((with_reducible (repeat (first | assumption | exact Below.refl _ _ | refine bset ?_ (Nat.le_refl _) _ | refine balloc ?_ _ | refine bdrew ?_ | refine bdrewN ?_ _))); done)
  have e0 : encE l t = if l.all (rightB · t) then 0 else 210 := by unfold encE; rw [if_neg (fun h => h hT), if_neg hlen]
  have E0 := hid e0
  have hl2 : ¬ (65536 : Int) < (l.length : Int) := by omega
  have hl3 : (l.length : Int) ≤ 65536 := by omega
  clear hT e0 hlen
  obtain ⟨ii, z, hi, hz, h1, h8, hz1⟩ := u64_info
  have HI := hid hi
  have HZ := hid hz
  have HU := hid (Try.underlying75)
  replace h1 := hid h1
  replace h8 := hid h8
  replace hz1 := hid hz1
  clear hi hz
  go_enter Try.func45, Try.ntmps45
  go_wp2_with fail
  with_reducible refine (C2.out _).mono ?_
  rintro e w1 ⟨rfl, hb⟩
  have B1 := hid (btrans (a := w) (by ((with_reducible (repeat (first | assumption | exact Below.refl _ _ | refine bset ?_ (Nat.le_refl _) _ | refine balloc ?_ _ | refine bdrew ?_ | refine bdrewN ?_ _))); done)) hb)
  have TT : Hid (TabIn w1 w.heap.size t) := hid ((hbox.out w 28).keep hb)
  clear hb
  go_wp2_with fail
  go_loopg [7, 23] l.length (fun gk v7 v wr => ∃ i : Nat, i ≤ l.length ∧ v = .int .i64 i ∧ Hid (gk + i = l.length) ∧ Hid (∀ m (hm : m < l.length), m < i → rightB l[m] t = true) ∧ Hid (OwnW wr (w.heap.size + 1) v7 (encL t (l.take i))) ∧ Hid (TabIn wr w.heap.size t) ∧ Below w.heap.size w wr)
  case atStart => exact ⟨0, by omega, rfl, by exact Nat.add_zero _, fun m hm h => by omega, hid (by simpa [encL, OwnW] using World.ownsRow_nil _ _ _ _), TT, B1.out⟩
  case round =>
    obtain ⟨i, hi, rfl, hg, hall, hown, htr, hbw⟩ := hrel
    by_cases hlt : i < l.length
    · obtain ⟨wo, rfl⟩ : ∃ wo : World, wo = wr := ⟨_, rfl⟩
      obtain ⟨g, off, rfl, hop⟩ := HL.out.get i hlt
      have hb0 := hid hbw
      have HO := hid (hop.keep hbw)
      obtain ⟨D, c, hc⟩ := hop
      have HC := hid hc
      have hwf := hid (HW.out l[i] (List.getElem_mem hlt))
      have CR := hid (fun (w : World) (h : BunAt w g (off + i * 4) l[i]) (gt : Nat) (ht : TabIn w gt t) => right_any g (off + i * 4) gt l[i] t w h hwf.out ht)
      have hij : (i : Int) < (l.length : Int) := by omega
      have hi0 : (0 : Int) ≤ (i : Int) := by omega
      clear hbw hc
      cases hr : rightB l[i] t
      · have e1 : Hid (encE l t = 210) := hid (by rw [E0.out, if_neg]; intro h; have := List.all_eq_true.1 h l[i] (List.getElem_mem hlt); rw [hr] at this; cases this)
        rw [hr] at CR
        go_wp2_with fail
        with_reducible refine (CR.out _ HO.out _ htr.out).mono ?_
        rintro e w2 ⟨rfl, hb⟩
        go_wp2_with fail
        go_ret2
        refine ⟨.slice none 0 0, ?_, btrans hb0.out hb, fun _ => rfl, fun h => by rw [e1.out] at h; omega⟩
        rw [e1.out]; rfl
      rw [hr] at CR
      have HR := hid hr
      clear hr
      go_wp2_with fail
      with_reducible refine (CR.out _ HO.out _ htr.out).mono ?_
      rintro e w2 ⟨rfl, hb⟩
      have B2 := hid (btrans hb0.out hb)
      have T2 := hid (htr.out.keep hb)
      have O2 := hid (hown.out.below hb)
      clear hb
      have k0 : w2.cell? ⟨g, off + i * 4, none⟩ = some (.slice (D 0) (l[i] 0).length (c 0)) := cell_keep (HC.out 0 (by omega)).1 B2.out
      have k1 := cell_keep (HC.out 1 (by omega)).1 B2.out
      have k2 := cell_keep (HC.out 2 (by omega)).1 B2.out
      have k3 := cell_keep (HC.out 3 (by omega)).1 B2.out
      have HOW : Hid (∀ j, j < 4 → OpsIn w (D j) (l[i] j)) := hid fun j hj => (HC.out j hj).2.1
      have hix := hid (fun j hj w => index_bun (fun j => .slice (D j) (l[i] j).length (c j)) j hj w)
      go_wp2_with fail
      clear k0 k1 k2 k3
      go_loopg [7, 36] 4 (fun gk v7 v wr => ∃ j : Nat, j ≤ 4 ∧ v = .int .i64 j ∧ Hid (gk + j = 4) ∧ Hid (OwnW wr (w.heap.size + 1) v7 (encL t (l.take i) ++ rowsW l[i] t j)) ∧ Hid (TabIn wr w.heap.size t) ∧ Hid (Below w.heap.size w wr) ∧ Below w.heap.size w wr)
      case atStart => exact ⟨0, by omega, rfl, by exact Nat.add_zero _, hid (by simpa [rowsW] using O2.out), T2, B2, B2.out⟩
      case round =>
        obtain ⟨j, hj, rfl, hgj, hownj, htrj, hbj, _⟩ := hrel
        by_cases hj4 : j < 4
        · obtain ⟨wp, rfl⟩ : ∃ wp : World, wp = wr := ⟨_, rfl⟩
          have hi := hix.out j hj4
          have kt := htrj.out j (by omega)
          have OL2 := hid (HOW.out j hj4)
          have hH : Hid (w.heap.size < wp.heap.size) := hid (World.block_lt_of_cell? wp _ kt)
          have WL := hid (hwf.out j hj4).1
          have OPS := hid (right_op HR.out j hj4)
          have hle := right_len HR.out j hj4
          have hub := (units_bd hok.out j hj4).2
          have hlen0 : Hid ((encL t (l.take i)).length ≤ 32 * i ∧ (rowsW l[i] t j).length ≤ 8 * j) := hid ⟨encL_len hok.out i (by omega) (fun m hm h => hall.out m hm h), rowsW_len j fun k hk => ⟨right_len HR.out k (by omega), (units_bd hok.out k (by omega)).2⟩⟩
          have hji : (j : Int) < 4 := by omega
          have hj0 : (0 : Int) ≤ (j : Int) := by omega
          have hrw : Hid (rowsW l[i] t (j + 1) = rowsW l[i] t j ++ ((l[i] j).map wordN ++ List.replicate (t[j]?.getD 0 - (l[i] j).length).toNat 0)) := hid (rowsW_step _ _ _)
          generalize hL : l[i] j = L at *
          generalize D j = E at *
          generalize c j = d at *
          generalize hU : t[j]?.getD 0 = u at *
          replace hU := hid hU
          generalize hX : encL t (l.take i) ++ rowsW l[i] t j = X at *
          have hXl : Hid (X.length ≤ 32 * i + 8 * j) := hid (by rw [← hX, List.length_append]; have := hlen0.out; omega)
          replace hX := hid hX
          replace hL := hid hL
          go_wp2
          clear hi kt
          go_loopg [7, 42] L.length (fun gm v7 v wr => ∃ m : Nat, m ≤ L.length ∧ v = .int .i64 m ∧ Hid (gm + m = L.length) ∧ Hid (OwnW wr (w.heap.size + 1) v7 (X ++ (L.take m).map wordN)) ∧ Hid (TabIn wr w.heap.size t) ∧ Hid (Below w.heap.size w wr))
          case atStart => exact ⟨0, by omega, rfl, by exact Nat.add_zero _, hid (by simpa using hownj.out), htrj, hbj⟩
          case round =>
            obtain ⟨m, hm, rfl, hgm, hownm, htrm, hbm⟩ := hrel
            by_cases hlm : m < L.length
            · obtain ⟨g4, off4, rfl, hop4⟩ := (OpsIn.keep OL2.out hbm.out).get m hlm
              obtain ⟨s0, s1, s2, s3, s4⟩ := hop4
              have hmj : (m : Int) < (L.length : Int) := by omega
              have hm0 : (0 : Int) ≤ (m : Int) := by omega
              have hbd := chk_bd (opC_chk (OPS.out L[m] (List.getElem_mem hlm)))
              have KW := hid (fun w => word_any L[m] w (WL.out L[m] (List.getElem_mem hlm)) hbd.1 hbd.2.1 hbd.2.2.1 hbd.2.2.2.1 hbd.2.2.2.2.1 hbd.2.2.2.2.2.1 hbd.2.2.2.2.2.2)
              have hsn : Hid (X ++ (L.take (m + 1)).map wordN = (X ++ (L.take m).map wordN) ++ [wordN L[m]]) := hid (by rw [List.take_add_one, List.getElem?_eq_getElem hlm, List.map_append, List.append_assoc]; rfl)
              have hXS : Hid ((X ++ (L.take m).map wordN).length ≤ 32 * i + 8 * j + m) := hid (by have := hXl.out; rw [List.length_append, List.length_map, List.length_take]; omega)
              generalize X ++ (L.take m).map wordN = XS at hownm hsn hXS
              clear hbd
              go_wp2_with fail
              with_reducible refine (KW.out _).mono ?_
              rintro e w6 ⟨rfl, hb⟩
              have hb6 : Hid (Below wr.heap.size wr w6) := hid (btrans (a := wr) (by ((with_reducible (repeat (first | assumption | exact Below.refl _ _ | refine bset ?_ (Nat.le_refl _) _ | refine balloc ?_ _ | refine bdrew ?_ | refine bdrewN ?_ _))); done)) hb)
              clear hb s0 s1 s2 s3 s4
              go_wp2_with (at_builtin; refine wpList_append_lies _ (by rfl) _ _ _ (by rfl) (w.heap.size + 1) 85 ii z 1 8 HU.out HI.out HZ.out h1.out h8.out hz1.out (by omega) u7 XS.length (u64V XS) (by rfl) ?hown ⟨w6.heap.size, 0, none⟩ 1 1 [.int .u64 (wordN L[m])] (by rfl) (by rfl) ?hnews ?hone (by omega) ?h63 ?hbytes ?hbase _ rfl ?_)
              case hown => exact own_below hownm.out (hb6.out.alloc hb6.out.size _)
              case hnews => exact World.news_of_block (heap_new_at _ _ _ (by simp))
              case hone => intro u hu; simp only [List.mem_cons, List.not_mem_nil, or_false] at hu; subst hu; rfl
              case h63 => unfold maxLen; have := hXS.out; omega
              case hbytes => have := hXS.out; omega
              case hbase => have h1 := World.block_lt_of_cell? wr _ (htrm.out 0 (by omega)); have h2 := hb6.out.size; simp only at h1; simp; omega
              intro g3 d3 w7 hown7 hgrow7 hat hlt7
              have OW := hid (OwnW.snoc hown7 rfl)
              have T7 := hid (htrm.out.grow hownm.out (by omega) (hb6.out.alloc hb6.out.size _) hgrow7)
              have B7 := hid (below_grow hbm.out hownm.out (by omega) (hb6.out.alloc hb6.out.size _) hgrow7)
              clear hown7 hgrow7 hat hlt7
              go_wp2
              go_roundg (L.length - (m + 1))
              case measure => have := hgm.out; omega
              case rel => exact ⟨m + 1, by omega, by go_num, by show _ + _ = _; omega, hid (by rw [hsn.out]; exact OW.out), T7, B7⟩
            · obtain rfl : m = L.length := by omega
              have kt := htrm.out j (by omega)
              rw [hU.out] at kt
              have hH2 : w.heap.size < wr.heap.size := World.block_lt_of_cell? wr _ kt
              have hlu0 : (0 : Int) ≤ u - (L.length : Int) := by omega
              have hlu1 : u - (L.length : Int) ≤ 8 := by omega
              rw [List.take_length] at hownm
              have hYl : Hid ((X ++ L.map wordN).length ≤ 32 * i + 8 * j + L.length) := hid (by have := hXl.out; rw [List.length_append, List.length_map]; omega)
              have hYX : Hid (X ++ (L.map wordN ++ List.replicate (u - L.length).toNat 0) = (X ++ L.map wordN) ++ List.replicate (u - L.length).toNat 0) := hid (List.append_assoc _ _ _).symm
              generalize X ++ L.map wordN = Y at hownm hYl hYX
              go_wp2
              clear kt
              go_loopg [7, 59] (u - L.length).toNat (fun gm v7 v wr => ∃ m : Nat, m ≤ (u - L.length).toNat ∧ v = .int .i64 m ∧ Hid (gm + m = (u - L.length).toNat) ∧ Hid (OwnW wr (w.heap.size + 1) v7 (Y ++ List.replicate m 0)) ∧ Hid (TabIn wr w.heap.size t) ∧ Hid (Below w.heap.size w wr))
              case atStart => exact ⟨0, by omega, rfl, by exact Nat.add_zero _, hid (by simpa using hownm.out), htrm, hbm⟩
              case round =>
                obtain ⟨m, hm, rfl, hgm, hownm, htrm, hbm⟩ := hrel
                by_cases hlm : (m : Int) < u - L.length
                · have hb6 : Hid (Below wr.heap.size wr wr) := hid (Below.refl _ _)
                  have hsn : Hid (Y ++ List.replicate (m + 1) 0 = (Y ++ List.replicate m 0) ++ [0]) := hid (by rw [List.replicate_succ', List.append_assoc])
                  have hXS : Hid ((Y ++ List.replicate m (0 : Int)).length ≤ 32 * i + 8 * j + L.length + m) := hid (by have := hYl.out; rw [List.length_append, List.length_replicate]; omega)
                  generalize Y ++ List.replicate m 0 = XS at hownm hsn hXS
                  go_wp2_with (at_builtin; refine wpList_append_lies _ (by rfl) _ _ _ (by rfl) (w.heap.size + 1) 85 ii z 1 8 HU.out HI.out HZ.out h1.out h8.out hz1.out (by omega) u7 XS.length (u64V XS) (by rfl) ?hown ⟨wr.heap.size, 0, none⟩ 1 1 [.int .u64 0] (by rfl) (by rfl) ?hnews ?hone (by omega) ?h63 ?hbytes ?hbase _ rfl ?_)
                  case hown => exact own_below hownm.out (hb6.out.alloc hb6.out.size _)
                  case hnews => exact World.news_of_block (heap_new_at _ _ _ (by simp))
                  case hone => intro u hu; simp only [List.mem_cons, List.not_mem_nil, or_false] at hu; subst hu; rfl
                  case h63 => unfold maxLen; have := hXS.out; omega
                  case hbytes => have := hXS.out; omega
                  case hbase => have h1 := World.block_lt_of_cell? wr _ (htrm.out 0 (by omega)); have h2 := hb6.out.size; simp only at h1; simp; omega
                  intro g3 d3 w7 hown7 hgrow7 hat hlt7
                  have OW := hid (OwnW.snoc hown7 rfl)
                  have T7 := hid (htrm.out.grow hownm.out (by omega) (hb6.out.alloc hb6.out.size _) hgrow7)
                  have B7 := hid (below_grow hbm.out hownm.out (by omega) (hb6.out.alloc hb6.out.size _) hgrow7)
                  clear hown7 hgrow7 hat hlt7
                  go_wp2
                  go_roundg ((u - L.length).toNat - (m + 1))
                  case measure => have := hgm.out; omega
                  case rel => exact ⟨m + 1, by omega, by go_num, by show _ + _ = _; have := hgm.out; omega, hid (by rw [hsn.out]; exact OW.out), T7, B7⟩
                · have hmeq : m = (u - L.length).toNat := by omega
                  have OWf : Hid (OwnW wr (w.heap.size + 1) u7 (encL t (l.take i) ++ rowsW l[i] t (j + 1))) := hid (by rw [hrw.out, ← List.append_assoc, hX.out, hYX.out, ← hmeq]; exact hownm.out)
                  clear hmeq
                  go_wp2
                  go_roundg (4 - (j + 1))
                  case measure => have := hgj.out; omega
                  case rel => exact ⟨j + 1, by omega, by go_num, by show _ + _ = _; omega, OWf, htrm, hbm, hbm.out⟩
        · obtain rfl : j = 4 := by omega
          go_wp2
          go_roundg (l.length - (i + 1))
          case measure => have := hg.out; omega
          case rel =>
            refine ⟨i + 1, by omega, by go_num, by show _ + _ = _; omega, fun m hm hmi => ?_, hid (by rw [encL_step hlt]; exact hownj.out), htrj, hbj.out⟩
            by_cases h : m < i
            · exact hall.out m hm h
            · obtain rfl : m = i := by omega
              exact HR.out
    · obtain rfl : i = l.length := by omega
      have e1 : Hid (encE l t = 0) := hid (by rw [E0.out, if_pos]; exact List.all_eq_true.2 fun b hb => by obtain ⟨j, hj, rfl⟩ := List.getElem_of_mem hb; exact hall.out j hj hj)
      have hb0 := hid hbw
      rw [List.take_length] at hown
      clear hbw
      go_wp2
      go_ret2
      refine ⟨u7, ?_, hb0.out, fun h => absurd e1.out h, fun _ => ?_⟩
      · rw [e1.out]; rfl
      · exact own_base hown.out (by omega)
end Go.Proofs.Ytcibkoodnfkogaa
