/- The finder's around. -/
import Derived.Test.YtcibkoodnfkogaaD6
import Derived.Great.BuildSlice
namespace Go.Proofs.Ytcibkoodnfkogaa
open Go.RowKit
set_option linter.unusedVariables false
set_option linter.unusedSimpArgs false
theorem info32 : (Try.prog.info? 189).map (·.size) = some 32 := by kernel_rfl
set_option maxHeartbeats 4000000 in
set_option maxRecDepth 100000 in
theorem around_any {w0 w : World} {B g cap : Nat} {A : Option Addr} {l : List Op} {t : List Int} {v : Value} {out : List Edge} (h : FindAt w0 w B g A cap l t v out) (HL : OpsIn w0 A l) (hwf : ∀ o ∈ l, o.wf) (hm : l.length ≤ 1024) (ho : out.length ≤ 10000000) (hlat : ∀ c : Nat, c < 4 → 1 ≤ t[4 + c]?.getD 0 ∧ t[4 + c]?.getD 0 ≤ 8) :
    Calls Try.prog 96 #[.pointer (some ⟨g, 0, none⟩)] w (EmitP w0 B g cap A l t v out (arndE l t l.length) w) := by
  have CF := hid (fun (w : World) (v' : Value) (out' : List Edge) (F : FindAt w0 w B g A cap l t v' out') (i j : Nat) (hi : i < l.length) (hj : j < l.length) (gt : Nat) (T : List Int) (hT : IntsAt w gt 189 T) (hTl : T.length = 32) => from_any F i j hi hj hm (hwf l[j] (List.getElem_mem hj)) gt T hT hTl)
  have CL := hid (fun (w : World) (v' : Value) (out' : List Edge) (F : FindAt w0 w B g A cap l t v' out') (i : Nat) (hi : i < l.length) => lat_any F HL i hi hm)
  have CM := hid (fun (w : World) (hb : Below w0.heap.size w0 w) (i j : Int) => Round_any A l cap i j w (HL.keep hb) hwf (by omega))
  have CP := hid (fun (w : World) (v' : Value) (out' : List Edge) (F : FindAt w0 w B g A cap l t v' out') (i j : Nat) (hi : i < l.length) (hj : j < l.length) (ds : Int) (m : Bool) (ho : out'.length ≤ 90000000) => pair_any F HL hwf i j hi hj hm ds m ho hlat)
  have HWF := hid hwf
  have hgw := h.gw
  have hBw := h.Bw
  have hgB := h.gB
  have H := hid h
  have c0 := h.c0
  clear h HL hwf hlat
  go_enter Try.func96, Try.ntmps96
  go_wp2
  go_loopg [12] l.length (fun gk v12 wr => ∃ i : Nat, i ≤ l.length ∧ v12 = .int .i64 i ∧ Hid (gk + i = l.length) ∧ Hid (OnceAt w0 B g cap A l t v out w.heap.size (lastT l i) w wr))
  case atStart =>
    refine ⟨0, by omega, rfl, by exact Nat.add_zero _, hid ⟨IntsAt.new _ _ _ _ _ rfl rfl, v, ?_, Spared.below (by ((with_reducible (repeat (first | assumption | exact Below.refl _ _ | refine bset ?_ (Nat.le_refl _) _ | refine balloc ?_ _ | refine bdrew ?_ | refine bdrewN ?_ _))); done)), ?_⟩⟩
    · exact H.out.keep (balloc (Below.refl _ w) _)
    · intro e
      have := (H.out.own.lt _ e.symm).2
      omega
  case round =>
    obtain ⟨i, hi, rfl, hgk, HI⟩ := hrel
    by_cases hj2 : i < l.length
    · clear c0
      obtain ⟨I1, v1, F1, S1, N1⟩ := HI.out
      obtain ⟨Ar, cr, Ad, cd, _, h15, hr⟩ := F1.rd
      obtain ⟨_, gd, rfl, _, _, hdj⟩ := hr i l[i] (List.getElem?_eq_getElem hj2)
      have hb2 : w.heap.size < wr.heap.size := I1.lt
      have hfz : ∀ k, wr.frozen? ⟨w.heap.size, k, none⟩ = false := fun k => I1.frozen k
      have WFI := hid (HWF.out l[i] (List.getElem_mem hj2))
      cases hwb : wrB l[i] with
      | true =>
        obtain ⟨dy0, dy1⟩ := dN_bd WFI.out
        have hdd := dN_yes hwb
        have hd0 := WFI.out.d0
        obtain ⟨y, hy⟩ : ∃ y : Nat, l[i].d = y := ⟨l[i].d.toNat, by omega⟩
        have ET : Hid (lastT l (i + 1) = (lastT l i).set y ((i : Int) + 1)) := hid (by
          rw [lastT, List.getElem?_eq_getElem hj2]
          simp only [hwb, if_true, hy, Int.toNat_natCast])
        rw [hdd, hy] at hdj
        have hy32 : y < 32 := by omega
        obtain ⟨ty, hty⟩ : ∃ ty, wr.cell? ⟨w.heap.size, y, none⟩ = some ty := ⟨_, I1.cell y (by rw [lastT_len]; exact hy32)⟩
        have O7 := hid (HI.out.store hBw (Nat.le_refl _) y ((i : Int) + 1))
        have hfy := hfz y
        clear I1 F1 S1 N1 hr hfz HI hdd hd0 dy0 dy1 hy
        go_wp2
        go_roundg (l.length - (i + 1))
        case measure => have := hgk.out; omega
        case rel => exact ⟨i + 1, by omega, by go_num, by show _ + _ = _; omega, hid (by rw [ET.out]; exact O7.out)⟩
      | false =>
        have ET : Hid (lastT l (i + 1) = lastT l i) := hid (by
          rw [lastT, List.getElem?_eq_getElem hj2]
          simp only [hwb, if_false, Bool.false_eq_true])
        rw [dN_no hwb] at hdj
        clear I1 F1 S1 N1 hr hfz
        go_wp2
        go_roundg (l.length - (i + 1))
        case measure => have := hgk.out; omega
        case rel => exact ⟨i + 1, by omega, by go_num, by show _ + _ = _; omega, hid (by rw [ET.out]; exact HI.out)⟩
    · obtain rfl : i = l.length := by omega
      obtain ⟨I1, v1, F1, S1, N1⟩ := HI.out
      have HI2 := hid I1
      have hbw : w.heap.size < wr.heap.size := I1.lt
      have z0 := F1.c0
      have hgw1 := F1.gw
      have LT : Hid ((lastT l l.length).length = 32) := hid (lastT_len l l.length)
      have HB : Hid (∀ b : Nat, b = wr.heap.size → b ≠ g ∧ B ≤ b ∧ w.heap.size ≤ b ∧ some b ≠ v1.ownBlock) := hid fun b e => by
        have := F1.Bw
        refine ⟨by omega, by omega, by omega, fun e2 => ?_⟩
        have := (F1.own.lt _ e2.symm).2
        omega
      have F := hid F1
      have S := hid S1
      clear I1 F1 S1 N1 HI H c0 hgk
      go_upto_region 8 with (first | (refine wpList_load_row rfl 189 (.tmp 2) (by rfl) w.heap.size (by rfl) 189 ((lastT l l.length).map (Value.int .i64)).toArray (0, 0) _ HI2.out Try.underlying189 (by rfl) ?li ?_) | (with_reducible refine wpList_store_rowTo rfl 189 _ _ rfl rfl wr.heap.size ((lastT l l.length).map (Value.int .i64)).toArray ?hx ?hy 189 ?old ?hg ?hi ?hold ?h1 ?_))
      case li => rw [List.size_toArray, List.length_map, LT.out]; exact info32
      case hx => rfl
      case hy => rfl
      case hg => exact heap_alloc_new _ _
      case hi => rw [List.size_toArray, List.length_map, LT.out]; exact info32
      case hold => show (32 : Nat) = _; rw [List.size_toArray, List.length_map, LT.out]
      case h1 => exact all_oneCell_toArray (ints_ok _)
      have O2 : Hid (OnceAt w0 B g cap A l t v out wr.heap.size (lastT l l.length) w ((wr.alloc (.cells #[.int .i64 0, .int .i64 0, .int .i64 0, .int .i64 0, .int .i64 0, .int .i64 0, .int .i64 0, .int .i64 0, .int .i64 0, .int .i64 0, .int .i64 0, .int .i64 0, .int .i64 0, .int .i64 0, .int .i64 0, .int .i64 0, .int .i64 0, .int .i64 0, .int .i64 0, .int .i64 0, .int .i64 0, .int .i64 0, .int .i64 0, .int .i64 0, .int .i64 0, .int .i64 0, .int .i64 0, .int .i64 0, .int .i64 0, .int .i64 0, .int .i64 0, .int .i64 0] 189)).setRow wr.heap.size ((lastT l l.length).map (Value.int .i64)).toArray)) := hid (by
        have hb := below_setRow (balloc (Below.refl _ wr) (.cells #[.int .i64 0, .int .i64 0, .int .i64 0, .int .i64 0, .int .i64 0, .int .i64 0, .int .i64 0, .int .i64 0, .int .i64 0, .int .i64 0, .int .i64 0, .int .i64 0, .int .i64 0, .int .i64 0, .int .i64 0, .int .i64 0, .int .i64 0, .int .i64 0, .int .i64 0, .int .i64 0, .int .i64 0, .int .i64 0, .int .i64 0, .int .i64 0, .int .i64 0, .int .i64 0, .int .i64 0, .int .i64 0, .int .i64 0, .int .i64 0, .int .i64 0, .int .i64 0] 189)) (Nat.le_refl wr.heap.size) ((lastT l l.length).map (Value.int .i64)).toArray
        refine ⟨?_, v1, F.out.keep hb, S.out.trans (Spared.below hb), (HB.out _ rfl).2.2.2⟩
        unfold IntsAt
        exact setRow_heap _ _ _ _ _ _ (heap_alloc_new _ _))
      obtain ⟨hb2g, hbB, hbW, _⟩ := HB.out _ rfl
      have z1 := (F.out.keep (below_setRow (balloc (Below.refl _ wr) (.cells #[.int .i64 0, .int .i64 0, .int .i64 0, .int .i64 0, .int .i64 0, .int .i64 0, .int .i64 0, .int .i64 0, .int .i64 0, .int .i64 0, .int .i64 0, .int .i64 0, .int .i64 0, .int .i64 0, .int .i64 0, .int .i64 0, .int .i64 0, .int .i64 0, .int .i64 0, .int .i64 0, .int .i64 0, .int .i64 0, .int .i64 0, .int .i64 0, .int .i64 0, .int .i64 0, .int .i64 0, .int .i64 0, .int .i64 0, .int .i64 0, .int .i64 0, .int .i64 0] 189)) (Nat.le_refl wr.heap.size) ((lastT l l.length).map (Value.int .i64)).toArray)).c0
      clear F S HB z0 HI2 hbw hgw1
      generalize hW : World.setRow _ _ _ = W at O2 z1 ⊢
      clear hW
      generalize wr.heap.size = b2 at *
      go_wp2
      go_loopg [40] l.length (fun gk v40 wr => ∃ j : Nat, j ≤ l.length ∧ v40 = .int .i64 j ∧ Hid (gk + j = l.length) ∧ Hid (OnceAt w0 B g cap A l t v (out ++ arndE l t j) b2 (openT l j) w wr))
      case atStart => exact ⟨0, by omega, rfl, by exact Nat.add_zero _, hid (by unfold arndE; rw [List.append_nil]; exact O2.out)⟩
      case round =>
        obtain ⟨j, hj, rfl, hgk, HO⟩ := hrel
        clear O2 z1
        by_cases hj2 : j < l.length
        · have z0 := HO.out.2
          obtain ⟨_, F0, _⟩ := z0
          have z0 := F0.c0
          clear F0
          go_wp2
          go_loopg [48] l.length (fun gi v48 wx => ∃ i : Nat, i ≤ l.length ∧ v48 = .int .i64 i ∧ Hid (gi + i = l.length) ∧ Hid (OnceAt w0 B g cap A l t v (out ++ (arndE l t j ++ arndJ l t j i)) b2 (openT l j) w wx))
          case atStart => exact ⟨0, by omega, rfl, by exact Nat.add_zero _, hid (by unfold arndJ; rw [List.append_nil]; exact HO.out)⟩
          case round =>
            obtain ⟨i, hi, rfl, hgi, HI⟩ := hrel
            clear HO z0
            by_cases hil : i < l.length
            · skip
              obtain ⟨I1, v1, F1, S1, N1⟩ := HI.out
              have ES := hid (stepE_eq hil hj2 t (openT l j) 1 (roundL l i j))
              have hlo : Hid ((out ++ (arndE l t j ++ arndJ l t j i)).length ≤ 20000000) := hid (by
                have := arndE_len l t j hm
                have := arndJ_len l t j i
                simp only [List.length_append]
                omega)
              have EJ : Hid (arndJ l t j (i + 1) = arndJ l t j i ++ stepE l t (openT l j) 1 i j (roundL l i j)) := hid rfl
              have F := hid F1
              have I := hid I1
              have LT : Hid ((openT l j).length = 32) := hid (openT_len l j)
              clear I1 F1 S1 N1
              go_wp2_with fail
              with_reducible refine (CF.out _ _ _ F.out i j hil hj2 _ _ I.out LT.out).mono ?_
              rintro e w1 ⟨rfl, hb⟩
              have O1 := hid (HI.out.below hb)
              clear hb HI F I
              obtain ⟨c, hc⟩ : ∃ c, fromB (openT l j) l[j] i = c := ⟨_, rfl⟩
              rw [hc]
              have TE : Hid (trueE t (openT l j) l[i] l[j] i j 1 = if c then [Edge.mk i j (latE t l[i]) 1 0] else []) := hid (by unfold trueE; rw [hc])
              clear hc
              generalize hE0 : trueE t (openT l j) l[i] l[j] i j 1 = E0 at ES TE
              clear hE0
              generalize hO1 : out ++ (arndE l t j ++ arndJ l t j i) = out1 at O1 hlo
              have HO1 := hid hO1
              clear hO1
              go_upto_if 54 with (fail)
              go_cut [] (fun wx => Hid (OnceAt w0 B g cap A l t v (out1 ++ E0) b2 (openT l j) w wx))
              case first =>
                cases c with
                | true =>
                  obtain ⟨_, v1, F1, _, _⟩ := O1.out
                  have F := hid F1
                  clear F1
                  go_wp2_with fail
                  with_reducible refine (CL.out _ _ _ F.out i hil).mono ?_
                  rintro e w3 ⟨rfl, hb⟩
                  have O3 := hid (O1.out.below hb)
                  clear hb O1 F
                  obtain ⟨I3, v3, F3, S3, N3⟩ := O3.out
                  have F := hid F3
                  have I := hid I3
                  have S := hid S3
                  have N := hid N3
                  have hlo2 := hlo.out
                  clear I3 F3 S3 N3
                  go_wp2_with fail
                  with_reducible refine (put_any (F.out.keep ?hkeep) _ ⟨0, 0, latE t l[i], 0, 0⟩ (new_edge _ _ _ _ _ ?hn ?hc) _ _ _ ?ho).mono ?_
                  case hkeep => ((with_reducible (repeat (first | assumption | exact Below.refl _ _ | refine bset ?_ (Nat.le_refl _) _ | refine balloc ?_ _ | refine bdrew ?_ | refine bdrewN ?_ _))); done)
                  case hn => first | rfl | simp
                  case hc => rfl
                  case ho => omega
                  rintro e w2 ⟨v2, rfl, F2, S2⟩
                  have O4 : Hid (OnceAt w0 B g cap A l t v (out1 ++ E0) b2 (openT l j) w w2) := hid (by
                    rw [TE.out]
                    exact OnceAt.emit (I.out.keep (by ((with_reducible (repeat (first | assumption | exact Below.refl _ _ | refine bset ?_ (Nat.le_refl _) _ | refine balloc ?_ _ | refine bdrew ?_ | refine bdrewN ?_ _))); done))) (S.out.trans (Spared.below (by ((with_reducible (repeat (first | assumption | exact Below.refl _ _ | refine bset ?_ (Nat.le_refl _) _ | refine balloc ?_ _ | refine bdrew ?_ | refine bdrewN ?_ _))); done)))) N.out hb2g F2 S2)
                  clear F2 S2 O3 F I S N
                  go_wp2
                  go_meet
                  case rel => exact O4
                | false =>
                  have O4 : Hid (OnceAt w0 B g cap A l t v (out1 ++ E0) b2 (openT l j) w w1) := hid (by
                    rw [TE.out, if_neg (by decide), List.append_nil]
                    exact O1.out)
                  go_wp2
                  go_meet
                  case rel => exact O4
              case rest =>
                have O4 := hcut
                have LE : Hid ((out1 ++ E0).length ≤ 20000001) := hid (by
                  have := if_len c (Edge.mk i j (latE t l[i]) 1 0)
                  have := hlo.out
                  rw [List.length_append, TE.out]
                  omega)
                clear hcut O1 TE hlo
                obtain ⟨_, v1, F1, _, _⟩ := O4.out
                have z0 := F1.c0
                have FB := hid F1.bel
                clear F1
                go_wp2_with fail
                with_reducible refine (CM.out _ FB.out _ _).mono ?_
                rintro e w3 ⟨rfl, hb⟩
                have O5 := hid (O4.out.below hb)
                clear hb O4 z0 FB
                obtain ⟨I3, v3, F3, S3, N3⟩ := O5.out
                have F := hid F3
                have I := hid I3
                have S := hid S3
                have N := hid N3
                clear I3 F3 S3 N3
                generalize hme : roundL l i j = me at ES EJ
                go_wp2_with fail
                with_reducible refine (CP.out _ _ _ F.out i j hil hj2 1 me ?_).mono ?_
                · have := LE.out; omega
                rintro e w4 ⟨v4, rfl, F4, S4⟩
                have O6 : Hid (OnceAt w0 B g cap A l t v (out ++ (arndE l t j ++ arndJ l t j (i + 1))) b2 (openT l j) w w4) := hid (by
                  rw [EJ.out, ES.out, ← List.append_assoc, ← List.append_assoc, ← List.append_assoc, List.append_assoc out, HO1.out]
                  exact OnceAt.emit I.out S.out N.out hb2g F4 S4)
                clear F4 S4 O5 F I S N
                go_wp2
                go_roundg (l.length - (i + 1))
                case measure => have := hgi.out; omega
                case rel => exact ⟨i + 1, by omega, by go_num, by show _ + _ = _; omega, O6⟩
            · obtain rfl : i = l.length := by omega
              obtain ⟨I1, v1, F1, S1, N1⟩ := HI.out
              obtain ⟨Ar, cr, Ad, cd, _, h15, hr⟩ := F1.rd
              obtain ⟨_, gd, rfl, _, _, hdj⟩ := hr j l[j] (List.getElem?_eq_getElem hj2)
              have EO : Hid (arndE l t (j + 1) = arndE l t j ++ arndJ l t j l.length) := hid rfl
              have hb2 : b2 < wr.heap.size := I1.lt
              have hfz : ∀ k, wr.frozen? ⟨b2, k, none⟩ = false := fun k => I1.frozen k
              have WFI := hid (HWF.out l[j] (List.getElem_mem hj2))
              cases hwb : wrB l[j] with
              | true =>
                obtain ⟨dy0, dy1⟩ := dN_bd WFI.out
                have hdd := dN_yes hwb
                have hd0 := WFI.out.d0
                obtain ⟨y, hy⟩ : ∃ y : Nat, l[j].d = y := ⟨l[j].d.toNat, by omega⟩
                have ET : Hid (openT l (j + 1) = (openT l j).set y 0) := hid (by
                  rw [openT, List.getElem?_eq_getElem hj2]
                  simp only [hwb, if_true, hy, Int.toNat_natCast])
                rw [hdd, hy] at hdj
                have hy32 : y < 32 := by omega
                obtain ⟨ty, hty⟩ : ∃ ty, wr.cell? ⟨b2, y, none⟩ = some ty := ⟨_, I1.cell y (by rw [openT_len]; exact hy32)⟩
                have O7 := hid (HI.out.store hbB hbW y 0)
                have hfy := hfz y
                clear I1 F1 S1 N1 hr hfz HI hdd hd0 dy0 dy1 hy
                go_wp2
                go_roundg (l.length - (j + 1))
                case measure => have := hgk.out; omega
                case rel => exact ⟨j + 1, by omega, by go_num, by show _ + _ = _; omega, hid (by rw [EO.out, ET.out]; exact O7.out)⟩
              | false =>
                have ET : Hid (openT l (j + 1) = openT l j) := hid (by
                  rw [openT, List.getElem?_eq_getElem hj2]
                  simp only [hwb, if_false, Bool.false_eq_true])
                rw [dN_no hwb] at hdj
                clear I1 F1 S1 N1 hr hfz
                go_wp2
                go_roundg (l.length - (j + 1))
                case measure => have := hgk.out; omega
                case rel => exact ⟨j + 1, by omega, by go_num, by show _ + _ = _; omega, hid (by rw [EO.out, ET.out]; exact HI.out)⟩
        · obtain rfl : j = l.length := by omega
          obtain ⟨I1, v1, F1, S1, N1⟩ := HO.out
          have z0 := F1.c0
          have FIN : Hid (EmitP w0 B g cap A l t v out (arndE l t l.length) w (.returned (.tuple #[])) wr) := hid ⟨v1, rfl, F1, S1⟩
          clear I1 F1 S1 N1
          go_wp2
          exact bodyPost_ret (v := .tuple #[]) (by simp [results, Try.results96, go_sem]) rfl FIN.out
end Go.Proofs.Ytcibkoodnfkogaa
