/- The finder's around. -/
import Derived.Test.YtcibkoodnfkogaaY11
import Derived.Great.BuildSlice
import Derived.Test.YtcibkoodnfkogaaY8
namespace Go.Proofs.Ytcibkoodnfkogaa
open Go.RowKit
set_option linter.unusedVariables false
set_option linter.unusedSimpArgs false
section
open Go.RowKit
theorem info32 : (Try.prog.info? 189).map (·.size) = some 32 := by kernel_rfl
set_option maxHeartbeats 4000000 in
set_option maxRecDepth 100000 in
theorem around_any {w0 w : World} {B g cap : Nat} {A : Option Addr} {l : List Op} {t : List Int} {v : Value} {out : List Edge} (h : FindAt w0 w B g A cap l t v out) (HL : OpsIn w0 A l) (hwf : ∀ o ∈ l, o.wf) (hm : l.length ≤ 1024) (ho : out.length ≤ 10000000) (hlat : ∀ c : Nat, c < 4 → 1 ≤ t[4 + c]?.getD 0 ∧ t[4 + c]?.getD 0 ≤ 8) :
    Calls Try.prog 96 #[.pointer (some ⟨g, 0, none⟩)] w (EmitP w0 B g cap A l t v out (arndE l t l.length) w) := by
  have CF := hid (fun (w : World) (v' : Value) (out' : List Edge) (F : FindAt w0 w B g A cap l t v' out') (i j : Nat) (hi : i < l.length) (hj : j < l.length) (gt : Nat) (T : List Int) (hT : IntsAt w gt 189 T) (hTl : T.length = 32) => from_any F i j hi hj hm (hwf l[j] (List.getElem_mem hj)) gt T hT hTl)
  have CL := hid (fun (w : World) (v' : Value) (out' : List Edge) (F : FindAt w0 w B g A cap l t v' out') (i : Nat) (hi : i < l.length) => lat_any F HL i hi hm)
  have CM := hid (fun (w : World) (hb : Below w0.heap.size w0 w) (i j : Int) => Round_any A l cap i j w (HL.keep hb) hwf (by omega))
  have CP := hid (fun (w : World) (v' : Value) (out' : List Edge) (F : FindAt w0 w B g A cap l t v' out') (i j : Nat) (hi : i < l.length) (hj : j < l.length) (ds : Int) (m : Bool) (ho : out'.length ≤ 90000000) => pair_any F HL hwf i j hi hj hm ds m ho hlat)
  have HWF := hid hwf
  have hgw := h.gw
  have hBw := h.Bw
  have hgB := h.gB
  have H := hid h
  have c0 := h.c0
  clear h HL hwf hlat
  go_enter Try.func96, Try.ntmps96
  go_wp2
  go_loopg [12] l.length (fun gk v12 wr => ∃ i : Nat, i ≤ l.length ∧ v12 = .int .i64 i ∧ Hid (gk + i = l.length) ∧ Hid (OnceAt w0 B g cap A l t v out w.heap.size (lastT l i) w wr))
  case atStart =>
    refine ⟨0, by omega, rfl, by exact Nat.add_zero _, hid ⟨IntsAt.new _ _ _ _ _ rfl rfl, v, ?_, Spared.below (by ((with_reducible (repeat (first | assumption | exact Below.refl _ _ | refine bset ?_ (Nat.le_refl _) _ | refine balloc ?_ _ | refine bdrew ?_ | refine bdrewN ?_ _))); done)), ?_⟩⟩
    · exact H.out.keep (balloc (Below.refl _ w) _)
    · intro e
      have := (H.out.own.lt _ e.symm).2
      omega
  case round =>
    obtain ⟨i, hi, rfl, hgk, HI⟩ := hrel
    by_cases hj2 : i < l.length
    · clear c0
      obtain ⟨I1, v1, F1, S1, N1⟩ := HI.out
      obtain ⟨Ar, cr, Ad, cd, _, h15, hr⟩ := F1.rd
      obtain ⟨_, gd, rfl, _, _, hdj⟩ := hr i l[i] (List.getElem?_eq_getElem hj2)
      have hb2 : w.heap.size < wr.heap.size := I1.lt
      have hfz : ∀ k, wr.frozen? ⟨w.heap.size, k, none⟩ = false := fun k => I1.frozen k
      have WFI := hid (HWF.out l[i] (List.getElem_mem hj2))
      cases hwb : wrB l[i] with
      | true =>
        obtain ⟨dy0, dy1⟩ := dN_bd WFI.out
        have hdd := dN_yes hwb
        have hd0 := WFI.out.d0
        obtain ⟨y, hy⟩ : ∃ y : Nat, l[i].d = y := ⟨l[i].d.toNat, by omega⟩
        have ET : Hid (lastT l (i + 1) = (lastT l i).set y ((i : Int) + 1)) := hid (by
          rw [lastT, List.getElem?_eq_getElem hj2]
          simp only [hwb, if_true, hy, Int.toNat_natCast])
        rw [hdd, hy] at hdj
        have hy32 : y < 32 := by omega
        obtain ⟨ty, hty⟩ : ∃ ty, wr.cell? ⟨w.heap.size, y, none⟩ = some ty := ⟨_, I1.cell y (by rw [lastT_len]; exact hy32)⟩
        have O7 := hid (HI.out.store hBw (Nat.le_refl _) y ((i : Int) + 1))
        have hfy := hfz y
        clear I1 F1 S1 N1 hr hfz HI hdd hd0 dy0 dy1 hy
        go_wp2
        go_roundg (l.length - (i + 1))
        case measure => have := hgk.out; omega
        case rel => exact ⟨i + 1, by omega, by go_num, by show _ + _ = _; omega, hid (by rw [ET.out]; exact O7.out)⟩
      | false =>
        have ET : Hid (lastT l (i + 1) = lastT l i) := hid (by
          rw [lastT, List.getElem?_eq_getElem hj2]
          simp only [hwb, if_false, Bool.false_eq_true])
        rw [dN_no hwb] at hdj
        clear I1 F1 S1 N1 hr hfz
        go_wp2
        go_roundg (l.length - (i + 1))
        case measure => have := hgk.out; omega
        case rel => exact ⟨i + 1, by omega, by go_num, by show _ + _ = _; omega, hid (by rw [ET.out]; exact HI.out)⟩
    · obtain rfl : i = l.length := by omega
      obtain ⟨I1, v1, F1, S1, N1⟩ := HI.out
      have HI2 := hid I1
      have hbw : w.heap.size < wr.heap.size := I1.lt
      have z0 := F1.c0
      have hgw1 := F1.gw
      have LT : Hid ((lastT l l.length).length = 32) := hid (lastT_len l l.length)
      have HB : Hid (∀ b : Nat, b = wr.heap.size → b ≠ g ∧ B ≤ b ∧ w.heap.size ≤ b ∧ some b ≠ v1.ownBlock) := hid fun b e => by
        have := F1.Bw
        refine ⟨by omega, by omega, by omega, fun e2 => ?_⟩
        have := (F1.own.lt _ e2.symm).2
        omega
      have F := hid F1
      have S := hid S1
      clear I1 F1 S1 N1 HI H c0 hgk
      go_upto_region 8 with (first | (refine wpList_load_row rfl 189 (.tmp 2) (by rfl) w.heap.size (by rfl) 189 ((lastT l l.length).map (Value.int .i64)).toArray (0, 0) _ HI2.out Try.underlying189 (by rfl) ?li ?_) | (with_reducible refine wpList_store_rowTo rfl 189 _ _ rfl rfl wr.heap.size ((lastT l l.length).map (Value.int .i64)).toArray ?hx ?hy 189 ?old ?hg ?hi ?hold ?h1 ?_))
      case li => rw [List.size_toArray, List.length_map, LT.out]; exact info32
      case hx => rfl
      case hy => rfl
      case hg => exact heap_alloc_new _ _
      case hi => rw [List.size_toArray, List.length_map, LT.out]; exact info32
      case hold => show (32 : Nat) = _; rw [List.size_toArray, List.length_map, LT.out]
      case h1 => exact all_oneCell_toArray (ints_ok _)
      have O2 : Hid (OnceAt w0 B g cap A l t v out wr.heap.size (lastT l l.length) w ((wr.alloc (.cells #[.int .i64 0, .int .i64 0, .int .i64 0, .int .i64 0, .int .i64 0, .int .i64 0, .int .i64 0, .int .i64 0, .int .i64 0, .int .i64 0, .int .i64 0, .int .i64 0, .int .i64 0, .int .i64 0, .int .i64 0, .int .i64 0, .int .i64 0, .int .i64 0, .int .i64 0, .int .i64 0, .int .i64 0, .int .i64 0, .int .i64 0, .int .i64 0, .int .i64 0, .int .i64 0, .int .i64 0, .int .i64 0, .int .i64 0, .int .i64 0, .int .i64 0, .int .i64 0] 189)).setRow wr.heap.size ((lastT l l.length).map (Value.int .i64)).toArray)) := hid (by
        have hb := below_setRow (balloc (Below.refl _ wr) (.cells #[.int .i64 0, .int .i64 0, .int .i64 0, .int .i64 0, .int .i64 0, .int .i64 0, .int .i64 0, .int .i64 0, .int .i64 0, .int .i64 0, .int .i64 0, .int .i64 0, .int .i64 0, .int .i64 0, .int .i64 0, .int .i64 0, .int .i64 0, .int .i64 0, .int .i64 0, .int .i64 0, .int .i64 0, .int .i64 0, .int .i64 0, .int .i64 0, .int .i64 0, .int .i64 0, .int .i64 0, .int .i64 0, .int .i64 0, .int .i64 0, .int .i64 0, .int .i64 0] 189)) (Nat.le_refl wr.heap.size) ((lastT l l.length).map (Value.int .i64)).toArray
        refine ⟨?_, v1, F.out.keep hb, S.out.trans (Spared.below hb), (HB.out _ rfl).2.2.2⟩
        unfold IntsAt
        exact setRow_heap _ _ _ _ _ _ (heap_alloc_new _ _))
      obtain ⟨hb2g, hbB, hbW, _⟩ := HB.out _ rfl
      have z1 := (F.out.keep (below_setRow (balloc (Below.refl _ wr) (.cells #[.int .i64 0, .int .i64 0, .int .i64 0, .int .i64 0, .int .i64 0, .int .i64 0, .int .i64 0, .int .i64 0, .int .i64 0, .int .i64 0, .int .i64 0, .int .i64 0, .int .i64 0, .int .i64 0, .int .i64 0, .int .i64 0, .int .i64 0, .int .i64 0, .int .i64 0, .int .i64 0, .int .i64 0, .int .i64 0, .int .i64 0, .int .i64 0, .int .i64 0, .int .i64 0, .int .i64 0, .int .i64 0, .int .i64 0, .int .i64 0, .int .i64 0, .int .i64 0] 189)) (Nat.le_refl wr.heap.size) ((lastT l l.length).map (Value.int .i64)).toArray)).c0
      clear F S HB z0 HI2 hbw hgw1
      generalize hW : World.setRow _ _ _ = W at O2 z1 ⊢
      clear hW
      generalize wr.heap.size = b2 at *
      go_wp2
      go_loopg [40] l.length (fun gk v40 wr => ∃ j : Nat, j ≤ l.length ∧ v40 = .int .i64 j ∧ Hid (gk + j = l.length) ∧ Hid (OnceAt w0 B g cap A l t v (out ++ arndE l t j) b2 (openT l j) w wr))
      case atStart => exact ⟨0, by omega, rfl, by exact Nat.add_zero _, hid (by unfold arndE; rw [List.append_nil]; exact O2.out)⟩
      case round =>
        obtain ⟨j, hj, rfl, hgk, HO⟩ := hrel
        clear O2 z1
        by_cases hj2 : j < l.length
        · have z0 := HO.out.2
          obtain ⟨_, F0, _⟩ := z0
          have z0 := F0.c0
          clear F0
          go_wp2
          go_loopg [48] l.length (fun gi v48 wx => ∃ i : Nat, i ≤ l.length ∧ v48 = .int .i64 i ∧ Hid (gi + i = l.length) ∧ Hid (OnceAt w0 B g cap A l t v (out ++ (arndE l t j ++ arndJ l t j i)) b2 (openT l j) w wx))
          case atStart => exact ⟨0, by omega, rfl, by exact Nat.add_zero _, hid (by unfold arndJ; rw [List.append_nil]; exact HO.out)⟩
          case round =>
            obtain ⟨i, hi, rfl, hgi, HI⟩ := hrel
            clear HO z0
            by_cases hil : i < l.length
            · skip
              obtain ⟨I1, v1, F1, S1, N1⟩ := HI.out
              have ES := hid (stepE_eq hil hj2 t (openT l j) 1 (roundL l i j))
              have hlo : Hid ((out ++ (arndE l t j ++ arndJ l t j i)).length ≤ 20000000) := hid (by
                have := arndE_len l t j hm
                have := arndJ_len l t j i
                simp only [List.length_append]
                omega)
              have EJ : Hid (arndJ l t j (i + 1) = arndJ l t j i ++ stepE l t (openT l j) 1 i j (roundL l i j)) := hid rfl
              have F := hid F1
              have I := hid I1
              have LT : Hid ((openT l j).length = 32) := hid (openT_len l j)
              clear I1 F1 S1 N1
              go_wp2_with fail
              with_reducible refine (CF.out _ _ _ F.out i j hil hj2 _ _ I.out LT.out).mono ?_
              rintro e w1 ⟨rfl, hb⟩
              have O1 := hid (HI.out.below hb)
              clear hb HI F I
              obtain ⟨c, hc⟩ : ∃ c, fromB (openT l j) l[j] i = c := ⟨_, rfl⟩
              rw [hc]
              have TE : Hid (trueE t (openT l j) l[i] l[j] i j 1 = if c then [Edge.mk i j (latE t l[i]) 1 0] else []) := hid (by unfold trueE; rw [hc])
              clear hc
              generalize hE0 : trueE t (openT l j) l[i] l[j] i j 1 = E0 at ES TE
              clear hE0
              generalize hO1 : out ++ (arndE l t j ++ arndJ l t j i) = out1 at O1 hlo
              have HO1 := hid hO1
              clear hO1
              go_upto_if 54 with (fail)
              go_cut [] (fun wx => Hid (OnceAt w0 B g cap A l t v (out1 ++ E0) b2 (openT l j) w wx))
              case first =>
                cases c with
                | true =>
                  obtain ⟨_, v1, F1, _, _⟩ := O1.out
                  have F := hid F1
                  clear F1
                  go_wp2_with fail
                  with_reducible refine (CL.out _ _ _ F.out i hil).mono ?_
                  rintro e w3 ⟨rfl, hb⟩
                  have O3 := hid (O1.out.below hb)
                  clear hb O1 F
                  obtain ⟨I3, v3, F3, S3, N3⟩ := O3.out
                  have F := hid F3
                  have I := hid I3
                  have S := hid S3
                  have N := hid N3
                  have hlo2 := hlo.out
                  clear I3 F3 S3 N3
                  go_wp2_with fail
                  with_reducible refine (put_any (F.out.keep ?hkeep) _ ⟨0, 0, latE t l[i], 0, 0⟩ (new_edge _ _ _ _ _ ?hn ?hc) _ _ _ ?ho).mono ?_
                  case hkeep => ((with_reducible (repeat (first | assumption | exact Below.refl _ _ | refine bset ?_ (Nat.le_refl _) _ | refine balloc ?_ _ | refine bdrew ?_ | refine bdrewN ?_ _))); done)
                  case hn => first | rfl | simp
                  case hc => rfl
                  case ho => omega
                  rintro e w2 ⟨v2, rfl, F2, S2⟩
                  have O4 : Hid (OnceAt w0 B g cap A l t v (out1 ++ E0) b2 (openT l j) w w2) := hid (by
                    rw [TE.out]
                    exact OnceAt.emit (I.out.keep (by ((with_reducible (repeat (first | assumption | exact Below.refl _ _ | refine bset ?_ (Nat.le_refl _) _ | refine balloc ?_ _ | refine bdrew ?_ | refine bdrewN ?_ _))); done))) (S.out.trans (Spared.below (by ((with_reducible (repeat (first | assumption | exact Below.refl _ _ | refine bset ?_ (Nat.le_refl _) _ | refine balloc ?_ _ | refine bdrew ?_ | refine bdrewN ?_ _))); done)))) N.out hb2g F2 S2)
                  clear F2 S2 O3 F I S N
                  go_wp2
                  go_meet
                  case rel => exact O4
                | false =>
                  have O4 : Hid (OnceAt w0 B g cap A l t v (out1 ++ E0) b2 (openT l j) w w1) := hid (by
                    rw [TE.out, if_neg (by decide), List.append_nil]
                    exact O1.out)
                  go_wp2
                  go_meet
                  case rel => exact O4
              case rest =>
                have O4 := hcut
                have LE : Hid ((out1 ++ E0).length ≤ 20000001) := hid (by
                  have := if_len c (Edge.mk i j (latE t l[i]) 1 0)
                  have := hlo.out
                  rw [List.length_append, TE.out]
                  omega)
                clear hcut O1 TE hlo
                obtain ⟨_, v1, F1, _, _⟩ := O4.out
                have z0 := F1.c0
                have FB := hid F1.bel
                clear F1
                go_wp2_with fail
                with_reducible refine (CM.out _ FB.out _ _).mono ?_
                rintro e w3 ⟨rfl, hb⟩
                have O5 := hid (O4.out.below hb)
                clear hb O4 z0 FB
                obtain ⟨I3, v3, F3, S3, N3⟩ := O5.out
                have F := hid F3
                have I := hid I3
                have S := hid S3
                have N := hid N3
                clear I3 F3 S3 N3
                generalize hme : roundL l i j = me at ES EJ
                go_wp2_with fail
                with_reducible refine (CP.out _ _ _ F.out i j hil hj2 1 me ?_).mono ?_
                · have := LE.out; omega
                rintro e w4 ⟨v4, rfl, F4, S4⟩
                have O6 : Hid (OnceAt w0 B g cap A l t v (out ++ (arndE l t j ++ arndJ l t j (i + 1))) b2 (openT l j) w w4) := hid (by
                  rw [EJ.out, ES.out, ← List.append_assoc, ← List.append_assoc, ← List.append_assoc, List.append_assoc out, HO1.out]
                  exact OnceAt.emit I.out S.out N.out hb2g F4 S4)
                clear F4 S4 O5 F I S N
                go_wp2
                go_roundg (l.length - (i + 1))
                case measure => have := hgi.out; omega
                case rel => exact ⟨i + 1, by omega, by go_num, by show _ + _ = _; omega, O6⟩
            · obtain rfl : i = l.length := by omega
              obtain ⟨I1, v1, F1, S1, N1⟩ := HI.out
              obtain ⟨Ar, cr, Ad, cd, _, h15, hr⟩ := F1.rd
              obtain ⟨_, gd, rfl, _, _, hdj⟩ := hr j l[j] (List.getElem?_eq_getElem hj2)
              have EO : Hid (arndE l t (j + 1) = arndE l t j ++ arndJ l t j l.length) := hid rfl
              have hb2 : b2 < wr.heap.size := I1.lt
              have hfz : ∀ k, wr.frozen? ⟨b2, k, none⟩ = false := fun k => I1.frozen k
              have WFI := hid (HWF.out l[j] (List.getElem_mem hj2))
              cases hwb : wrB l[j] with
              | true =>
                obtain ⟨dy0, dy1⟩ := dN_bd WFI.out
                have hdd := dN_yes hwb
                have hd0 := WFI.out.d0
                obtain ⟨y, hy⟩ : ∃ y : Nat, l[j].d = y := ⟨l[j].d.toNat, by omega⟩
                have ET : Hid (openT l (j + 1) = (openT l j).set y 0) := hid (by
                  rw [openT, List.getElem?_eq_getElem hj2]
                  simp only [hwb, if_true, hy, Int.toNat_natCast])
                rw [hdd, hy] at hdj
                have hy32 : y < 32 := by omega
                obtain ⟨ty, hty⟩ : ∃ ty, wr.cell? ⟨b2, y, none⟩ = some ty := ⟨_, I1.cell y (by rw [openT_len]; exact hy32)⟩
                have O7 := hid (HI.out.store hbB hbW y 0)
                have hfy := hfz y
                clear I1 F1 S1 N1 hr hfz HI hdd hd0 dy0 dy1 hy
                go_wp2
                go_roundg (l.length - (j + 1))
                case measure => have := hgk.out; omega
                case rel => exact ⟨j + 1, by omega, by go_num, by show _ + _ = _; omega, hid (by rw [EO.out, ET.out]; exact O7.out)⟩
              | false =>
                have ET : Hid (openT l (j + 1) = openT l j) := hid (by
                  rw [openT, List.getElem?_eq_getElem hj2]
                  simp only [hwb, if_false, Bool.false_eq_true])
                rw [dN_no hwb] at hdj
                clear I1 F1 S1 N1 hr hfz
                go_wp2
                go_roundg (l.length - (j + 1))
                case measure => have := hgk.out; omega
                case rel => exact ⟨j + 1, by omega, by go_num, by show _ + _ = _; omega, hid (by rw [EO.out, ET.out]; exact HI.out)⟩
        · obtain rfl : j = l.length := by omega
          obtain ⟨I1, v1, F1, S1, N1⟩ := HO.out
          have z0 := F1.c0
          have FIN : Hid (EmitP w0 B g cap A l t v out (arndE l t l.length) w (.returned (.tuple #[])) wr) := hid ⟨v1, rfl, F1, S1⟩
          clear I1 F1 S1 N1
          go_wp2
          exact bodyPost_ret (v := .tuple #[]) (by simp [results, Try.results96, go_sem]) rfl FIN.out
end
/- The document's Reads. -/
section
open Go.RowKit
theorem u8_info : ∃ i z, Try.prog.info? 5 = some i ∧ i.zero = some z ∧ i.size = 1 ∧ i.bytes = 1 ∧ z.cells.size = 1 := by
  have h : (Try.prog.info? 5).map (fun i => (i.zero.map (·.cells.size), i.size, i.bytes)) = some (some 1, 1, 1) := by kernel_rfl
  cases hi : Try.prog.info? 5 with
  | none => rw [hi] at h; cases h
  | some i =>
    rw [hi] at h
    cases hz : i.zero with
    | none => simp [hz] at h
    | some z =>
      simp [hz] at h
      exact ⟨i, z, rfl, hz, h.2.1, h.2.2, h.1⟩
theorem own_u8 {w : World} {base : Nat} {e : TypeId} {v : Value} {l : List Int} (h : w.ownsRow base e 1 v l.length (l.map (Value.int .u8))) : ∃ (A : Option Addr) (c : Nat), v = .slice A l.length c ∧ U8At w A l base := by
  rcases h.2 with ⟨he, h0⟩ | ⟨k, cap, cur, he, hbg, hk, hrest⟩
  · have : l = [] := List.eq_nil_of_length_eq_zero h0
    subst this
    exact ⟨none, 0, he, fun h => absurd rfl h⟩
  · subst he
    refine ⟨_, cap, rfl, fun _ => ⟨k, 0, rfl, hbg, (Array.getElem?_eq_some_iff.1 hk).1, fun i x hi => ?_⟩⟩
    have hil := (List.getElem?_eq_some_iff.1 hi).1
    rw [Nat.zero_add, h.cellAt i (by omega)]
    simp [hi]
theorem rrd_no (o : Op) (w : World) (hc : chk o = false) : Calls Try.prog 120 #[o.val] w (RdP (rds o) w) := by
  have C1 := hid (fun w => rcheck_any o w)
  have C2 := hid (fun w => rof_any o.k w)
  have HC : Hid (chkE o = 30) := hid (by unfold chkE; rw [hc]; rfl)
  rw [rds_no hc]
  obtain ⟨k, d, a, b, n⟩ := o
  generalize hs : shp k = s at C2
  clear hs hc
  go_enter Try.func120, Try.ntmps120
  go_wp2_with fail
  with_reducible refine (C2.out _).mono ?_
  rintro e w1 ⟨rfl, hb⟩
  have B1 := hid (btrans (a := w) (by ((with_reducible (repeat (first | assumption | exact Below.refl _ _ | refine bset ?_ (Nat.le_refl _) _ | refine balloc ?_ _ | refine bdrew ?_ | refine bdrewN ?_ _))); done)) hb)
  obtain ⟨hc1, hf1⟩ := bcell hb
  have hz := bsize hb
  clear hb
  go_wp2_with fail
  with_reducible refine (C1.out _).mono ?_
  rintro e w2 ⟨rfl, hb⟩
  rw [HC.out]
  have B2 := hid (btrans (balloc B1.out _) hb)
  clear hb
  go_wp2
  go_ret
  exact ⟨none, 0, rfl, fun h => absurd rfl h, B2.out⟩
set_option maxHeartbeats 4000000 in
set_option maxRecDepth 100000 in
theorem rrd_yes (o : Op) (w : World) (hc : chk o = true) : Calls Try.prog 120 #[o.val] w (RdP (rds o) w) := by
  have C1 := hid (fun w => rcheck_any o w)
  have C2 := hid (fun w => rof_any o.k w)
  have HC : Hid (chkE o = 0) := hid (by unfold chkE; rw [hc]; rfl)
  rw [rds_yes hc]
  clear hc
  obtain ⟨k, d, a, b, n⟩ := o
  show Calls _ _ _ _ (RdP (if (shp k).a && (shp k).b && a != b then [a, b] else if (shp k).a then [a] else if (shp k).b then [b] else []) w)
  generalize hs : shp k = s at C2 ⊢
  clear hs
  obtain ⟨nm, cl, sd, sa, sb, sn, si, is⟩ := s
  show Calls _ _ _ _ (RdP (if sa && sb && a != b then [a, b] else if sa then [a] else if sb then [b] else []) w)
  obtain ⟨L, hL⟩ : ∃ L, (if sa && sb && a != b then [a, b] else if sa then [a] else if sb then [b] else []) = L := ⟨_, rfl⟩
  rw [hL]
  have HL := hid hL
  clear hL
  obtain ⟨ui, uz, hui, huz, u1, u8, uz1⟩ := u8_info
  have UI := hid hui
  have UZ := hid huz
  have U1 := hid u1
  have U8 := hid u8
  have UZ1 := hid uz1
  have UU := hid (Try.underlying187)
  clear hui huz u1 u8 uz1
  go_enter Try.func120, Try.ntmps120
  go_wp2_with fail
  with_reducible refine (C2.out _).mono ?_
  rintro e w1 ⟨rfl, hb⟩
  have B1 := hid (btrans (a := w) (by ((with_reducible (repeat (first | assumption | exact Below.refl _ _ | refine bset ?_ (Nat.le_refl _) _ | refine balloc ?_ _ | refine bdrew ?_ | refine bdrewN ?_ _))); done)) hb)
  have hc1 := (bcell hb).1
  have z2 : w1.cell? ⟨w.heap.size, 2, none⟩ = some (.int .u8 a) := by go_simp
  have z3 : w1.cell? ⟨w.heap.size, 3, none⟩ = some (.int .u8 b) := by go_simp
  have hz := bsize hb
  go_wp2_with fail
  with_reducible refine (C1.out _).mono ?_
  rintro e w2 ⟨rfl, hb2⟩
  rw [HC.out]
  have B2 := hid (btrans (balloc B1.out _) hb2)
  have hc2 := (bcell hb2).1
  have y3 : w2.cell? ⟨w1.heap.size, 3, none⟩ = some (.bool sa) := by go_simp
  have y4 : w2.cell? ⟨w1.heap.size, 4, none⟩ = some (.bool sb) := by go_simp
  replace z2 := cell_keep (cell_keep z2 (balloc (Below.refl _ w1) _)) hb2
  replace z3 := cell_keep (cell_keep z3 (balloc (Below.refl _ w1) _)) hb2
  have hz1 := bsize hb2
  have hz2 : w.heap.size < w2.heap.size := by omega
  clear hb hb2 hc1 hc2 B1
  cases sa with
  | true =>
    go_wp2_with (at_builtin; refine wpList_append_lies _ (by rfl) _ _ _ (by rfl) w2.heap.size 5 ui uz 1 1 UU.out UI.out UZ.out U1.out U8.out UZ1.out (by omega) (.slice none 0 0) 0 [] (by rfl) ?aown ⟨w2.heap.size, 0, none⟩ 1 1 [.int .u8 a] (by rfl) (by rfl) ?anews ?aone (by omega) ?a63 ?abytes ?abase _ rfl ?_)
    case aown => exact World.ownsRow_nil _ _ _ _
    case anews => exact World.news_of_block (heap_new_at _ _ _ (by simp))
    case aone => intro u hu; simp only [List.mem_cons, List.not_mem_nil, or_false] at hu; subst hu; rfl
    case a63 => unfold maxLen; omega
    case abytes => omega
    case abase => simp
    intro g3 d3 w7 hown7 hgrow7 hat hlt7
    have B7 := hid ((balloc B2.out (.cells #[.int .u8 a] 5)).grown hgrow7 (by simp; omega) (fun k hk => by cases hk))
    have q2 := hgrow7.cell (cell_keep z2 (balloc (Below.refl _ w2) (.cells #[.int .u8 a] 5))) (fun e => by cases e)
    have q3 := hgrow7.cell (cell_keep z3 (balloc (Below.refl _ w2) (.cells #[.int .u8 a] 5))) (fun e => by cases e)
    have r3 := hgrow7.cell (cell_keep y3 (balloc (Below.refl _ w2) (.cells #[.int .u8 a] 5))) (fun e => by cases e)
    have r4 := hgrow7.cell (cell_keep y4 (balloc (Below.refl _ w2) (.cells #[.int .u8 a] 5))) (fun e => by cases e)
    have OW : Hid (w7.ownsRow w2.heap.size 5 1 (.slice (some ⟨g3, 0, none⟩) 1 d3) 1 [.int .u8 a]) := hid (by simpa using hown7)
    have hz7 := hgrow7.size
    simp at hz7
    have hz8 : w.heap.size < w7.heap.size := by omega
    clear hown7 hgrow7 hat hlt7 z2 z3 y3 y4
    cases sb with
    | true =>
      cases hab : (b != a) with
      | true =>
        have hab2 : (a != b) = true := by rw [bne_iff_ne] at hab ⊢; exact fun h => hab h.symm
        have hl : L = [a, b] := by rw [← HL.out, hab2]; rfl
        subst hl
        go_wp2_with (at_builtin; refine wpList_append_lies _ (by rfl) _ _ _ (by rfl) w2.heap.size 5 ui uz 1 1 UU.out UI.out UZ.out U1.out U8.out UZ1.out (by omega) (.slice (some ⟨g3, 0, none⟩) 1 d3) 1 [.int .u8 a] (by rfl) ?bown ⟨w7.heap.size, 0, none⟩ 1 1 [.int .u8 b] (by rfl) (by rfl) ?bnews ?bone (by omega) ?b63 ?bbytes ?bbase _ rfl ?_)
        case bown => exact own_below OW.out (balloc (Below.refl _ _) _)
        case bone => first | rfl | (intro u hu; simp only [List.mem_cons, List.not_mem_nil, or_false] at hu; subst hu; rfl)
        case b63 => first | (unfold maxLen; omega) | omega
        case bbase => first | omega | (simp; omega)
        intro g5 d5 w8 hown8 hgrow8 hat hlt8
        have B8 := hid ((balloc B7.out (.cells #[.int .u8 b] 5)).grown hgrow8 (by simp; omega) (fun k hk => by have := (OW.out.lt k hk).1; omega))
        have OW8 : Hid (w8.ownsRow w2.heap.size 5 1 (.slice (some ⟨g5, 0, none⟩) [a, b].length d5) [a, b].length ([a, b].map (Value.int .u8))) := hid (by simpa using hown8)
        clear hown8 hgrow8 hat hlt8 q2 q3 r3 r4
        obtain ⟨A, c, he, hu⟩ := own_u8 OW8.out
        have HU := hid hu
        have HE := hid he
        clear hu he
        go_wp2
        go_ret
        refine ⟨A, c, ?_, HU.out.mono (Nat.le_of_lt hz2), B8.out⟩
        exact congrArg Ending.returned HE.out
      | false =>
        have hab2 : (a != b) = false := by
          unfold bne at hab ⊢
          rw [Bool.not_eq_false'] at hab ⊢
          rw [beq_iff_eq] at hab ⊢
          exact hab.symm
        have hl : L = [a] := by rw [← HL.out, hab2]; rfl
        subst hl
        obtain ⟨A, c, he, hu⟩ := own_u8 (l := [a]) OW.out
        have HU := hid hu
        have HE := hid he
        clear hu he
        go_wp2
        go_ret
        refine ⟨A, c, ?_, HU.out.mono (Nat.le_of_lt hz2), B7.out⟩
        exact congrArg Ending.returned HE.out
    | false =>
      have hl : L = [a] := by rw [← HL.out]; rfl
      subst hl
      obtain ⟨A, c, he, hu⟩ := own_u8 (l := [a]) OW.out
      have HU := hid hu
      have HE := hid he
      clear hu he
      go_wp2
      go_ret
      refine ⟨A, c, ?_, HU.out.mono (Nat.le_of_lt hz2), B7.out⟩
      exact congrArg Ending.returned HE.out
  | false =>
    cases sb with
    | true =>
      have hl : L = [b] := by rw [← HL.out]; rfl
      subst hl
      go_wp2_with (at_builtin; refine wpList_append_lies _ (by rfl) _ _ _ (by rfl) w2.heap.size 5 ui uz 1 1 UU.out UI.out UZ.out U1.out U8.out UZ1.out (by omega) (.slice none 0 0) 0 [] (by rfl) ?cown ⟨w2.heap.size, 0, none⟩ 1 1 [.int .u8 b] (by rfl) (by rfl) ?cnews ?cone (by omega) ?c63 ?cbytes ?cbase _ rfl ?_)
      case cown => exact World.ownsRow_nil _ _ _ _
      case cnews => exact World.news_of_block (heap_new_at _ _ _ (by simp))
      case cone => intro u hu; simp only [List.mem_cons, List.not_mem_nil, or_false] at hu; subst hu; rfl
      case c63 => unfold maxLen; omega
      case cbytes => omega
      case cbase => simp
      intro g3 d3 w7 hown7 hgrow7 hat hlt7
      have B7 := hid ((balloc B2.out (.cells #[.int .u8 b] 5)).grown hgrow7 (by simp; omega) (fun k hk => by cases hk))
      have OW : Hid (w7.ownsRow w2.heap.size 5 1 (.slice (some ⟨g3, 0, none⟩) [b].length d3) [b].length ([b].map (Value.int .u8))) := hid (by simpa using hown7)
      clear hown7 hgrow7 hat hlt7 z2 z3 y3 y4
      obtain ⟨A, c, he, hu⟩ := own_u8 OW.out
      have HU := hid hu
      have HE := hid he
      clear hu he
      go_wp2
      go_ret
      refine ⟨A, c, ?_, HU.out.mono (Nat.le_of_lt hz2), B7.out⟩
      exact congrArg Ending.returned HE.out
    | false =>
      have hl : L = [] := by rw [← HL.out]; rfl
      subst hl
      go_wp2
      go_ret
      exact ⟨none, 0, rfl, fun h => absurd rfl h, B2.out⟩
theorem rrd_any (o : Op) (w : World) : Calls Try.prog 120 #[o.val] w (RdP (rds o) w) := by
  cases hc : chk o with
  | false => exact rrd_no o w hc
  | true => exact rrd_yes o w hc
end
end Go.Proofs.Ytcibkoodnfkogaa
