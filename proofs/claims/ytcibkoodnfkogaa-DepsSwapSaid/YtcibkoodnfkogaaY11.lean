/- The finder's once. -/
import Derived.Test.YtcibkoodnfkogaaY10
namespace Go.Proofs.Ytcibkoodnfkogaa
open Go.RowKit
set_option linter.unusedVariables false
set_option linter.unusedSimpArgs false
theorem stepE_eq {l : List Op} {i j : Nat} (hi : i < l.length) (hj : j < l.length) (t T : List Int) (ds : Int) (m : Bool) : stepE l t T ds i j m = trueE t T l[i] l[j] i j ds ++ pairE t l[i] l[j] i j ds m := by
  unfold stepE
  rw [List.getElem?_eq_getElem hi, List.getElem?_eq_getElem hj]
/-- The finder with a table of registers of its caller's in block b. -/
def OnceAt (w0 : World) (B g cap : Nat) (A : Option Addr) (l : List Op) (t : List Int) (v : Value) (out : List Edge) (b : Nat) (T : List Int) (w wx : World) : Prop :=
  IntsAt wx b 189 T ∧ ∃ v', FindAt w0 wx B g A cap l t v' out ∧ Spared g v v' w wx ∧ some b ≠ v'.ownBlock
theorem OnceAt.below {w0 : World} {B g cap : Nat} {A : Option Addr} {l : List Op} {t : List Int} {v : Value} {out : List Edge} {b : Nat} {T : List Int} {w wx wy : World} (h : OnceAt w0 B g cap A l t v out b T w wx) (hb : Below wx.heap.size wx wy) : OnceAt w0 B g cap A l t v out b T w wy := by
  obtain ⟨h0, v', h1, h2, h3⟩ := h
  exact ⟨h0.keep hb, v', h1.keep hb, h2.trans (Spared.below hb), h3⟩
theorem OnceAt.emit {w0 : World} {B g cap : Nat} {A : Option Addr} {l : List Op} {t : List Int} {v v1 v2 : Value} {out2 : List Edge} {b : Nat} {T : List Int} {w wx wy : World} (hI : IntsAt wx b 189 T) (hs : Spared g v v1 w wx) (hb : some b ≠ v1.ownBlock) (hg : b ≠ g)
    (h : FindAt w0 wy B g A cap l t v2 out2) (hs2 : Spared g v1 v2 wx wy) : OnceAt w0 B g cap A l t v out2 b T w wy := by
  obtain ⟨k1, k2⟩ := hs2.ints hI hg hb
  exact ⟨k1, v2, h, hs.trans hs2, k2⟩
theorem FindAt.other {w0 w : World} {B g cap : Nat} {A : Option Addr} {l : List Op} {t : List Int} {v : Value} {out : List Edge} (h : FindAt w0 w B g A cap l t v out) {b : Nat} (hb : B ≤ b) (hv : some b ≠ v.ownBlock) (k : Nat) (u : Value) : FindAt w0 (w.setCell ⟨b, k, none⟩ u) B g A cap l t v out := by
  obtain ⟨Ar, cr, Ad, cd, h14, h15, hi⟩ := h.rd
  have hgB := h.gB
  have hg0 := h.g0
  have hc : ∀ c off, c < B → (w.setCell ⟨b, k, none⟩ u).cell? ⟨c, off, none⟩ = w.cell? ⟨c, off, none⟩ := fun c off hcB => World.cell?_setCell_far _ _ _ _ (by show b ≠ c; omega)
  refine ⟨h.bel.setCell (by show _ ≤ b; omega) _, hg0, hgB, by rw [World.size_setCell]; exact h.Bw, (hc _ _ hgB).trans h.c0, fun k hk => (hc _ _ hgB).trans (h.ct k hk),
    ⟨Ar, cr, Ad, cd, (hc _ _ hgB).trans h14, (hc _ _ hgB).trans h15, fun i o ho => (hi i o ho).far fun c off hcB _ => hc c off hcB⟩, (hc _ _ hgB).trans h.cv, set_frozen h.fz, h.own.1, ?_⟩
  rcases h.own.2 with hn | ⟨c, cap', cur, e, hbg, hk, rest⟩
  · exact .inl hn
  · subst e
    exact .inr ⟨c, cap', cur, rfl, hbg, by rw [heap_setCell_other _ _ _ _ (fun e => hv (congrArg some e.symm))]; exact hk, rest⟩
theorem OnceAt.store {w0 : World} {B g cap : Nat} {A : Option Addr} {l : List Op} {t : List Int} {v : Value} {out : List Edge} {b : Nat} {T : List Int} {w wx : World} (h : OnceAt w0 B g cap A l t v out b T w wx) (hb : B ≤ b) (hw : w.heap.size ≤ b) (y : Nat) (x : Int) : OnceAt w0 B g cap A l t v out b (T.set y x) w (wx.setCell ⟨b, y, none⟩ (.int .i64 x)) := by
  obtain ⟨h0, v', h1, h2, h3⟩ := h
  refine ⟨h0.set y x, v', h1.other hb h3 _ _, ⟨by rw [World.size_setCell]; exact h2.1, fun c hc hg hv => ?_⟩, h3⟩
  obtain ⟨k1, k2⟩ := h2.2 c hc hg hv
  exact ⟨by rw [heap_setCell_other _ _ _ _ (by show c ≠ b; omega)]; exact k1, k2⟩
set_option maxHeartbeats 4000000 in
set_option maxRecDepth 100000 in
theorem once_any {w0 w : World} {B g cap : Nat} {A : Option Addr} {l : List Op} {t : List Int} {v : Value} {out : List Edge} (h : FindAt w0 w B g A cap l t v out) (HL : OpsIn w0 A l) (hwf : ∀ o ∈ l, o.wf) (hm : l.length ≤ 1024) (hcap : l.length ≤ cap) (ho : out.length ≤ 10000000) (hlat : ∀ c : Nat, c < 4 → 1 ≤ t[4 + c]?.getD 0 ∧ t[4 + c]?.getD 0 ≤ 8) :
    Calls Try.prog 91 #[.pointer (some ⟨g, 0, none⟩)] w (EmitP w0 B g cap A l t v out (onceE l t l.length) w) := by
  have CF := hid (fun (w : World) (v' : Value) (out' : List Edge) (F : FindAt w0 w B g A cap l t v' out') (i j : Nat) (hi : i < l.length) (hj : j < l.length) (gt : Nat) (T : List Int) (hT : IntsAt w gt 189 T) (hTl : T.length = 32) => from_any F i j hi hj hm (hwf l[j] (List.getElem_mem hj)) gt T hT hTl)
  have CL := hid (fun (w : World) (v' : Value) (out' : List Edge) (F : FindAt w0 w B g A cap l t v' out') (i : Nat) (hi : i < l.length) => lat_any F HL i hi hm)
  have CM := hid (fun (w : World) (hb : Below w0.heap.size w0 w) (i j : Int) => Meet_any A l cap i j w (HL.keep hb) hwf (by omega) hcap)
  have CP := hid (fun (w : World) (v' : Value) (out' : List Edge) (F : FindAt w0 w B g A cap l t v' out') (i j : Nat) (hi : i < l.length) (hj : j < l.length) (ds : Int) (m : Bool) (ho : out'.length ≤ 90000000) => pair_any F HL hwf i j hi hj hm ds m ho hlat)
  have HWF := hid hwf
  have hgw := h.gw
  have hBw := h.Bw
  have hgB := h.gB
  have H := hid h
  have c0 := h.c0
  clear h HL hwf hlat
  go_enter Try.func91, Try.ntmps91
  go_wp2
  go_loopg [10] l.length (fun gk v10 wr => ∃ j : Nat, j ≤ l.length ∧ v10 = .int .i64 j ∧ Hid (gk + j = l.length) ∧ Hid (OnceAt w0 B g cap A l t v (out ++ onceE l t j) w.heap.size (lastT l j) w wr))
  case atStart =>
    refine ⟨0, by omega, rfl, by exact Nat.add_zero _, hid ⟨IntsAt.new _ _ _ _ _ rfl rfl, v, ?_, Spared.below (by ((with_reducible (repeat (first | assumption | exact Below.refl _ _ | refine bset ?_ (Nat.le_refl _) _ | refine balloc ?_ _ | refine bdrew ?_ | refine bdrewN ?_ _))); done)), ?_⟩⟩
    · have := H.out.keep (w' := _) (balloc (Below.refl _ w) (.cells #[.int .i64 0, .int .i64 0, .int .i64 0, .int .i64 0, .int .i64 0, .int .i64 0, .int .i64 0, .int .i64 0, .int .i64 0, .int .i64 0, .int .i64 0, .int .i64 0, .int .i64 0, .int .i64 0, .int .i64 0, .int .i64 0, .int .i64 0, .int .i64 0, .int .i64 0, .int .i64 0, .int .i64 0, .int .i64 0, .int .i64 0, .int .i64 0, .int .i64 0, .int .i64 0, .int .i64 0, .int .i64 0, .int .i64 0, .int .i64 0, .int .i64 0, .int .i64 0] 189))
      simpa [onceE] using this
    · intro e
      have := (H.out.own.lt _ e.symm).2
      omega
  case round =>
    obtain ⟨j, hj, rfl, hgk, HO⟩ := hrel
    by_cases hj2 : j < l.length
    · clear c0
      go_wp2
      go_loopg [14] j (fun gi v14 wx => ∃ i : Nat, i ≤ j ∧ v14 = .int .i64 i ∧ Hid (gi + i = j) ∧ Hid (OnceAt w0 B g cap A l t v (out ++ (onceE l t j ++ onceJ l t j i)) w.heap.size (lastT l j) w wx))
      case atStart => exact ⟨0, by omega, rfl, by exact Nat.add_zero _, hid (by unfold onceJ; rw [List.append_nil]; exact HO.out)⟩
      case round =>
        obtain ⟨i, hi, rfl, hgi, HI⟩ := hrel
        clear HO
        by_cases hi2 : i < j
        · have hil : i < l.length := by omega
          obtain ⟨I1, v1, F1, S1, N1⟩ := HI.out
          have ES := hid (stepE_eq hil hj2 t (lastT l j) 0 (meetL l i j))
          have hlo : Hid ((out ++ (onceE l t j ++ onceJ l t j i)).length ≤ 20000000) := hid (by
            have := onceE_len l t j (by omega)
            have := onceJ_len l t j i
            simp only [List.length_append]
            omega)
          have EJ : Hid (onceJ l t j (i + 1) = onceJ l t j i ++ stepE l t (lastT l j) 0 i j (meetL l i j)) := hid rfl
          have F := hid F1
          have I := hid I1
          have LT : Hid ((lastT l j).length = 32) := hid (lastT_len l j)
          clear I1 F1 S1 N1
          go_wp2_with fail
          with_reducible refine (CF.out _ _ _ F.out i j hil hj2 _ _ I.out LT.out).mono ?_
          rintro e w1 ⟨rfl, hb⟩
          have O1 := hid (HI.out.below hb)
          clear hb HI F I
          obtain ⟨c, hc⟩ : ∃ c, fromB (lastT l j) l[j] i = c := ⟨_, rfl⟩
          rw [hc]
          have TE : Hid (trueE t (lastT l j) l[i] l[j] i j 0 = if c then [Edge.mk i j (latE t l[i]) 0 0] else []) := hid (by unfold trueE; rw [hc])
          clear hc
          generalize hE0 : trueE t (lastT l j) l[i] l[j] i j 0 = E0 at ES TE
          clear hE0
          generalize hO1 : out ++ (onceE l t j ++ onceJ l t j i) = out1 at O1 hlo
          have HO1 := hid hO1
          clear hO1
          go_upto_if 20 with (fail)
          go_cut [] (fun wx => Hid (OnceAt w0 B g cap A l t v (out1 ++ E0) w.heap.size (lastT l j) w wx))
          case first =>
            cases c with
            | true =>
              obtain ⟨_, v1, F1, _, _⟩ := O1.out
              have F := hid F1
              clear F1
              go_wp2_with fail
              with_reducible refine (CL.out _ _ _ F.out i hil).mono ?_
              rintro e w3 ⟨rfl, hb⟩
              have O3 := hid (O1.out.below hb)
              clear hb O1 F
              obtain ⟨I3, v3, F3, S3, N3⟩ := O3.out
              have F := hid F3
              have I := hid I3
              have S := hid S3
              have N := hid N3
              have hlo2 := hlo.out
              clear I3 F3 S3 N3
              go_wp2_with fail
              with_reducible refine (put_any (F.out.keep ?hkeep) _ ⟨0, 0, latE t l[i], 0, 0⟩ (new_edge _ _ _ _ _ ?hn ?hc) _ _ _ ?ho).mono ?_
              case hkeep => ((with_reducible (repeat (first | assumption | exact Below.refl _ _ | refine bset ?_ (Nat.le_refl _) _ | refine balloc ?_ _ | refine bdrew ?_ | refine bdrewN ?_ _))); done)
              case hn => first | rfl | simp
              case hc => rfl
              case ho => omega
              rintro e w2 ⟨v2, rfl, F2, S2⟩
              have O4 : Hid (OnceAt w0 B g cap A l t v (out1 ++ E0) w.heap.size (lastT l j) w w2) := hid (by
                rw [TE.out]
                exact OnceAt.emit (I.out.keep (by ((with_reducible (repeat (first | assumption | exact Below.refl _ _ | refine bset ?_ (Nat.le_refl _) _ | refine balloc ?_ _ | refine bdrew ?_ | refine bdrewN ?_ _))); done))) (S.out.trans (Spared.below (by ((with_reducible (repeat (first | assumption | exact Below.refl _ _ | refine bset ?_ (Nat.le_refl _) _ | refine balloc ?_ _ | refine bdrew ?_ | refine bdrewN ?_ _))); done)))) N.out (by omega) F2 S2)
              clear F2 S2 O3 F I S N
              go_wp2
              go_meet
              case rel => exact O4
            | false =>
              have O4 : Hid (OnceAt w0 B g cap A l t v (out1 ++ E0) w.heap.size (lastT l j) w w1) := hid (by
                rw [TE.out, if_neg (by decide), List.append_nil]
                exact O1.out)
              go_wp2
              go_meet
              case rel => exact O4
          case rest =>
            have O4 := hcut
            have LE : Hid ((out1 ++ E0).length ≤ 20000001) := hid (by
              have := if_len c (Edge.mk i j (latE t l[i]) 0 0)
              have := hlo.out
              rw [List.length_append, TE.out]
              omega)
            clear hcut O1 TE hlo
            obtain ⟨_, v1, F1, _, _⟩ := O4.out
            have z0 := F1.c0
            have FB := hid F1.bel
            clear F1
            go_wp2_with fail
            with_reducible refine (CM.out _ FB.out _ _).mono ?_
            rintro e w3 ⟨rfl, hb⟩
            have O5 := hid (O4.out.below hb)
            clear hb O4 z0 FB
            obtain ⟨I3, v3, F3, S3, N3⟩ := O5.out
            have F := hid F3
            have I := hid I3
            have S := hid S3
            have N := hid N3
            clear I3 F3 S3 N3
            generalize hme : meetL l i j = me at ES EJ
            go_wp2_with fail
            with_reducible refine (CP.out _ _ _ F.out i j hil hj2 0 me ?_).mono ?_
            · have := LE.out; omega
            rintro e w4 ⟨v4, rfl, F4, S4⟩
            have O6 : Hid (OnceAt w0 B g cap A l t v (out ++ (onceE l t j ++ onceJ l t j (i + 1))) w.heap.size (lastT l j) w w4) := hid (by
              rw [EJ.out, ES.out, ← List.append_assoc, ← List.append_assoc, ← List.append_assoc, List.append_assoc out, HO1.out]
              exact OnceAt.emit I.out S.out N.out (by omega) F4 S4)
            clear F4 S4 O5 F I S N
            go_wp2
            go_roundg (j - (i + 1))
            case measure => have := hgi.out; omega
            case rel => exact ⟨i + 1, by omega, by go_num, by show _ + _ = _; omega, O6⟩
        · obtain rfl : i = j := by omega
          obtain ⟨I1, v1, F1, S1, N1⟩ := HI.out
          obtain ⟨Ar, cr, Ad, cd, _, h15, hr⟩ := F1.rd
          obtain ⟨_, gd, rfl, _, _, hdj⟩ := hr i l[i] (List.getElem?_eq_getElem hj2)
          have EO : Hid (onceE l t (i + 1) = onceE l t i ++ onceJ l t i i) := hid rfl
          have hb2 : w.heap.size < wr.heap.size := I1.lt
          have hfz : ∀ k, wr.frozen? ⟨w.heap.size, k, none⟩ = false := fun k => I1.frozen k
          have WFI := hid (HWF.out l[i] (List.getElem_mem hj2))
          cases hwb : wrB l[i] with
          | true =>
            obtain ⟨dy0, dy1⟩ := dN_bd WFI.out
            have hdd := dN_yes hwb
            have hd0 := WFI.out.d0
            obtain ⟨y, hy⟩ : ∃ y : Nat, l[i].d = y := ⟨l[i].d.toNat, by omega⟩
            have ET : Hid (lastT l (i + 1) = (lastT l i).set y ((i : Int) + 1)) := hid (by
              rw [lastT, List.getElem?_eq_getElem hj2]
              simp only [hwb, if_true, hy, Int.toNat_natCast])
            rw [hdd, hy] at hdj
            have hy32 : y < 32 := by omega
            obtain ⟨ty, hty⟩ : ∃ ty, wr.cell? ⟨w.heap.size, y, none⟩ = some ty := ⟨_, I1.cell y (by rw [lastT_len]; exact hy32)⟩
            have O7 := hid (HI.out.store hBw (Nat.le_refl _) y ((i : Int) + 1))
            have hfy := hfz y
            clear I1 F1 S1 N1 hr hfz HI hdd hd0 dy0 dy1 hy
            go_wp2
            go_roundg (l.length - (i + 1))
            case measure => have := hgk.out; omega
            case rel => exact ⟨i + 1, by omega, by go_num, by show _ + _ = _; omega, hid (by rw [EO.out, ET.out]; exact O7.out)⟩
          | false =>
            have ET : Hid (lastT l (i + 1) = lastT l i) := hid (by
              rw [lastT, List.getElem?_eq_getElem hj2]
              simp only [hwb, if_false, Bool.false_eq_true])
            rw [dN_no hwb] at hdj
            clear I1 F1 S1 N1 hr hfz
            go_wp2
            go_roundg (l.length - (i + 1))
            case measure => have := hgk.out; omega
            case rel => exact ⟨i + 1, by omega, by go_num, by show _ + _ = _; omega, hid (by rw [EO.out, ET.out]; exact HI.out)⟩
    · obtain rfl : j = l.length := by omega
      obtain ⟨I1, v1, F1, S1, N1⟩ := HO.out
      have z0 := F1.c0
      have FIN : Hid (EmitP w0 B g cap A l t v out (onceE l t l.length) w (.returned (.tuple #[])) wr) := hid ⟨v1, rfl, F1, S1⟩
      clear I1 F1 S1 N1
      go_wp2
      exact bodyPost_ret (v := .tuple #[]) (by simp [results, Try.results91, go_sem]) rfl FIN.out
end Go.Proofs.Ytcibkoodnfkogaa
