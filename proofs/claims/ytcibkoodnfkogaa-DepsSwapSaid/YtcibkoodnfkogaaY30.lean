/- Dependences: the document's Loop. -/
import Derived.Test.YtcibkoodnfkogaaY29
namespace Go.Proofs.Ytcibkoodnfkogaa
open Go.RowKit
set_option linter.unusedVariables false
set_option linter.unusedSimpArgs false
set_option maxHeartbeats 4000000 in
set_option maxRecDepth 100000 in
theorem rloop_dep (A : Option Addr) (l : List Op) (cap : Nat) (t : List Int) (w : World) (HL : OpsIn w A l) (hwf : ∀ o ∈ l, o.wf) (hm : l.length ≤ 1000000000000000000) (ht : t.length = 13) :
    Calls Try.prog 58 #[.slice A l.length cap, tabV t] w (ROfP (loopE l t) (depE l t) w) := by
  have CR := hid (fun (w' : World) (hb : Below w.heap.size w w') => rof_dep A l cap t w' (HL.keep hb) hwf hm ht)
  have CF := hid (fun (h : l.length ≤ 1024) (w' : World) (hb : Below w.heap.size w w') (i j : Nat) (hj : j < l.length) (hi : i < l.length) => rflows_any A l cap i j true w' (HL.keep hb) hwf hj hi h)
  have CL := hid (fun (w : World) (i : Nat) (hi : i < l.length) => rlat_any l[i] t w ht)
  have CM : Hid (∀ (w' : World) (hb : Below w.heap.size w w') (i j : Int), Calls Try.prog 30 #[.slice A l.length cap, .int .i64 i, .int .i64 j] w' fun e w2 => e = .returned (.bool (roundL l i j)) ∧ Below w'.heap.size w' w2) := hid (fun w' hb i j => by rw [← round_alike]; exact RRound_any A l cap i j w' (HL.keep hb) hm)
  have CP := hid (fun (hlat : ∀ c : Nat, c < 4 → 1 ≤ t[4 + c]?.getD 0 ∧ t[4 + c]?.getD 0 ≤ 8) (w' : World) (hb : Below w.heap.size w w') (i j : Nat) (hi : i < l.length) (hj : j < l.length) (ds : Int) (m : Bool) => rpair_any A l cap t i j ds m w' (HL.keep hb) hwf hi hj ht hlat)
  have MM : Hid (∀ (i j : Nat) (hj : j < l.length), roundL l i j = true → l[j].k = 15 ∨ l[j].k = 16) := hid (fun i j hj h => round_mem hj h)
  have HWF := hid hwf
  have HL' := hid HL
  have LA := hid (fun (h : depE l t = 0) => lat_all h)
  have EQ : Hid (loopE l t = if depE l t == 0 then onceE l t l.length ++ arndE l t l.length else []) := hid rfl
  have EQ0 : Hid (ofE l t = if depE l t == 0 then onceE l t l.length else []) := hid rfl
  generalize ofE l t = E9 at EQ0 CR
  generalize loopE l t = E at EQ ⊢
  clear HL hwf hm
  obtain ⟨t0, t1, t2, t3, t4, t5, t6, t7, t8, t9, t10, t11, t12, rfl⟩ := tab13 ht
  clear ht
  unfold tabV at CR CL CP ⊢
  simp only [List.map_cons, List.map_nil] at CR CL CP ⊢
  have R0 : Hid (RpAt w (w.alloc (.cells #[.int .i64 t0, .int .i64 t1, .int .i64 t2, .int .i64 t3, .int .i64 t4, .int .i64 t5, .int .i64 t6, .int .i64 t7, .int .i64 t8, .int .i64 t9, .int .i64 t10, .int .i64 t11, .int .i64 t12] 28)) [t0, t1, t2, t3, t4, t5, t6, t7, t8, t9, t10, t11, t12] (.slice none 0 0) []) := hid (by
    refine ⟨by ((with_reducible (repeat (first | assumption | exact Below.refl _ _ | refine bset ?_ (Nat.le_refl _) _ | refine balloc ?_ _ | refine bdrew ?_ | refine bdrewN ?_ _))); done), by simp, fun k hk => ?_, World.ownsRow_nil _ _ _ _, fun _ => rfl⟩
    rw [cell_of_row _ _ _ _ _ _ (heap_alloc_new _ _)]
    rcases (by omega : k = 0 ∨ k = 1 ∨ k = 2 ∨ k = 3 ∨ k = 4 ∨ k = 5 ∨ k = 6 ∨ k = 7 ∨ k = 8 ∨ k = 9 ∨ k = 10 ∨ k = 11 ∨ k = 12) with rfl | rfl | rfl | rfl | rfl | rfl | rfl | rfl | rfl | rfl | rfl | rfl | rfl <;> rfl)
  have RC := hid (fun (W : World) (v : Value) (out : List Edge) (h : RpAt w W [t0, t1, t2, t3, t4, t5, t6, t7, t8, t9, t10, t11, t12] v out) => (show W.cell? ⟨w.heap.size, 0, none⟩ = some (.int .i64 t0) ∧ W.cell? ⟨w.heap.size, 1, none⟩ = some (.int .i64 t1) ∧ W.cell? ⟨w.heap.size, 2, none⟩ = some (.int .i64 t2) ∧ W.cell? ⟨w.heap.size, 3, none⟩ = some (.int .i64 t3) ∧ W.cell? ⟨w.heap.size, 4, none⟩ = some (.int .i64 t4) ∧ W.cell? ⟨w.heap.size, 5, none⟩ = some (.int .i64 t5) ∧ W.cell? ⟨w.heap.size, 6, none⟩ = some (.int .i64 t6) ∧ W.cell? ⟨w.heap.size, 7, none⟩ = some (.int .i64 t7) ∧ W.cell? ⟨w.heap.size, 8, none⟩ = some (.int .i64 t8) ∧ W.cell? ⟨w.heap.size, 9, none⟩ = some (.int .i64 t9) ∧ W.cell? ⟨w.heap.size, 10, none⟩ = some (.int .i64 t10) ∧ W.cell? ⟨w.heap.size, 11, none⟩ = some (.int .i64 t11) ∧ W.cell? ⟨w.heap.size, 12, none⟩ = some (.int .i64 t12) from ⟨h.ct 0 (by omega), h.ct 1 (by omega), h.ct 2 (by omega), h.ct 3 (by omega), h.ct 4 (by omega), h.ct 5 (by omega), h.ct 6 (by omega), h.ct 7 (by omega), h.ct 8 (by omega), h.ct 9 (by omega), h.ct 10 (by omega), h.ct 11 (by omega), h.ct 12 (by omega)⟩))
  generalize hT : [t0, t1, t2, t3, t4, t5, t6, t7, t8, t9, t10, t11, t12] = t at R0 RC CR CL CP LA EQ EQ0 ⊢
  clear hT
  obtain ⟨d, hd⟩ : ∃ d, depE l t = d := ⟨_, rfl⟩
  rw [hd] at CR EQ LA EQ0 ⊢
  obtain ⟨ii, iz, hii, hiz, h5i, h40i, hz5i⟩ := edge_info
  have EI := hid hii
  have EZ := hid hiz
  have E5 := hid h5i
  have E40 := hid h40i
  have EZ5 := hid hz5i
  have EU := hid (Try.underlying93)
  clear hii hiz h5i h40i hz5i
  cases hd0 : (d == 0) with
  | false =>
    have hd1 : (d != 0) = true := by unfold bne; rw [hd0]; rfl
    have EN : Hid (E = []) := hid (by rw [EQ.out, hd0]; rfl)
    go_enter Try.func58, Try.ntmps58
    go_wp2_with fail
    with_reducible refine (CR.out _ ?_).mono ?_
    · ((with_reducible (repeat (first | assumption | exact Below.refl _ _ | refine bset ?_ (Nat.le_refl _) _ | refine balloc ?_ _ | refine bdrew ?_ | refine bdrewN ?_ _))); done)
    rintro e w1 ⟨v0, rfl, _, _, hb⟩
    have B1 := hid (btrans (a := w) (by ((with_reducible (repeat (first | assumption | exact Below.refl _ _ | refine bset ?_ (Nat.le_refl _) _ | refine balloc ?_ _ | refine bdrew ?_ | refine bdrewN ?_ _))); done)) hb)
    clear hb
    go_wp2
    go_ret2
    exact ⟨_, rfl, by rw [EN.out]; exact World.ownsRow_nil _ _ _ _, fun _ => rfl, B1.out⟩
  | true =>
    obtain rfl : d = 0 := eq_of_beq hd0
    obtain ⟨hl, hlat⟩ := LA.out rfl
    have EN : Hid (E = onceE l t l.length ++ arndE l t l.length) := hid (by rw [EQ.out]; rfl)
    have EN0 : Hid (E9 = onceE l t l.length) := hid (by rw [EQ0.out]; rfl)
    replace CP := hid (fun (w' : World) (hb : Below w.heap.size w w') (i j : Nat) (hi : i < l.length) (hj : j < l.length) (ds : Int) (m : Bool) => CP.out hlat w' hb i j hi hj ds m)
    replace CF := hid (CF.out hl)
    have LEN : Hid (∀ i j : Nat, i ≤ l.length → j ≤ l.length → (onceE l t l.length ++ (arndE l t j ++ arndJ l t j i)).length ≤ 20000000) := hid (fun i j hi hj => by
    have := onceE_len l t l.length hl
    have := arndE_len l t j hl
    have := arndJ_len l t j i
    simp only [List.length_append]
    omega)
    clear hlat hd0 hd LA EQ EQ0
    go_enter Try.func58, Try.ntmps58
    go_wp2_with fail
    with_reducible refine (CR.out _ ?_).mono ?_
    · ((with_reducible (repeat (first | assumption | exact Below.refl _ _ | refine bset ?_ (Nat.le_refl _) _ | refine balloc ?_ _ | refine bdrew ?_ | refine bdrewN ?_ _))); done)
    rintro e w1 ⟨v0, rfl, hown, hnl, hb⟩
    rw [EN0.out] at hown hnl
    have R1 : Hid (RpAt w w1 t v0 (onceE l t l.length)) := hid (by
      refine ⟨btrans (a := w) (by ((with_reducible (repeat (first | assumption | exact Below.refl _ _ | refine bset ?_ (Nat.le_refl _) _ | refine balloc ?_ _ | refine bdrew ?_ | refine bdrewN ?_ _))); done)) hb, ?_, fun m hm => cell_keep (R0.out.ct m hm) hb, own_mono hown (by simp), hnl⟩
      exact Nat.lt_of_lt_of_le R0.out.sz hb.size)
    clear hb R0 hown hnl
    go_wp2
    go_loopg [6, 8] l.length (fun gk v6 v8 wr => ∃ (j : Nat) (v : Value), j ≤ l.length ∧ v = v6 ∧ v8 = .int .i64 j ∧ Hid (gk + j = l.length) ∧ Hid (RpAt w wr t v (onceE l t l.length ++ arndE l t j)))
    case atStart => exact ⟨0, _, by omega, rfl, rfl, by exact Nat.add_zero _, hid (by unfold arndE; rw [List.append_nil]; exact R1.out)⟩
    case round =>
      obtain ⟨j, v, hj, rfl, rfl, hgk, R⟩ := hrel
      clear R1
      by_cases hj2 : j < l.length
      · obtain ⟨go, off, rfl, hop0⟩ := HL'.out.get 0 (by omega)
        have hgo : go < w.heap.size := World.block_lt_of_cell? w _ hop0.1
        have OX : Hid (∀ W : World, Below w.heap.size w W → True ∧ ∀ (i : Nat) (hi : i < l.length), OpAt W go (off + i * 5) l[i]) := hid (fun W hb => ⟨trivial, fun i hi => by
          obtain ⟨g', o', e, h⟩ := HL'.out.get i hi
          injection e with e
          injection e with e1 e2
          subst e1 e2
          exact h.keep hb⟩)
        clear hop0
        go_wp2
        go_loopg [6, 9] l.length (fun gi v6 v9 wr => ∃ (i : Nat) (v : Value), i ≤ l.length ∧ v = v6 ∧ v9 = .int .i64 i ∧ Hid (gi + i = l.length) ∧ Hid (RpAt w wr t v (onceE l t l.length ++ (arndE l t j ++ arndJ l t j i))))
        case atStart => exact ⟨0, _, by omega, rfl, rfl, by exact Nat.add_zero _, hid (by unfold arndJ; rw [List.append_nil]; exact R.out)⟩
        case round =>
          clear R
          obtain ⟨i, v, hi, rfl, rfl, hgi, R⟩ := hrel
          by_cases hi2 : i < l.length
          · skip
            have hil : i < l.length := by omega
            have ES := hid (stepE_eq hil hj2 t (openT l j) 1 (roundL l i j))
            have EJ : Hid (arndJ l t j (i + 1) = arndJ l t j i ++ stepE l t (openT l j) 1 i j (roundL l i j)) := hid rfl
            have EP : Hid (rpairE t l[i] l[j] i j 1 (roundL l i j) = pairE t l[i] l[j] i j 1 (roundL l i j)) := hid (rpairE_eq (HWF.out _ (List.getElem_mem hj2)) (HWF.out _ (List.getElem_mem hil)) t i j 1 (roundL l i j) (fun h => MM.out i j hj2 h))
            have LO : Hid ((onceE l t l.length ++ (arndE l t j ++ arndJ l t j i)).length ≤ 20000000) := hid (LEN.out i j (by omega) (by omega))
            go_wp2_with fail
            with_reducible refine (CF.out _ R.out.bel i j hj2 hil).mono ?_
            rintro e w1 ⟨rfl, hb⟩
            have R1 := hid (R.out.keep hb)
            clear hb R
            rw [flow_arnd HWF.out hj2]
            obtain ⟨c, hc⟩ : ∃ c, fromB (openT l j) l[j] i = c := ⟨_, rfl⟩
            rw [hc]
            have TE : Hid (trueE t (openT l j) l[i] l[j] i j 1 = if c then [Edge.mk i j (latE t l[i]) 1 0] else []) := hid (by unfold trueE; rw [hc])
            clear hc
            generalize hE0 : trueE t (openT l j) l[i] l[j] i j 1 = E0 at ES TE
            clear hE0
            generalize hOUT : (onceE l t l.length ++ (arndE l t j ++ arndJ l t j i)) = OUT at R1 LO
            have HOUT := hid hOUT
            clear hOUT
            go_upto_if 34 with (fail)
            go_cut [6] (fun vx wx => ∃ v2 : Value, v2 = vx ∧ Hid (RpAt w wx t v2 (OUT ++ E0)))
            case first =>
              cases c with
              | false =>
                have R2 : Hid (RpAt w w1 t v (OUT ++ E0)) := hid (by
                  rw [TE.out, if_neg (by decide), List.append_nil]
                  exact R1.out)
                go_wp2
                go_meet
                case rel => exact ⟨_, rfl, R2⟩
              | true =>
                obtain ⟨p0, p1, p2, p3, p4⟩ := (OX.out _ R1.out.bel).2 i hil
                obtain ⟨k0, k1, k2, k3, k4, k5, k6, k7, k8, k9, k10, k11, k12⟩ := RC.out _ _ _ R1.out
                have hgo2 : go < w1.heap.size := Nat.lt_of_lt_of_le hgo R1.out.bel.size
                have hws : w.heap.size < w1.heap.size := R1.out.sz
                have CLI := hid (fun (w : World) => CL.out w i hil)
                have hlo := LO.out
                clear ES EJ EP
                generalize latE t l[i] = la at *
                generalize l[i] = a at *
                have HN1 : some go ≠ v.ownBlock := fun e => by have := (R1.out.own.lt _ e.symm).1; omega
                have HN2 : some w.heap.size ≠ v.ownBlock := fun e => by have := (R1.out.own.lt _ e.symm).1; omega
                obtain ⟨W, hW⟩ : ∃ W, W = w1 := ⟨_, rfl⟩
                go_upto_region 11 with (fail)
                rw [← hW] at R1 p0 p1 p2 p3 p4 k0 k1 k2 k3 k4 k5 k6 k7 k8 k9 k10 k11 k12 hgo2 hws ⊢
                clear hW w1
                go_region_held3 (fun w' => w'.cell? ⟨go, off + i * 5, none⟩ = some (.int .i8 a.k) ∧ w'.cell? ⟨go, off + i * 5 + 1, none⟩ = some (.int .u8 a.d) ∧ w'.cell? ⟨go, off + i * 5 + 2, none⟩ = some (.int .u8 a.a) ∧ w'.cell? ⟨go, off + i * 5 + 3, none⟩ = some (.int .u8 a.b) ∧ w'.cell? ⟨go, off + i * 5 + 4, none⟩ = some (.int .i64 a.n) ∧ w'.cell? ⟨w.heap.size, 0, none⟩ = some (.int .i64 t0) ∧ w'.cell? ⟨w.heap.size, 1, none⟩ = some (.int .i64 t1) ∧ w'.cell? ⟨w.heap.size, 2, none⟩ = some (.int .i64 t2) ∧ w'.cell? ⟨w.heap.size, 3, none⟩ = some (.int .i64 t3) ∧ w'.cell? ⟨w.heap.size, 4, none⟩ = some (.int .i64 t4) ∧ w'.cell? ⟨w.heap.size, 5, none⟩ = some (.int .i64 t5) ∧ w'.cell? ⟨w.heap.size, 6, none⟩ = some (.int .i64 t6) ∧ w'.cell? ⟨w.heap.size, 7, none⟩ = some (.int .i64 t7) ∧ w'.cell? ⟨w.heap.size, 8, none⟩ = some (.int .i64 t8) ∧ w'.cell? ⟨w.heap.size, 9, none⟩ = some (.int .i64 t9) ∧ w'.cell? ⟨w.heap.size, 10, none⟩ = some (.int .i64 t10) ∧ w'.cell? ⟨w.heap.size, 11, none⟩ = some (.int .i64 t11) ∧ w'.cell? ⟨w.heap.size, 12, none⟩ = some (.int .i64 t12) ∧ Hid (W.grownBy w' v.ownBlock)) (first | (go_split_ands; (repeat' apply And.intro) <;> (first | assumption | exact cell_keep (by assumption) hb | exact hid (gb_below (Hid.out (by assumption)) hb))) | (go_split_ands; (repeat' apply And.intro) <;> (first | exact cell_keep (by assumption) (bdrew (Below.refl _ _)) | exact hid (gb_below (gb_refl _ _) (bdrew (Below.refl _ _))))) | (go_split_ands; (repeat' apply And.intro) <;> (first | exact cell_keep (by assumption) (balloc (Below.refl _ _) _) | exact hid (gb_below (Hid.out (by assumption)) (balloc (Below.refl _ _) _)))) | (go_split_ands; (repeat' apply And.intro) <;> (first | exact hgrow9.cell (by assumption) HN1 | exact hgrow9.cell (by assumption) HN2 | exact hid (gb_trans (Hid.out (by assumption)) hgrow9)))) (first | ((with_reducible refine (CLI.out _).mono ?_); rintro e w2 ⟨rfl, hb⟩; have BR : Below W.heap.size W w2 := btrans (a := W) (bdrew (Below.refl _ _)) hb; have hs2 : W.heap.size ≤ w2.heap.size := BR.size) | ((refine step_append_lies _ (by rfl) _ _ _ (by rfl) (w.heap.size + 1) 99 ii iz 5 40 EU.out EI.out EZ.out E5.out E40.out EZ5.out (by omega) v OUT.length (edgesV OUT) (by rfl) (own_below R1.out.own (by ((with_reducible (repeat (first | assumption | exact Below.refl _ _ | refine bset ?_ (Nat.le_refl _) _ | refine balloc ?_ _ | refine bdrew ?_ | refine bdrewN ?_ _))); done))) ⟨w2.heap.size, 0, none⟩ 1 1 (Edge.cells (Edge.mk i j la 1 0)) (by rfl) (by rfl) (World.news_of_block (heap_new_at _ _ _ (by simp))) (edge_one _) (by omega) (by unfold maxLen; omega) (by omega) (by simp; omega) _ rfl ?_); intro g3 d3 w9 hown9 hgrow9 hat9 hlt9))
                have R2 : Hid (RpAt w w9 t (.slice (some ⟨g3, 0, none⟩) (OUT.length + 1) d3) (OUT ++ E0)) := hid (by
                  rw [TE.out]
                  refine RpAt.push (es := [Edge.mk i j la 1 0]) R1.out ?_ hgrow9 (by rw [List.length_append]; rfl) (by simp) hown9
                  ((with_reducible (repeat (first | assumption | exact Below.refl _ _ | refine bset ?_ (Nat.le_refl _) _ | refine balloc ?_ _ | refine bdrew ?_ | refine bdrewN ?_ _))); done))
                clear hown9 hgrow9 hat9 hlt9
                go_split_ands
                go_wp2
                go_meet
                case rel => exact ⟨_, rfl, R2⟩
            case rest =>
              obtain ⟨v2, rfl, R2⟩ := hcut
              have LO2 : Hid ((OUT ++ E0).length ≤ 20000001) := hid (by
                have := if_len c (Edge.mk i j (latE t l[i]) 1 0)
                have := LO.out
                rw [List.length_append, TE.out]
                omega)
              clear R1 TE LO
              have hlo := LO2.out
              obtain ⟨k0, k1, k2, k3, k4, k5, k6, k7, k8, k9, k10, k11, k12⟩ := RC.out _ _ _ R2.out
              have hws : w.heap.size < wc.heap.size := R2.out.sz
              have CPI := hid (fun (w' : World) (hb : Below w.heap.size w w') => EP.out ▸ CP.out w' hb i j hil hj2 1 (roundL l i j))
              have CMI := hid (fun (w' : World) (hb : Below w.heap.size w w') => CM.out w' hb i j)
              have PL := pairE_len t l[i] l[j] i j 1 (roundL l i j)
              have BW := R2.out.bel
              clear EP
              generalize hL : pairE t l[i] l[j] i j 1 (roundL l i j) = L at CPI ES PL
              clear hL
              generalize hme : roundL l i j = me at CPI CMI ES EJ
              clear hme
              have R6E : Hid (∀ (w9 : World) (v9 : Value), RpAt w w9 t v9 ((OUT ++ E0) ++ L) → RpAt w w9 t v9 (onceE l t l.length ++ (arndE l t j ++ arndJ l t j (i + 1)))) := hid (fun w9 v9 h9 => by
                rw [EJ.out, ES.out, ← List.append_assoc (arndE l t j), ← List.append_assoc (onceE l t l.length), ← List.append_assoc, HOUT.out]
                exact h9)
              generalize hOE : OUT ++ E0 = OE at R2 hlo R6E
              clear hOE ES EJ HOUT
              have HN2 : some w.heap.size ≠ v2.ownBlock := fun e => by have := (R2.out.own.lt _ e.symm).1; omega
              obtain ⟨W, hW⟩ : ∃ W, W = wc := ⟨_, rfl⟩
              go_upto_region 12 with (fail)
              rw [← hW] at R2 k0 k1 k2 k3 k4 k5 k6 k7 k8 k9 k10 k11 k12 hws BW ⊢
              clear hW wc
              by_cases hLn : L = []
              · subst hLn
                go_region_held3 (fun w' => w'.cell? ⟨w.heap.size, 0, none⟩ = some (.int .i64 t0) ∧ w'.cell? ⟨w.heap.size, 1, none⟩ = some (.int .i64 t1) ∧ w'.cell? ⟨w.heap.size, 2, none⟩ = some (.int .i64 t2) ∧ w'.cell? ⟨w.heap.size, 3, none⟩ = some (.int .i64 t3) ∧ w'.cell? ⟨w.heap.size, 4, none⟩ = some (.int .i64 t4) ∧ w'.cell? ⟨w.heap.size, 5, none⟩ = some (.int .i64 t5) ∧ w'.cell? ⟨w.heap.size, 6, none⟩ = some (.int .i64 t6) ∧ w'.cell? ⟨w.heap.size, 7, none⟩ = some (.int .i64 t7) ∧ w'.cell? ⟨w.heap.size, 8, none⟩ = some (.int .i64 t8) ∧ w'.cell? ⟨w.heap.size, 9, none⟩ = some (.int .i64 t9) ∧ w'.cell? ⟨w.heap.size, 10, none⟩ = some (.int .i64 t10) ∧ w'.cell? ⟨w.heap.size, 11, none⟩ = some (.int .i64 t11) ∧ w'.cell? ⟨w.heap.size, 12, none⟩ = some (.int .i64 t12) ∧ Hid (W.grownBy w' v2.ownBlock)) (first | (go_split_ands; (repeat' apply And.intro) <;> (first | assumption | exact cell_keep (by assumption) hb | exact hid (gb_below (Hid.out (by assumption)) hb))) | (go_split_ands; (repeat' apply And.intro) <;> (first | exact cell_keep (by assumption) (bdrew (Below.refl _ _)) | exact hid (gb_below (gb_refl _ _) (bdrew (Below.refl _ _))))) | (go_split_ands; (repeat' apply And.intro) <;> (first | exact cell_keep (by assumption) (balloc (Below.refl _ _) _) | exact hid (gb_below (Hid.out (by assumption)) (balloc (Below.refl _ _) _)))) | (go_split_ands; (repeat' apply And.intro) <;> (first | exact hgrow9.cell (by assumption) HN1 | exact hgrow9.cell (by assumption) HN2 | exact hid (gb_trans (Hid.out (by assumption)) hgrow9)))) (first | ((with_reducible refine (CMI.out _ (by ((with_reducible (repeat (first | assumption | exact Below.refl _ _ | refine bset ?_ (Nat.le_refl _) _ | refine balloc ?_ _ | refine bdrew ?_ | refine bdrewN ?_ _))); done))).mono ?_); rintro e w2 ⟨rfl, hb⟩; have BR : Below W.heap.size W w2 := btrans (a := W) (bdrew (Below.refl _ _)) hb; have BW2 : Below w.heap.size w w2 := btrans BW BR) | ((with_reducible refine (CPI.out _ BW2).mono ?_); rintro e w2 ⟨A2, c2, rfl, _, hnil, _, hb⟩; obtain ⟨rfl, rfl⟩ := hnil rfl; have BR3 : Below W.heap.size W w2 := btrans BR hb) | (refine step_append_none (by rfl) _ _ _ (by rfl) (w.heap.size + 1) 99 ii 5 EU.out EI.out v2 OE.length (edgesV OE) (by rfl) (own_below R2.out.own (by ((with_reducible (repeat (first | assumption | exact Below.refl _ _ | refine bset ?_ (Nat.le_refl _) _ | refine balloc ?_ _ | refine bdrew ?_ | refine bdrewN ?_ _))); done))) (by rfl) ?_))
                have R7 := hid (R6E.out w2 v2 (by rw [List.append_nil]; exact R2.out.keep BR3))
                go_split_ands
                go_wp2
                go_roundg (l.length - (i + 1))
                case measure => have := hgi.out; omega
                case rel => exact ⟨i + 1, _, by omega, rfl, by go_num, by show _ + _ = _; omega, R7⟩
              · have hLp : 0 < L.length := List.length_pos_iff.2 hLn
                have HLN := hid hLn
                clear hLn
                go_region_held3 (fun w' => w'.cell? ⟨w.heap.size, 0, none⟩ = some (.int .i64 t0) ∧ w'.cell? ⟨w.heap.size, 1, none⟩ = some (.int .i64 t1) ∧ w'.cell? ⟨w.heap.size, 2, none⟩ = some (.int .i64 t2) ∧ w'.cell? ⟨w.heap.size, 3, none⟩ = some (.int .i64 t3) ∧ w'.cell? ⟨w.heap.size, 4, none⟩ = some (.int .i64 t4) ∧ w'.cell? ⟨w.heap.size, 5, none⟩ = some (.int .i64 t5) ∧ w'.cell? ⟨w.heap.size, 6, none⟩ = some (.int .i64 t6) ∧ w'.cell? ⟨w.heap.size, 7, none⟩ = some (.int .i64 t7) ∧ w'.cell? ⟨w.heap.size, 8, none⟩ = some (.int .i64 t8) ∧ w'.cell? ⟨w.heap.size, 9, none⟩ = some (.int .i64 t9) ∧ w'.cell? ⟨w.heap.size, 10, none⟩ = some (.int .i64 t10) ∧ w'.cell? ⟨w.heap.size, 11, none⟩ = some (.int .i64 t11) ∧ w'.cell? ⟨w.heap.size, 12, none⟩ = some (.int .i64 t12) ∧ Hid (W.grownBy w' v2.ownBlock)) (first | (go_split_ands; (repeat' apply And.intro) <;> (first | assumption | exact cell_keep (by assumption) hb | exact hid (gb_below (Hid.out (by assumption)) hb))) | (go_split_ands; (repeat' apply And.intro) <;> (first | exact cell_keep (by assumption) (bdrew (Below.refl _ _)) | exact hid (gb_below (gb_refl _ _) (bdrew (Below.refl _ _))))) | (go_split_ands; (repeat' apply And.intro) <;> (first | exact cell_keep (by assumption) (balloc (Below.refl _ _) _) | exact hid (gb_below (Hid.out (by assumption)) (balloc (Below.refl _ _) _)))) | (go_split_ands; (repeat' apply And.intro) <;> (first | exact hgrow9.cell (by assumption) HN1 | exact hgrow9.cell (by assumption) HN2 | exact hid (gb_trans (Hid.out (by assumption)) hgrow9)))) (first | ((with_reducible refine (CMI.out _ (by ((with_reducible (repeat (first | assumption | exact Below.refl _ _ | refine bset ?_ (Nat.le_refl _) _ | refine balloc ?_ _ | refine bdrew ?_ | refine bdrewN ?_ _))); done))).mono ?_); rintro e w2 ⟨rfl, hb⟩; have BR : Below W.heap.size W w2 := btrans (a := W) (bdrew (Below.refl _ _)) hb; have BW2 : Below w.heap.size w w2 := btrans BW BR) | ((with_reducible refine (CPI.out _ BW2).mono ?_); rintro e w2 ⟨A2, c2, rfl, _, _, hE2, hb⟩; obtain ⟨g2, o2, rfl, _⟩ := hE2 HLN.out; have HE2 := hid hE2; clear hE2; have BR3 : Below W.heap.size W w2 := btrans BR hb; have hs3 : W.heap.size ≤ w2.heap.size := BR3.size) | ((refine step_append_lies _ (by rfl) _ _ _ (by rfl) (w.heap.size + 1) 99 ii iz 5 40 EU.out EI.out EZ.out E5.out E40.out EZ5.out (by omega) v2 OE.length (edgesV OE) (by rfl) (own_below R2.out.own (by ((with_reducible (repeat (first | assumption | exact Below.refl _ _ | refine bset ?_ (Nat.le_refl _) _ | refine balloc ?_ _ | refine bdrew ?_ | refine bdrewN ?_ _))); done))) ⟨g2, o2, none⟩ L.length c2 (edgesV L) (by rfl) (edgesV_len L) (edges_news HLN.out HE2.out) (edges_one L) hLp (by unfold maxLen; omega) (by omega) (by omega) _ rfl ?_); intro g3 d3 w9 hown9 hgrow9 hat9 hlt9))
                have R7 := hid (R6E.out w9 (.slice (some ⟨g3, 0, none⟩) (OE.length + L.length) d3) (by
                  refine RpAt.push (es := L) R2.out ?_ hgrow9 (by rw [List.length_append]) HLN.out hown9
                  ((with_reducible (repeat (first | assumption | exact Below.refl _ _ | refine bset ?_ (Nat.le_refl _) _ | refine balloc ?_ _ | refine bdrew ?_ | refine bdrewN ?_ _))); done)))
                clear hown9 hgrow9 hat9 hlt9 HE2
                go_split_ands
                go_wp2
                go_roundg (l.length - (i + 1))
                case measure => have := hgi.out; omega
                case rel => exact ⟨i + 1, _, by omega, rfl, by go_num, by show _ + _ = _; omega, R7⟩
          · obtain rfl : i = l.length := by omega
            have EO : Hid (arndE l t (j + 1) = arndE l t j ++ arndJ l t j l.length) := hid rfl
            have R9 := R.out
            rw [← EO.out] at R9
            replace R := hid R9
            clear R9 EO
            go_wp2
            go_roundg (l.length - (j + 1))
            case measure => have := hgk.out; omega
            case rel => exact ⟨j + 1, _, by omega, rfl, by go_num, by show _ + _ = _; omega, R⟩
      · obtain rfl : j = l.length := by omega
        have FIN := hid (R.out.last 0)
        rw [← EN.out] at FIN
        go_wp2
        go_ret2
        exact FIN.out
end Go.Proofs.Ytcibkoodnfkogaa
