/- Dependences: the walk of the document's pair. -/
import Derived.Test.YtcibkoodnfkogaaY15
namespace Go.Proofs.Ytcibkoodnfkogaa
open Go.RowKit
set_option linter.unusedVariables false
set_option linter.unusedSimpArgs false
set_option maxHeartbeats 4000000 in
set_option maxRecDepth 100000 in
theorem rpair_any (A : Option Addr) (l : List Op) (cap : Nat) (t : List Int) (i j : Nat) (ds : Int) (m : Bool) (w : World) (HL : OpsIn w A l) (hwf : ∀ o ∈ l, o.wf) (hi : i < l.length) (hj : j < l.length) (ht : t.length = 13) (hlat : ∀ c : Nat, c < 4 → 1 ≤ t[4 + c]?.getD 0 ∧ t[4 + c]?.getD 0 ≤ 8) :
    Calls Try.prog 95 #[.slice A l.length cap, tabV t, .int .i64 i, .int .i64 j, .int .i64 ds, .bool m] w (EdgeL (rpairE t l[i] l[j] i j ds m) w) := by
  have CS := hid (fun (w : World) (r : Int) => rsays_any l[i] r w)
  have CW := hid (fun (w : World) (r : Int) => rwr_any l[i] r w)
  have CD := hid (fun (w : World) => rwrites_any l[j] w)
  have CE1 := hid (fun (w : World) => reff_any l[i] w)
  have CE2 := hid (fun (w : World) => reff_any l[j] w)
  have CL1 := hid (fun (w : World) => rlat_any l[i] t w ht)
  have CL2 := hid (fun (w : World) => rlat_any l[j] t w ht)
  obtain ⟨go, off, rfl, hopi⟩ := HL.get i hi
  obtain ⟨go2, off2, hab, hopj⟩ := HL.get j hj
  injection hab with hab
  injection hab with e1 e2
  subst e1 e2
  have OI := hid hopi
  have OJ := hid hopj
  have hgo : go < w.heap.size := World.block_lt_of_cell? w _ hopi.1
  have bl1 : 1 ≤ latE t l[i] ∧ latE t l[i] ≤ 8 := by
    obtain ⟨c, hc, e⟩ := clsN_nat l[i].k
    unfold latE
    rw [e]
    exact hlat c hc
  have bl2 : 1 ≤ latE t l[j] ∧ latE t l[j] ≤ 8 := by
    obtain ⟨c, hc, e⟩ := clsN_nat l[j].k
    unfold latE
    rw [e]
    exact hlat c hc
  clear hopi hopj HL hwf hlat
  generalize l[i] = a at *
  generalize l[j] = b at *
  obtain ⟨la, hla⟩ : ∃ la, latE t a = la := ⟨_, rfl⟩
  obtain ⟨lb, hlb⟩ : ∃ lb, latE t b = lb := ⟨_, rfl⟩
  rw [hla] at bl1 CL1
  rw [hlb] at bl2 CL2
  obtain ⟨ok, hok⟩ : ∃ ok, wrB b = ok := ⟨_, rfl⟩
  obtain ⟨d, hd⟩ : ∃ d, wrN b = d := ⟨_, rfl⟩
  rw [hok, hd] at CD
  obtain ⟨sb, hsb⟩ : ∃ sb, seesB a d = sb := ⟨_, rfl⟩
  obtain ⟨hb0, hhb⟩ : ∃ hb0, hitB a d = hb0 := ⟨_, rfl⟩
  have PE : Hid (rpairE t a b i j ds m = (if ok && sb then [Edge.mk i j 0 ds 1] else []) ++ ((if ok && hb0 then [Edge.mk i j (max 0 (la - lb + 1)) ds 2] else []) ++ (rmemE t a b i j ds m ++ ordE a b i j ds))) := hid (by unfold rpairE; rw [hok, hd, hsb, hhb, hla, hlb])
  have HSB := hid hsb
  have HHB := hid hhb
  clear hla hlb hok hd hsb hhb
  obtain ⟨ii, iz, hii, hiz, h5i, h40i, hz5i⟩ := edge_info
  have EI := hid hii
  have EZ := hid hiz
  have E5 := hid h5i
  have E40 := hid h40i
  have EZ5 := hid hz5i
  have EU := hid (Try.underlying93)
  clear hii hiz h5i h40i hz5i
  obtain ⟨t0, t1, t2, t3, t4, t5, t6, t7, t8, t9, t10, t11, t12, rfl⟩ := tab13 ht
  clear ht
  unfold tabV at CL1 CL2 ⊢
  simp only [List.map_cons, List.map_nil] at CL1 CL2 ⊢
  have R0 : Hid (RpAt w (w.alloc (.cells #[.int .i64 t0, .int .i64 t1, .int .i64 t2, .int .i64 t3, .int .i64 t4, .int .i64 t5, .int .i64 t6, .int .i64 t7, .int .i64 t8, .int .i64 t9, .int .i64 t10, .int .i64 t11, .int .i64 t12] 28)) [t0, t1, t2, t3, t4, t5, t6, t7, t8, t9, t10, t11, t12] (.slice none 0 0) []) := hid (by
    refine ⟨by ((with_reducible (repeat (first | assumption | exact Below.refl _ _ | refine bset ?_ (Nat.le_refl _) _ | refine balloc ?_ _ | refine bdrew ?_ | refine bdrewN ?_ _))); done), by simp, fun k hk => ?_, World.ownsRow_nil _ _ _ _, fun _ => rfl⟩
    rw [cell_of_row _ _ _ _ _ _ (heap_alloc_new _ _)]
    rcases (by omega : k = 0 ∨ k = 1 ∨ k = 2 ∨ k = 3 ∨ k = 4 ∨ k = 5 ∨ k = 6 ∨ k = 7 ∨ k = 8 ∨ k = 9 ∨ k = 10 ∨ k = 11 ∨ k = 12) with rfl | rfl | rfl | rfl | rfl | rfl | rfl | rfl | rfl | rfl | rfl | rfl | rfl <;> rfl)
  have RC := hid (fun (W : World) (v : Value) (out : List Edge) (h : RpAt w W [t0, t1, t2, t3, t4, t5, t6, t7, t8, t9, t10, t11, t12] v out) => (show W.cell? ⟨w.heap.size, 0, none⟩ = some (.int .i64 t0) ∧ W.cell? ⟨w.heap.size, 1, none⟩ = some (.int .i64 t1) ∧ W.cell? ⟨w.heap.size, 2, none⟩ = some (.int .i64 t2) ∧ W.cell? ⟨w.heap.size, 3, none⟩ = some (.int .i64 t3) ∧ W.cell? ⟨w.heap.size, 4, none⟩ = some (.int .i64 t4) ∧ W.cell? ⟨w.heap.size, 5, none⟩ = some (.int .i64 t5) ∧ W.cell? ⟨w.heap.size, 6, none⟩ = some (.int .i64 t6) ∧ W.cell? ⟨w.heap.size, 7, none⟩ = some (.int .i64 t7) ∧ W.cell? ⟨w.heap.size, 8, none⟩ = some (.int .i64 t8) ∧ W.cell? ⟨w.heap.size, 9, none⟩ = some (.int .i64 t9) ∧ W.cell? ⟨w.heap.size, 10, none⟩ = some (.int .i64 t10) ∧ W.cell? ⟨w.heap.size, 11, none⟩ = some (.int .i64 t11) ∧ W.cell? ⟨w.heap.size, 12, none⟩ = some (.int .i64 t12) from ⟨h.ct 0 (by omega), h.ct 1 (by omega), h.ct 2 (by omega), h.ct 3 (by omega), h.ct 4 (by omega), h.ct 5 (by omega), h.ct 6 (by omega), h.ct 7 (by omega), h.ct 8 (by omega), h.ct 9 (by omega), h.ct 10 (by omega), h.ct 11 (by omega), h.ct 12 (by omega)⟩))
  have hT6 : Hid ([t0, t1, t2, t3, t4, t5, t6, t7, t8, t9, t10, t11, t12][(6 : Nat)]?.getD 0 = t6) := hid rfl
  generalize hT : [t0, t1, t2, t3, t4, t5, t6, t7, t8, t9, t10, t11, t12] = t at R0 RC PE hT6 ⊢
  clear hT
  go_enter Try.func95, Try.ntmps95
  have OIx := hid (fun (W : World) (hb : Below w.heap.size w W) => OI.out.keep hb)
  have OJx := hid (fun (W : World) (hb : Below w.heap.size w W) => OJ.out.keep hb)
  obtain ⟨p0, p1, p2, p3, p4⟩ := OJ.out
  go_wp2_with fail
  with_reducible refine (CD.out _).mono ?_
  rintro e w1 ⟨rfl, hb⟩
  have R1 := hid (R0.out.keep hb)
  clear hb R0 CD p0 p1 p2 p3 p4
  go_upto_region 3 with (fail)
  go_cut [33] (fun v33 wx => ∃ c : Bool, v33 = .bool c ∧ Hid ((ok && sb) = c) ∧ Hid (RpAt w wx t (.slice none 0 0) []))
  case first =>
    cases ok with
    | true =>
      obtain ⟨p0, p1, p2, p3, p4⟩ := OIx.out _ R1.out.bel
      go_wp2_with fail
      with_reducible refine (CS.out _ _).mono ?_
      rintro e w2 ⟨rfl, hb⟩
      rw [HSB.out]
      have R2 := hid (R1.out.keep hb)
      clear hb
      go_wp2
      go_meet
      case rel => exact ⟨sb, rfl, hid rfl, R2⟩
    | false =>
      go_wp2
      go_meet
      case rel => exact ⟨false, rfl, hid rfl, R1⟩
  case rest =>
    obtain ⟨c, rfl, hc, R2⟩ := hcut
    have PE2 := PE.out
    rw [hc.out] at PE2
    replace PE := hid PE2
    clear PE2 R1 hc
    go_upto_if 33 with (fail)
    go_cut [13] (fun v13 wx => ∃ va : Value, va = v13 ∧ Hid (RpAt w wx t va (if c then [Edge.mk i j 0 ds 1] else [])))
    case first =>
      cases c with
      | true =>
        go_wp2_with (at_builtin; refine wpList_append_lies _ (by rfl) _ _ _ (by rfl) (w.heap.size + 1) 99 ii iz 5 40 EU.out EI.out EZ.out E5.out E40.out EZ5.out (by omega) (.slice none 0 0) 0 [] (by rfl) ?aown ⟨wc.heap.size, 0, none⟩ 1 1 (Edge.cells (Edge.mk i j 0 ds 1)) (by rfl) (by rfl) ?anews ?aone (by omega) ?a63 ?abytes ?abase _ rfl ?_)
        case aown => exact World.ownsRow_nil _ _ _ _
        case anews => first | exact (fun j u h => h) | exact World.news_of_block (heap_new_at _ _ _ (by simp))
        case aone => exact edge_one _
        case a63 => unfold maxLen; omega
        case abase => have := R2.out.sz; simp; omega
        intro g3 d3 w7 hown7 hgrow7 hat hlt7
        have R3 : Hid (RpAt w w7 t (.slice (some ⟨g3, 0, none⟩) (0 + 1) d3) [Edge.mk i j 0 ds 1]) := hid (RpAt.push (es := [Edge.mk i j 0 ds 1]) R2.out (balloc (Below.refl _ _) _) hgrow7 rfl (by simp) (by simpa [edgesV] using hown7))
        clear hown7 hgrow7 hat hlt7
        go_wp2
        go_meet
        case rel => exact ⟨_, rfl, R3⟩
      | false =>
        go_wp2
        go_meet
        case rel => exact ⟨_, rfl, R2⟩
    case rest =>
      obtain ⟨va, rfl, R3⟩ := hcut
      have L1 := if_len c (Edge.mk i j 0 ds 1)
      generalize (if c = true then [Edge.mk i j 0 ds 1] else []) = E1 at PE R3 L1
      clear R2 CS HSB
      go_upto_region 5 with (fail)
      go_cut [49] (fun v49 wx => ∃ c : Bool, v49 = .bool c ∧ Hid ((ok && hb0) = c) ∧ Hid (RpAt w wx t va E1))
      case first =>
        cases ok with
        | true =>
          obtain ⟨p0, p1, p2, p3, p4⟩ := OIx.out _ R3.out.bel
          go_wp2_with fail
          with_reducible refine (CW.out _ _).mono ?_
          rintro e w2 ⟨rfl, hb⟩
          rw [HHB.out]
          have R4 := hid (R3.out.keep hb)
          clear hb
          go_wp2
          go_meet
          case rel => exact ⟨hb0, rfl, hid rfl, R4⟩
        | false =>
          go_wp2
          go_meet
          case rel => exact ⟨false, rfl, hid rfl, R3⟩
      case rest =>
        obtain ⟨c, rfl, hc, R4⟩ := hcut
        have PE2 := PE.out
        rw [hc.out] at PE2
        replace PE := hid PE2
        clear PE2 R3 hc
        go_upto_if 49 with (fail)
        go_cut [13] (fun v13 wx => ∃ vb : Value, vb = v13 ∧ Hid (RpAt w wx t vb (E1 ++ (if c then [Edge.mk i j (max 0 (la - lb + 1)) ds 2] else []))))
        case first =>
          cases c with
          | true =>
            obtain ⟨p0, p1, p2, p3, p4⟩ := OIx.out _ R4.out.bel
            obtain ⟨q0, q1, q2, q3, q4⟩ := OJx.out _ R4.out.bel
            obtain ⟨k0, k1, k2, k3, k4, k5, k6, k7, k8, k9, k10, k11, k12⟩ := RC.out _ _ _ R4.out
            have hgo2 : go < wc.heap.size := Nat.lt_of_lt_of_le hgo R4.out.bel.size
            have hws : w.heap.size < wc.heap.size := R4.out.sz
            have ew1 : IntKind.i64.wrap (la - lb) = la - lb := by rw [IntKind.wrap_i64]; omega
            have ew2 : IntKind.i64.wrap (la - lb + 1) = la - lb + 1 := by rw [IntKind.wrap_i64]; omega
            have HN1 : some go ≠ va.ownBlock := fun e => by have := (R4.out.own.lt _ e.symm).1; omega
            have HN2 : some w.heap.size ≠ va.ownBlock := fun e => by have := (R4.out.own.lt _ e.symm).1; omega
            go_upto_region 6 with (fail)
            go_region_held3 (fun w' => w'.cell? ⟨go, off + i * 5, none⟩ = some (.int .i8 a.k) ∧ w'.cell? ⟨go, off + i * 5 + 1, none⟩ = some (.int .u8 a.d) ∧ w'.cell? ⟨go, off + i * 5 + 2, none⟩ = some (.int .u8 a.a) ∧ w'.cell? ⟨go, off + i * 5 + 3, none⟩ = some (.int .u8 a.b) ∧ w'.cell? ⟨go, off + i * 5 + 4, none⟩ = some (.int .i64 a.n) ∧ w'.cell? ⟨go, off + j * 5, none⟩ = some (.int .i8 b.k) ∧ w'.cell? ⟨go, off + j * 5 + 1, none⟩ = some (.int .u8 b.d) ∧ w'.cell? ⟨go, off + j * 5 + 2, none⟩ = some (.int .u8 b.a) ∧ w'.cell? ⟨go, off + j * 5 + 3, none⟩ = some (.int .u8 b.b) ∧ w'.cell? ⟨go, off + j * 5 + 4, none⟩ = some (.int .i64 b.n) ∧ w'.cell? ⟨w.heap.size, 0, none⟩ = some (.int .i64 t0) ∧ w'.cell? ⟨w.heap.size, 1, none⟩ = some (.int .i64 t1) ∧ w'.cell? ⟨w.heap.size, 2, none⟩ = some (.int .i64 t2) ∧ w'.cell? ⟨w.heap.size, 3, none⟩ = some (.int .i64 t3) ∧ w'.cell? ⟨w.heap.size, 4, none⟩ = some (.int .i64 t4) ∧ w'.cell? ⟨w.heap.size, 5, none⟩ = some (.int .i64 t5) ∧ w'.cell? ⟨w.heap.size, 6, none⟩ = some (.int .i64 t6) ∧ w'.cell? ⟨w.heap.size, 7, none⟩ = some (.int .i64 t7) ∧ w'.cell? ⟨w.heap.size, 8, none⟩ = some (.int .i64 t8) ∧ w'.cell? ⟨w.heap.size, 9, none⟩ = some (.int .i64 t9) ∧ w'.cell? ⟨w.heap.size, 10, none⟩ = some (.int .i64 t10) ∧ w'.cell? ⟨w.heap.size, 11, none⟩ = some (.int .i64 t11) ∧ w'.cell? ⟨w.heap.size, 12, none⟩ = some (.int .i64 t12) ∧ Hid (wc.grownBy w' va.ownBlock)) (first | (go_split_ands; (repeat' apply And.intro) <;> (first | assumption | exact cell_keep (by assumption) hb | exact hid (gb_below (Hid.out (by assumption)) hb))) | (go_split_ands; (repeat' apply And.intro) <;> (first | exact cell_keep (by assumption) (bdrew (Below.refl _ _)) | exact hid (gb_below (gb_refl _ _) (bdrew (Below.refl _ _))))) | (go_split_ands; (repeat' apply And.intro) <;> (first | exact cell_keep (by assumption) (balloc (Below.refl _ _) _) | exact hid (gb_below (Hid.out (by assumption)) (balloc (Below.refl _ _) _)))) | (go_split_ands; (repeat' apply And.intro) <;> (first | exact hgrow9.cell (by assumption) HN1 | exact hgrow9.cell (by assumption) HN2 | exact hid (gb_trans (Hid.out (by assumption)) hgrow9)))) (first | ((with_reducible refine (CL1.out _).mono ?_); rintro e w2 ⟨rfl, hb⟩; have BR : Below wc.heap.size wc w2 := btrans (a := wc) (bdrew (Below.refl _ _)) hb; have hs2 : wc.heap.size ≤ w2.heap.size := BR.size) | ((with_reducible refine (CL2.out _).mono ?_); rintro e w2 ⟨rfl, hb⟩; have BR : Below wc.heap.size wc w2 := btrans BR hb; have hs3 : wc.heap.size ≤ w2.heap.size := BR.size) | ((refine step_append_lies _ (by rfl) _ _ _ (by rfl) (w.heap.size + 1) 99 ii iz 5 40 EU.out EI.out EZ.out E5.out E40.out EZ5.out (by omega) va E1.length (edgesV E1) (by rfl) (own_below R4.out.own (by ((with_reducible (repeat (first | assumption | exact Below.refl _ _ | refine bset ?_ (Nat.le_refl _) _ | refine balloc ?_ _ | refine bdrew ?_ | refine bdrewN ?_ _))); done))) ⟨w2.heap.size, 0, none⟩ 1 1 (Edge.cells (Edge.mk i j (if 0 < la - lb + 1 then la - lb + 1 else 0) ds 2)) (by rfl) (by rfl) (World.news_of_block (heap_new_at _ _ _ (by simp))) (edge_one _) (by omega) (by unfold maxLen; omega) (by omega) (by simp; omega) _ rfl ?_); intro g3 d3 w9 hown9 hgrow9 hat9 hlt9))
            have R5 : Hid (RpAt w w9 t (.slice (some ⟨g3, 0, none⟩) (E1.length + 1) d3) (E1 ++ [Edge.mk i j (max 0 (la - lb + 1)) ds 2])) := hid (by
              have em : max 0 (la - lb + 1) = if 0 < la - lb + 1 then la - lb + 1 else 0 := by split <;> omega
              rw [em]
              refine RpAt.push (es := [Edge.mk i j (if 0 < la - lb + 1 then la - lb + 1 else 0) ds 2]) R4.out ?_ hgrow9 (by rw [List.length_append]; rfl) (by simp) hown9
              ((with_reducible (repeat (first | assumption | exact Below.refl _ _ | refine bset ?_ (Nat.le_refl _) _ | refine balloc ?_ _ | refine bdrew ?_ | refine bdrewN ?_ _))); done))
            clear hown9 hgrow9 hat9 hlt9
            go_split_ands
            go_wp2
            all_goals
              go_meet
              case rel => exact ⟨_, rfl, R5⟩
          | false =>
            have R5 : Hid (RpAt w wc t va (E1 ++ [])) := hid (by rw [List.append_nil]; exact R4.out)
            go_wp2
            go_meet
            case rel => exact ⟨_, rfl, R5⟩
        case rest =>
          obtain ⟨vb, rfl, R5⟩ := hcut
          have L2 := if_len c (Edge.mk i j (max 0 (la - lb + 1)) ds 2)
          generalize (if c = true then [Edge.mk i j (max 0 (la - lb + 1)) ds 2] else []) = E2 at PE R5 L2
          have ho2 : (E1 ++ E2).length ≤ 2 := by rw [List.length_append]; omega
          clear R4 L1 L2 CL1 CL2 CW HHB
          generalize hout2 : E1 ++ E2 = out2 at R5 ho2
          have HO2 := hid hout2
          clear hout2
          have ME : Hid (rmemE t a b i j ds m = if m && (a.k == 16 || b.k == 16) then [Edge.mk i j (if a.k == 16 && b.k == 15 then t[(6 : Nat)]?.getD 0 else if a.k == 16 then 1 else 0) ds 3] else []) := hid rfl
          generalize rmemE t a b i j ds m = E3 at ME PE
          have OE : Hid (ordE a b i j ds = if effB a.k && effB b.k then [Edge.mk i j 1 ds 4] else []) := hid rfl
          generalize ordE a b i j ds = E4 at OE PE
          go_upto_region 7 with (fail)
          go_cut [88] (fun v88 wx => ∃ c : Bool, v88 = .bool c ∧ Hid ((m && (a.k == 16 || b.k == 16)) = c) ∧ Hid (RpAt w wx t vb out2))
          case first =>
            obtain ⟨p0, _⟩ := OIx.out _ R5.out.bel
            obtain ⟨q0, _⟩ := OJx.out _ R5.out.bel
            generalize a.k = ka at *
            generalize b.k = kb at *
            cases m with
            | false =>
              go_wp2
              go_meet
              case rel => exact ⟨false, rfl, hid rfl, R5⟩
            | true =>
              cases hka : (ka == 16) with
              | true =>
                go_wp2
                go_meet
                case rel => exact ⟨true, rfl, hid (by rw [hka]; rfl), R5⟩
              | false =>
                go_wp2
                go_meet
                case rel => exact ⟨(kb == 16), rfl, hid (by rw [hka]; rfl), R5⟩
          case rest =>
            obtain ⟨c, rfl, hc, R6⟩ := hcut
            have ME2 := ME.out
            rw [hc.out] at ME2
            replace ME := hid ME2
            clear ME2 R5
            go_upto_if 88 with (fail)
            go_cut [13] (fun v13 wx => ∃ vc : Value, vc = v13 ∧ Hid (RpAt w wx t vc (out2 ++ E3)))
            case first =>
              cases c with
              | false =>
                have R7 : Hid (RpAt w wc t vb (out2 ++ E3)) := hid (by
                  rw [ME.out, if_neg (by decide), List.append_nil]
                  exact R6.out)
                go_wp2
                go_meet
                case rel => exact ⟨_, rfl, R7⟩
              | true =>
                obtain ⟨p0, _⟩ := OIx.out _ R6.out.bel
                obtain ⟨q0, _⟩ := OJx.out _ R6.out.bel
                obtain ⟨k0, k1, k2, k3, k4, k5, k6, k7, k8, k9, k10, k11, k12⟩ := RC.out _ _ _ R6.out
                have hgo2 : go < wc.heap.size := Nat.lt_of_lt_of_le hgo R6.out.bel.size
                have hws : w.heap.size < wc.heap.size := R6.out.sz
                have ME2 := ME.out
                rw [if_pos rfl, hT6.out] at ME2
                obtain ⟨ka, hka0⟩ : ∃ ka, a.k = ka := ⟨_, rfl⟩
                obtain ⟨kb, hkb0⟩ : ∃ kb, b.k = kb := ⟨_, rfl⟩
                rw [hka0, hkb0] at ME2
                rw [hka0] at p0
                rw [hkb0] at q0
                replace ME := hid ME2
                clear ME2 hka0 hkb0 k0 k1 k2 k3 k4 k5 k7 k8 k9 k10 k11 k12 hc
                cases hka : (ka == 16) with
                | true =>
                  cases hkb : (kb == 15) with
                  | true =>
                    have ME3 : E3 = [Edge.mk i j t6 ds 3] := by rw [ME.out, hka, hkb]; rfl
                    replace ME3 := hid ME3
                    go_wp2_with (at_builtin; refine wpList_append_lies _ (by rfl) _ _ _ (by rfl) (w.heap.size + 1) 99 ii iz 5 40 EU.out EI.out EZ.out E5.out E40.out EZ5.out (by omega) vb out2.length (edgesV out2) (by rfl) ?eown ⟨wc.heap.size + 1, 0, none⟩ 1 1 (Edge.cells (Edge.mk i j t6 ds 3)) (by rfl) (by rfl) ?enews ?eone (by omega) ?e63 ?ebytes ?ebase _ rfl ?_)
                    case eown => exact own_below R6.out.own (by ((with_reducible (repeat (first | assumption | exact Below.refl _ _ | refine bset ?_ (Nat.le_refl _) _ | refine balloc ?_ _ | refine bdrew ?_ | refine bdrewN ?_ _))); done))
                    case enews => first | exact (fun j u h => h) | exact World.news_of_block (heap_new_at _ _ _ (by simp))
                    case eone => exact edge_one _
                    case e63 => unfold maxLen; omega
                    case ebytes => omega
                    case ebase => first | omega | (simp; omega)
                    intro g3 d3 w7 hown7 hgrow7 hat hlt7
                    have R7 : Hid (RpAt w w7 t (.slice (some ⟨g3, 0, none⟩) (out2.length + 1) d3) (out2 ++ E3)) := hid (by
                      rw [ME3.out]
                      refine RpAt.push (es := [Edge.mk i j t6 ds 3]) R6.out ?_ hgrow7 (by rw [List.length_append]; rfl) (by simp) hown7
                      ((with_reducible (repeat (first | assumption | exact Below.refl _ _ | refine bset ?_ (Nat.le_refl _) _ | refine balloc ?_ _ | refine bdrew ?_ | refine bdrewN ?_ _))); done))
                    clear hown7 hgrow7 hat hlt7
                    go_wp2
                    go_meet
                    case rel => exact ⟨_, rfl, R7⟩
                  | false =>
                    have ME3 : E3 = [Edge.mk i j 1 ds 3] := by rw [ME.out, hka, hkb]; rfl
                    replace ME3 := hid ME3
                    go_wp2_with (at_builtin; refine wpList_append_lies _ (by rfl) _ _ _ (by rfl) (w.heap.size + 1) 99 ii iz 5 40 EU.out EI.out EZ.out E5.out E40.out EZ5.out (by omega) vb out2.length (edgesV out2) (by rfl) ?fown ⟨wc.heap.size + 1, 0, none⟩ 1 1 (Edge.cells (Edge.mk i j 1 ds 3)) (by rfl) (by rfl) ?fnews ?fone (by omega) ?f63 ?fbytes ?fbase _ rfl ?_)
                    case fown => exact own_below R6.out.own (by ((with_reducible (repeat (first | assumption | exact Below.refl _ _ | refine bset ?_ (Nat.le_refl _) _ | refine balloc ?_ _ | refine bdrew ?_ | refine bdrewN ?_ _))); done))
                    case fnews => first | exact (fun j u h => h) | exact World.news_of_block (heap_new_at _ _ _ (by simp))
                    case fone => exact edge_one _
                    case f63 => unfold maxLen; omega
                    case fbytes => omega
                    case fbase => first | omega | (simp; omega)
                    intro g3 d3 w7 hown7 hgrow7 hat hlt7
                    have R7 : Hid (RpAt w w7 t (.slice (some ⟨g3, 0, none⟩) (out2.length + 1) d3) (out2 ++ E3)) := hid (by
                      rw [ME3.out]
                      refine RpAt.push (es := [Edge.mk i j 1 ds 3]) R6.out ?_ hgrow7 (by rw [List.length_append]; rfl) (by simp) hown7
                      ((with_reducible (repeat (first | assumption | exact Below.refl _ _ | refine bset ?_ (Nat.le_refl _) _ | refine balloc ?_ _ | refine bdrew ?_ | refine bdrewN ?_ _))); done))
                    clear hown7 hgrow7 hat hlt7
                    go_wp2
                    go_meet
                    case rel => exact ⟨_, rfl, R7⟩
                | false =>
                  have ME3 : E3 = [Edge.mk i j 0 ds 3] := by rw [ME.out, hka]; rfl
                  replace ME3 := hid ME3
                  go_wp2_with (at_builtin; refine wpList_append_lies _ (by rfl) _ _ _ (by rfl) (w.heap.size + 1) 99 ii iz 5 40 EU.out EI.out EZ.out E5.out E40.out EZ5.out (by omega) vb out2.length (edgesV out2) (by rfl) ?gown ⟨wc.heap.size + 1, 0, none⟩ 1 1 (Edge.cells (Edge.mk i j 0 ds 3)) (by rfl) (by rfl) ?gnews ?gone (by omega) ?g63 ?gbytes ?gbase _ rfl ?_)
                  case gown => exact own_below R6.out.own (by ((with_reducible (repeat (first | assumption | exact Below.refl _ _ | refine bset ?_ (Nat.le_refl _) _ | refine balloc ?_ _ | refine bdrew ?_ | refine bdrewN ?_ _))); done))
                  case gnews => first | exact (fun j u h => h) | exact World.news_of_block (heap_new_at _ _ _ (by simp))
                  case gone => exact edge_one _
                  case g63 => unfold maxLen; omega
                  case gbytes => omega
                  case gbase => first | omega | (simp; omega)
                  intro g3 d3 w7 hown7 hgrow7 hat hlt7
                  have R7 : Hid (RpAt w w7 t (.slice (some ⟨g3, 0, none⟩) (out2.length + 1) d3) (out2 ++ E3)) := hid (by
                    rw [ME3.out]
                    refine RpAt.push (es := [Edge.mk i j 0 ds 3]) R6.out ?_ hgrow7 (by rw [List.length_append]; rfl) (by simp) hown7
                    ((with_reducible (repeat (first | assumption | exact Below.refl _ _ | refine bset ?_ (Nat.le_refl _) _ | refine balloc ?_ _ | refine bdrew ?_ | refine bdrewN ?_ _))); done))
                  clear hown7 hgrow7 hat hlt7
                  go_wp2
                  go_meet
                  case rel => exact ⟨_, rfl, R7⟩
            case rest =>
              obtain ⟨vc, rfl, R7⟩ := hcut
              have L3 : E3.length ≤ 1 := by rw [ME.out]; exact if_len _ _
              have ho3 : (out2 ++ E3).length ≤ 3 := by rw [List.length_append]; omega
              clear R6 L3 ho2 ME hc
              generalize hout3 : out2 ++ E3 = out3 at R7 ho3
              have HO3 := hid hout3
              clear hout3
              go_upto_region 14 with (fail)
              go_cut [135] (fun v135 wx => ∃ c : Bool, v135 = .bool c ∧ Hid ((effB a.k && effB b.k) = c) ∧ Hid (RpAt w wx t vc out3))
              case first =>
                obtain ⟨p0, p1, p2, p3, p4⟩ := OIx.out _ R7.out.bel
                cases hea : effB a.k with
                | true =>
                  go_wp2_with fail
                  with_reducible refine (CE1.out _).mono ?_
                  rintro e w3 ⟨rfl, hb⟩
                  rw [hea]
                  have R8 := hid (R7.out.keep hb)
                  clear hb p0 p1 p2 p3 p4
                  obtain ⟨q0, q1, q2, q3, q4⟩ := OJx.out _ R8.out.bel
                  go_wp2_with fail
                  with_reducible refine (CE2.out _).mono ?_
                  rintro e w4 ⟨rfl, hb⟩
                  have R9 := hid (R8.out.keep hb)
                  clear hb
                  generalize heb : effB b.k = eb
                  go_wp2
                  go_meet
                  case rel => exact ⟨eb, rfl, hid (by rw [hea, heb]; rfl), R9⟩
                | false =>
                  go_wp2_with fail
                  with_reducible refine (CE1.out _).mono ?_
                  rintro e w3 ⟨rfl, hb⟩
                  rw [hea]
                  have R8 := hid (R7.out.keep hb)
                  clear hb
                  go_wp2
                  go_meet
                  case rel => exact ⟨false, rfl, hid (by rw [hea]; rfl), R8⟩
              case rest =>
                obtain ⟨c, rfl, hc, R8⟩ := hcut
                have OE2 := OE.out
                rw [hc.out] at OE2
                replace OE := hid OE2
                clear OE2 R7 hc
                have FIN : Hid (∀ (w9 : World) (v9 : Value), RpAt w w9 t v9 (out3 ++ E4) → EdgeL (rpairE t a b i j ds m) w (.returned v9) w9) := hid (fun w9 v9 h9 => by
                  rw [PE.out, ← List.append_assoc, ← List.append_assoc, HO2.out, HO3.out]
                  exact h9.done)
                cases c with
                | true =>
                  have hws : w.heap.size < wc.heap.size := R8.out.sz
                  go_wp2_with (at_builtin; refine wpList_append_lies _ (by rfl) _ _ _ (by rfl) (w.heap.size + 1) 99 ii iz 5 40 EU.out EI.out EZ.out E5.out E40.out EZ5.out (by omega) vc out3.length (edgesV out3) (by rfl) ?down ⟨wc.heap.size, 0, none⟩ 1 1 (Edge.cells (Edge.mk i j 1 ds 4)) (by rfl) (by rfl) ?dnews ?done (by omega) ?d63 ?dbytes ?dbase _ rfl ?_)
                  case down => exact own_below R8.out.own (balloc (Below.refl _ _) _)
                  case dnews => first | exact (fun j u h => h) | exact World.news_of_block (heap_new_at _ _ _ (by simp))
                  case done => exact edge_one _
                  case d63 => unfold maxLen; omega
                  case dbytes => omega
                  case dbase => first | omega | (simp; omega)
                  intro g3 d3 w7 hown7 hgrow7 hat hlt7
                  have R9 : Hid (RpAt w w7 t (.slice (some ⟨g3, 0, none⟩) (out3.length + 1) d3) (out3 ++ E4)) := hid (by
                    rw [OE.out]
                    exact RpAt.push (es := [Edge.mk i j 1 ds 4]) R8.out (balloc (Below.refl _ _) _) hgrow7 (by rw [List.length_append]; rfl) (by simp) hown7)
                  clear hown7 hgrow7 hat hlt7
                  go_wp2
                  go_ret
                  exact FIN.out _ _ R9.out
                | false =>
                  have R9 : Hid (RpAt w wc t vc (out3 ++ E4)) := hid (by
                    rw [OE.out, if_neg (by decide), List.append_nil]
                    exact R8.out)
                  go_wp2
                  go_ret
                  exact FIN.out _ _ R9.out
end Go.Proofs.Ytcibkoodnfkogaa
