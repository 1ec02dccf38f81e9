/- The finder's pair. -/
import Derived.Test.YtcibkoodnfkogaaY9
import Derived.BigQuiet
import Derived.Deep.QuietTactic
import Derived.Deep.CutBlock
import Derived.Deep.DeepCutAuto
namespace Go.Proofs.Ytcibkoodnfkogaa
open Go.RowKit
set_option linter.unusedVariables false
set_option linter.unusedSimpArgs false
theorem new_edge (w : World) (x : Edge) (T : TypeId) (cs : Array Value) (n : Nat) (hn : n = w.heap.size) (hc : cs = x.cells.toArray) : ∀ k c, x.cells[k]? = some c → (w.alloc (.cells cs T)).cell? ⟨n, k, none⟩ = some c := by
  subst hn hc
  intro k c hk
  rw [cell_of_row _ _ _ _ _ _ (heap_alloc_new _ _)]
  simpa using hk
/-- What the walk of pair holds from part to part. -/
def PartAt (w0 : World) (B g cap : Nat) (A : Option Addr) (l : List Op) (t : List Int) (v : Value) (out : List Edge) (w wx : World) : Prop :=
  ∃ v', FindAt w0 wx B g A cap l t v' out ∧ Spared g v v' w wx
theorem PartAt.below {w0 : World} {B g cap : Nat} {A : Option Addr} {l : List Op} {t : List Int} {v : Value} {out : List Edge} {w wx wy : World} (h : PartAt w0 B g cap A l t v out w wx) (hb : Below wx.heap.size wx wy) : PartAt w0 B g cap A l t v out w wy := by
  obtain ⟨v', h1, h2⟩ := h
  exact ⟨v', h1.keep hb, h2.trans (Spared.below hb)⟩
theorem edge_mk (i j ds lt y : Int) (x : Edge) (h1 : x.l = lt) (h2 : x.y = y) : [Edge.mk i j x.l ds x.y] = [Edge.mk i j lt ds y] := by rw [h1, h2]
theorem if_len (c : Bool) (x : Edge) : (if c then [x] else []).length ≤ 1 := by cases c <;> simp
set_option maxHeartbeats 4000000 in
set_option maxRecDepth 100000 in
theorem pair_any {w0 w : World} {B g cap : Nat} {A : Option Addr} {l : List Op} {t : List Int} {v : Value} {out : List Edge} (h : FindAt w0 w B g A cap l t v out) (HL : OpsIn w0 A l) (hwf : ∀ o ∈ l, o.wf) (i j : Nat) (hi : i < l.length) (hj : j < l.length) (hm : l.length ≤ 1024) (ds : Int) (m : Bool) (ho : out.length ≤ 90000000) (hlat : ∀ c : Nat, c < 4 → 1 ≤ t[4 + c]?.getD 0 ∧ t[4 + c]?.getD 0 ≤ 8) :
    Calls Try.prog 119 #[.pointer (some ⟨g, 0, none⟩), .int .i64 i, .int .i64 j, .int .i64 ds, .bool m] w (EmitP w0 B g cap A l t v out (pairE t l[i] l[j] i j ds m) w) := by
  have wfi := hwf l[i] (List.getElem_mem hi)
  have wfj := hwf l[j] (List.getElem_mem hj)
  have CS := hid (fun (w : World) (v' : Value) (out' : List Edge) (F : FindAt w0 w B g A cap l t v' out') (r : Int) => sees_any F i hi hm wfi r)
  have CL1 := hid (fun (w : World) (v' : Value) (out' : List Edge) (F : FindAt w0 w B g A cap l t v' out') => lat_any F HL i hi hm)
  have CL2 := hid (fun (w : World) (v' : Value) (out' : List Edge) (F : FindAt w0 w B g A cap l t v' out') => lat_any F HL j hj hm)
  have CE1 := hid (fun (w : World) => effect_any l[i] w)
  have CE2 := hid (fun (w : World) => effect_any l[j] w)
  have RI := hid (fun (w : World) (v' : Value) (out' : List Edge) (F : FindAt w0 w B g A cap l t v' out') => F.rd)
  obtain ⟨go, off, rfl, hopi⟩ := HL.get i hi
  obtain ⟨go2, off2, hab, hopj⟩ := HL.get j hj
  injection hab with hab
  injection hab with e1 e2
  subst e1 e2
  have HI := hid (List.getElem?_eq_getElem hi)
  have HJ := hid (List.getElem?_eq_getElem hj)
  obtain ⟨dx0, dx1⟩ := dN_bd wfi
  obtain ⟨dy0, dy1⟩ := dN_bd wfj
  have bl1 : 1 ≤ latE t l[i] ∧ latE t l[i] ≤ 8 := by
    obtain ⟨c, hc, e⟩ := clsN_nat l[i].k
    unfold latE
    rw [e]
    exact hlat c hc
  have bl2 : 1 ≤ latE t l[j] ∧ latE t l[j] ≤ 8 := by
    obtain ⟨c, hc, e⟩ := clsN_nat l[j].k
    unfold latE
    rw [e]
    exact hlat c hc
  have OI := hid hopi
  have OJ := hid hopj
  have P0 : Hid (PartAt w0 B g cap (some ⟨go, off, none⟩) l t v out w w) := hid ⟨v, h, Spared.refl _ _ _⟩
  clear hopi hopj h HL hwf wfi wfj hlat
  generalize l[i] = a at *
  generalize l[j] = b at *
  obtain ⟨la, hla⟩ : ∃ la, latE t a = la := ⟨_, rfl⟩
  obtain ⟨lb, hlb⟩ : ∃ lb, latE t b = lb := ⟨_, rfl⟩
  rw [hla] at bl1 CL1
  rw [hlb] at bl2 CL2
  obtain ⟨x, hx⟩ : ∃ x, dN a = x := ⟨_, rfl⟩
  obtain ⟨y, hy⟩ : ∃ y, dN b = y := ⟨_, rfl⟩
  rw [hx] at dx0 dx1
  rw [hy] at dy0 dy1
  have PE : Hid (pairE t a b i j ds m = (if decide (0 ≤ y) && seesB a y then [Edge.mk i j 0 ds 1] else []) ++ ((if decide (0 ≤ y) && x == y then [Edge.mk i j (max 0 (la - lb + 1)) ds 2] else []) ++ (memE t a b i j ds m ++ ordE a b i j ds))) := hid (by unfold pairE antiE outDE; rw [hx, hy, hla, hlb])
  have HX := hid hx
  have HY := hid hy
  clear hla hlb hx hy
  generalize hsb : seesB a y = sb at PE
  have HSB := hid hsb
  clear hsb
  go_enter Try.func119, Try.ntmps119
  go_upto_region 0 with (fail)
  go_cut [32] (fun v32 wx => ∃ c : Bool, v32 = .bool c ∧ Hid ((decide (0 ≤ y) && sb) = c) ∧ Hid (PartAt w0 B g cap (some ⟨go, off, none⟩) l t v (out) w wx))
  case first =>
    obtain ⟨v1, F1, S1⟩ := P0.out
    obtain ⟨Ar, cr, Ad, cd, _, h15, hr⟩ := F1.rd
    obtain ⟨_, gd, rfl, _, _, hdj⟩ := hr j b HJ.out
    rw [HY.out] at hdj
    have F := hid F1
    clear F1 S1 hr
    by_cases hy0 : 0 ≤ y
    · go_wp2_with fail
      with_reducible refine (CS.out _ _ _ F.out _).mono ?_
      rintro e w1 ⟨rfl, hb⟩
      rw [HSB.out]
      have P1 := hid (P0.out.below hb)
      clear hb
      go_wp2
      go_meet
      case rel => exact ⟨sb, rfl, hid (by rw [decide_eq_true hy0]; rfl), P1⟩
    · go_wp2
      go_meet
      case rel => exact ⟨false, rfl, hid (by rw [decide_eq_false (by omega)]; rfl), P0⟩
  case rest =>
    obtain ⟨c, rfl, hc, P1⟩ := hcut
    have PE2 := PE.out
    rw [hc.out] at PE2
    replace PE := hid PE2
    clear PE2 P0 hc
    go_upto_if 32 with (fail)
    go_cut [] (fun wx => Hid (PartAt w0 B g cap (some ⟨go, off, none⟩) l t v (out ++ (if c then [Edge.mk i j 0 ds 1] else [])) w wx))
    case first =>
      obtain ⟨v1, F1, S1⟩ := P1.out
      have F := hid F1
      have S := hid S1
      clear F1 S1
      cases c with
      | true =>
        go_wp2_with fail
        with_reducible refine (put_any (F.out.keep ?hkeep) _ ⟨0, 0, 0, 0, 1⟩ (new_edge _ _ _ _ _ ?hn ?hc) _ _ _ ?ho).mono ?_
        case hkeep => ((with_reducible (repeat (first | assumption | exact Below.refl _ _ | refine bset ?_ (Nat.le_refl _) _ | refine balloc ?_ _ | refine bdrew ?_ | refine bdrewN ?_ _))); done)
        case hn => first | rfl | simp
        case hc => rfl
        case ho => omega
        rintro e w2 ⟨v2, rfl, F2, S2⟩
        have P2 : Hid (PartAt w0 B g cap (some ⟨go, off, none⟩) l t v (out ++ [Edge.mk i j 0 ds 1]) w w2) := hid ⟨v2, F2, S.out.trans ((Spared.below (by ((with_reducible (repeat (first | assumption | exact Below.refl _ _ | refine bset ?_ (Nat.le_refl _) _ | refine balloc ?_ _ | refine bdrew ?_ | refine bdrewN ?_ _))); done))).trans S2)⟩
        clear F2 S2
        go_wp2
        go_meet
        case rel => exact P2
      | false =>
        have P2 : Hid (PartAt w0 B g cap (some ⟨go, off, none⟩) l t v (out ++ []) w wc) := hid (by rw [List.append_nil]; exact P1.out)
        go_wp2
        go_meet
        case rel => exact P2
    case rest =>
      have P2 := hcut
      have L1 := if_len c (Edge.mk i j 0 ds 1)
      generalize (if c = true then [Edge.mk i j 0 ds 1] else []) = E1 at PE P2 L1
      have ho1 : (out ++ E1).length ≤ 90000001 := by rw [List.length_append]; omega
      clear hcut P1 L1 ho CS HSB
      generalize hout1 : out ++ E1 = out1 at P2 ho1
      have HO1 := hid hout1
      clear hout1
      go_upto_region 2 with (fail)
      go_cut [64] (fun v64 wx => ∃ c : Bool, v64 = .bool c ∧ Hid ((decide (0 ≤ y) && x == y) = c) ∧ Hid (PartAt w0 B g cap (some ⟨go, off, none⟩) l t v (out1) w wx))
      case first =>
        obtain ⟨v1, F1, S1⟩ := P2.out
        obtain ⟨Ar, cr, Ad, cd, _, h15, hr⟩ := F1.rd
        obtain ⟨_, gd, rfl, _, _, hdj⟩ := hr j b HJ.out
        obtain ⟨_, gd2, e0, _, _, hdi⟩ := hr i a HI.out
        injection e0 with e0
        injection e0 with e0
        subst e0
        rw [HY.out] at hdj
        rw [HX.out] at hdi
        clear F1 S1 hr
        by_cases hy0 : 0 ≤ y
        · cases hxy : (x == y) with
          | true =>
            go_quiet (fail)
            have P3 := hid (P2.out.below (bdrewN (Below.refl _ _) nq))
            go_wp2
            go_meet
            case rel => exact ⟨true, rfl, hid (by rw [decide_eq_true hy0, hxy]; rfl), P3⟩
          | false =>
            go_quiet (fail)
            have P3 := hid (P2.out.below (bdrewN (Below.refl _ _) nq))
            go_wp2
            go_meet
            case rel => exact ⟨false, rfl, hid (by rw [decide_eq_true hy0, hxy]; rfl), P3⟩
        · go_quiet (fail)
          have P3 := hid (P2.out.below (bdrewN (Below.refl _ _) nq))
          go_wp2
          go_meet
          case rel => exact ⟨false, rfl, hid (by rw [decide_eq_false (by omega)]; rfl), P3⟩
      case rest =>
        obtain ⟨c, rfl, hc, P3⟩ := hcut
        have PE2 := PE.out
        rw [hc.out] at PE2
        replace PE := hid PE2
        clear PE2 P2 hc
        go_upto_if 64 with (fail)
        go_cut [] (fun wx => Hid (PartAt w0 B g cap (some ⟨go, off, none⟩) l t v (out1 ++ (if c then [Edge.mk i j (max 0 (la - lb + 1)) ds 2] else [])) w wx))
        case first =>
          obtain ⟨v1, F1, S1⟩ := P3.out
          have F := hid F1
          have S := hid S1
          clear F1 S1
          cases c with
          | true =>
            go_wp2_with fail
            with_reducible refine (CL1.out _ _ _ F.out).mono ?_
            rintro e w3 ⟨rfl, hb⟩
            replace S := hid (S.out.trans (Spared.below hb))
            replace F := hid (F.out.keep hb)
            clear hb
            go_wp2_with fail
            with_reducible refine (CL2.out _ _ _ F.out).mono ?_
            rintro e w4 ⟨rfl, hb⟩
            replace S := hid (S.out.trans (Spared.below hb))
            replace F := hid (F.out.keep hb)
            clear hb
            by_cases hpos : la - lb + 1 ≤ 0
            · go_wp2_with fail
              with_reducible refine (put_any (F.out.keep ?hkeep) _ ⟨0, 0, 0, 0, 2⟩ (new_edge _ _ _ _ _ ?hn ?hc) _ _ _ ?ho).mono ?_
              case hkeep => ((with_reducible (repeat (first | assumption | exact Below.refl _ _ | refine bset ?_ (Nat.le_refl _) _ | refine balloc ?_ _ | refine bdrew ?_ | refine bdrewN ?_ _))); done)
              case hn => first | rfl | simp
              case hc => rfl
              case ho => omega
              rintro e w2 ⟨v2, rfl, F2, S2⟩
              have P4 : Hid (PartAt w0 B g cap (some ⟨go, off, none⟩) l t v (out1 ++ [Edge.mk i j (max 0 (la - lb + 1)) ds 2]) w w2) := hid (by
                rw [show max 0 (la - lb + 1) = 0 by omega]
                exact ⟨v2, F2, S.out.trans ((Spared.below (by ((with_reducible (repeat (first | assumption | exact Below.refl _ _ | refine bset ?_ (Nat.le_refl _) _ | refine balloc ?_ _ | refine bdrew ?_ | refine bdrewN ?_ _))); done))).trans S2)⟩)
              clear F2 S2
              go_wp2
              go_meet
              case rel => exact P4
            · go_wp2_with fail
              with_reducible refine (put_any (F.out.keep ?hkeep) _ ⟨0, 0, la - lb + 1, 0, 2⟩ (new_edge _ _ _ _ _ ?hn ?hc) _ _ _ ?ho).mono ?_
              case hkeep => ((with_reducible (repeat (first | assumption | exact Below.refl _ _ | refine bset ?_ (Nat.le_refl _) _ | refine balloc ?_ _ | refine bdrew ?_ | refine bdrewN ?_ _))); done)
              case hn => first | rfl | simp
              case hc => rfl
              case ho => omega
              rintro e w2 ⟨v2, rfl, F2, S2⟩
              have P4 : Hid (PartAt w0 B g cap (some ⟨go, off, none⟩) l t v (out1 ++ [Edge.mk i j (max 0 (la - lb + 1)) ds 2]) w w2) := hid (by
                rw [show max 0 (la - lb + 1) = la - lb + 1 by omega]
                exact ⟨v2, F2, S.out.trans ((Spared.below (by ((with_reducible (repeat (first | assumption | exact Below.refl _ _ | refine bset ?_ (Nat.le_refl _) _ | refine balloc ?_ _ | refine bdrew ?_ | refine bdrewN ?_ _))); done))).trans S2)⟩)
              clear F2 S2
              go_wp2
              go_meet
              case rel => exact P4
          | false =>
            have P4 : Hid (PartAt w0 B g cap (some ⟨go, off, none⟩) l t v (out1 ++ []) w wc) := hid (by rw [List.append_nil]; exact P3.out)
            go_wp2
            go_meet
            case rel => exact P4
        case rest =>
          have P4 := hcut
          have L2 := if_len c (Edge.mk i j (max 0 (la - lb + 1)) ds 2)
          generalize (if c = true then [Edge.mk i j (max 0 (la - lb + 1)) ds 2] else []) = E2 at PE P4 L2
          have ho2 : (out1 ++ E2).length ≤ 90000002 := by rw [List.length_append]; omega
          clear hcut P3 L2 ho1 CL1 CL2 RI HX HY
          generalize hout2 : out1 ++ E2 = out2 at P4 ho2
          have HO2 := hid hout2
          clear hout2
          go_upto_region 4 with (fail)
          go_cut [10, 11] (fun v10 v11 wx => v10 = .bool (a.k == 16) ∧ v11 = .bool (b.k == 16) ∧ Hid (PartAt w0 B g cap (some ⟨go, off, none⟩) l t v (out2) w wx))
          case first =>
            obtain ⟨v1, F1, S1⟩ := P4.out
            have z0 := F1.c0
            obtain ⟨p1, _⟩ := OI.out.keep F1.bel
            obtain ⟨p2, _⟩ := OJ.out.keep F1.bel
            clear F1 S1
            generalize a.k = ka at *
            generalize b.k = kb at *
            go_quiet (fail)
            have P5 := hid (P4.out.below (bdrewN (Below.refl _ _) nq))
            go_wp2
            go_meet
            case rel => exact ⟨rfl, rfl, P5⟩
          case rest =>
            obtain ⟨rfl, rfl, P5⟩ := hcut
            have ME : Hid (memE t a b i j ds m = if m && (a.k == 16 || b.k == 16) then [Edge.mk i j (if a.k == 16 && b.k == 16 then 1 else if a.k == 16 then t[(6 : Nat)]?.getD 0 else 0) ds 3] else []) := hid rfl
            generalize memE t a b i j ds m = E3 at ME PE
            have OE : Hid (ordE a b i j ds = if effB a.k && effB b.k then [Edge.mk i j 1 ds 4] else []) := hid rfl
            generalize ordE a b i j ds = E4 at OE PE
            generalize (a.k == 16) = sa at *
            generalize (b.k == 16) = sc at *
            clear P4
            go_upto_region 5 with (fail)
            go_cut [105] (fun v105 wx => ∃ c : Bool, v105 = .bool c ∧ Hid ((m && (sa || sc)) = c) ∧ Hid (PartAt w0 B g cap (some ⟨go, off, none⟩) l t v (out2) w wx))
            case first =>
              cases m with
              | false =>
                go_wp2
                go_meet
                case rel => exact ⟨false, rfl, hid rfl, P5⟩
              | true =>
                cases sa with
                | true =>
                  go_wp2
                  go_meet
                  case rel => exact ⟨true, rfl, hid rfl, P5⟩
                | false =>
                  go_wp2
                  go_meet
                  case rel => exact ⟨sc, rfl, hid rfl, P5⟩
            case rest =>
              obtain ⟨c, rfl, hc, P6⟩ := hcut
              have ME2 := ME.out
              rw [hc.out] at ME2
              have HSC : Hid (c = true → sa = false → sc = true) := hid (by
                intro e1 e2
                have := hc.out
                rw [e1, e2] at this
                rw [Bool.and_eq_true] at this
                exact this.2)
              replace ME := hid ME2
              clear ME2 P5 hc
              go_upto_if 105 with (fail)
              go_cut [] (fun wx => Hid (PartAt w0 B g cap (some ⟨go, off, none⟩) l t v (out2 ++ E3) w wx))
              case first =>
                cases c with
                | false =>
                  have P7 : Hid (PartAt w0 B g cap (some ⟨go, off, none⟩) l t v (out2 ++ E3) w wc) := hid (by
                    rw [ME.out, if_neg (by decide), List.append_nil]
                    exact P6.out)
                  go_wp2
                  go_meet
                  case rel => exact P7
                | true =>
                  obtain ⟨v1, F1, S1⟩ := P6.out
                  have hgw := F1.gw
                  have zt : wc.cell? ⟨g, 7, none⟩ = some (.int .i64 (t[(6 : Nat)]?.getD 0)) := F1.ct 6 (by omega)
                  have F := hid F1
                  have S := hid S1
                  clear F1 S1
                  generalize t[(6 : Nat)]?.getD 0 = t6 at *
                  cases sa with
                  | true =>
                    cases sc with
                    | true =>
                      go_wp2_with fail
                      with_reducible refine (put_any (F.out.keep ?hkeep) _ ⟨0, 0, 1, 0, 3⟩ (new_edge _ _ _ _ _ ?hn ?hc) _ _ _ ?ho).mono ?_
                      case hkeep => ((with_reducible (repeat (first | assumption | exact Below.refl _ _ | refine bset ?_ (Nat.le_refl _) _ | refine balloc ?_ _ | refine bdrew ?_ | refine bdrewN ?_ _))); done)
                      case hn => first | rfl | simp
                      case hc => rfl
                      case ho => omega
                      rintro e w2 ⟨v2, rfl, F2, S2⟩
                      have P7 : Hid (PartAt w0 B g cap (some ⟨go, off, none⟩) l t v (out2 ++ E3) w w2) := hid (by
                        rw [ME.out]
                        exact ⟨v2, F2, S.out.trans ((Spared.below (by ((with_reducible (repeat (first | assumption | exact Below.refl _ _ | refine bset ?_ (Nat.le_refl _) _ | refine balloc ?_ _ | refine bdrew ?_ | refine bdrewN ?_ _))); done))).trans S2)⟩)
                      clear F2 S2
                      go_wp2
                      go_meet
                      case rel => exact P7
                    | false =>
                      go_wp2_with fail
                      with_reducible refine (put_any (F.out.keep ?hkeep) _ ⟨0, 0, t6, 0, 3⟩ (new_edge _ _ _ _ _ ?hn ?hc) _ _ _ ?ho).mono ?_
                      case hkeep => ((with_reducible (repeat (first | assumption | exact Below.refl _ _ | refine bset ?_ (Nat.le_refl _) _ | refine balloc ?_ _ | refine bdrew ?_ | refine bdrewN ?_ _))); done)
                      case hn => first | rfl | simp
                      case hc => rfl
                      case ho => omega
                      rintro e w2 ⟨v2, rfl, F2, S2⟩
                      have P7 : Hid (PartAt w0 B g cap (some ⟨go, off, none⟩) l t v (out2 ++ E3) w w2) := hid (by
                        rw [ME.out]
                        exact ⟨v2, F2, S.out.trans ((Spared.below (by ((with_reducible (repeat (first | assumption | exact Below.refl _ _ | refine bset ?_ (Nat.le_refl _) _ | refine balloc ?_ _ | refine bdrew ?_ | refine bdrewN ?_ _))); done))).trans S2)⟩)
                      clear F2 S2
                      go_wp2
                      go_meet
                      case rel => exact P7
                  | false =>
                    obtain rfl := HSC.out rfl rfl
                    go_wp2_with fail
                    with_reducible refine (put_any (F.out.keep ?hkeep) _ ⟨0, 0, 0, 0, 3⟩ (new_edge _ _ _ _ _ ?hn ?hc) _ _ _ ?ho).mono ?_
                    case hkeep => ((with_reducible (repeat (first | assumption | exact Below.refl _ _ | refine bset ?_ (Nat.le_refl _) _ | refine balloc ?_ _ | refine bdrew ?_ | refine bdrewN ?_ _))); done)
                    case hn => first | rfl | simp
                    case hc => rfl
                    case ho => omega
                    rintro e w2 ⟨v2, rfl, F2, S2⟩
                    have P7 : Hid (PartAt w0 B g cap (some ⟨go, off, none⟩) l t v (out2 ++ E3) w w2) := hid (by
                      rw [ME.out]
                      exact ⟨v2, F2, S.out.trans ((Spared.below (by ((with_reducible (repeat (first | assumption | exact Below.refl _ _ | refine bset ?_ (Nat.le_refl _) _ | refine balloc ?_ _ | refine bdrew ?_ | refine bdrewN ?_ _))); done))).trans S2)⟩)
                    clear F2 S2
                    go_wp2
                    go_meet
                    case rel => exact P7
              case rest =>
                have P7 := hcut
                have L3 : E3.length ≤ 1 := by rw [ME.out]; exact if_len _ _
                have ho3 : (out2 ++ E3).length ≤ 90000003 := by rw [List.length_append]; omega
                clear hcut P6 L3 ho2 ME HSC
                generalize hout3 : out2 ++ E3 = out3 at P7 ho3
                have HO3 := hid hout3
                clear hout3
                go_upto_region 12 with (fail)
                go_cut [146] (fun v146 wx => ∃ c : Bool, v146 = .bool c ∧ Hid ((effB a.k && effB b.k) = c) ∧ Hid (PartAt w0 B g cap (some ⟨go, off, none⟩) l t v (out3) w wx))
                case first =>
                  obtain ⟨v1, F1, S1⟩ := P7.out
                  have z0 := F1.c0
                  have hgw := F1.gw
                  obtain ⟨p0, p1, p2, p3, p4⟩ := OI.out.keep F1.bel
                  have FB := hid F1.bel
                  clear F1 S1
                  cases hea : effB a.k with
                  | true =>
                    go_wp2_with fail
                    with_reducible refine (CE1.out _).mono ?_
                    rintro e w3 ⟨rfl, hb⟩
                    rw [hea]
                    have P8 := hid (P7.out.below hb)
                    have z1 := cell_keep z0 hb
                    obtain ⟨q0, q1, q2, q3, q4⟩ := (OJ.out.keep FB.out).keep hb
                    clear hb p0 p1 p2 p3 p4 z0
                    go_wp2_with fail
                    with_reducible refine (CE2.out _).mono ?_
                    rintro e w4 ⟨rfl, hb⟩
                    have P9 := hid (P8.out.below hb)
                    clear hb
                    generalize heb : effB b.k = eb
                    go_wp2
                    go_meet
                    case rel => exact ⟨eb, rfl, hid (by rw [hea, heb]; rfl), P9⟩
                  | false =>
                    go_wp2_with fail
                    with_reducible refine (CE1.out _).mono ?_
                    rintro e w3 ⟨rfl, hb⟩
                    rw [hea]
                    have P8 := hid (P7.out.below hb)
                    clear hb
                    go_wp2
                    go_meet
                    case rel => exact ⟨false, rfl, hid (by rw [hea]; rfl), P8⟩
                case rest =>
                  obtain ⟨c, rfl, hc, P8⟩ := hcut
                  have OE2 := OE.out
                  rw [hc.out] at OE2
                  replace OE := hid OE2
                  clear OE2 P7 hc
                  have FIN : Hid (∀ w9 : World, PartAt w0 B g cap (some ⟨go, off, none⟩) l t v (out3 ++ E4) w w9 → EmitP w0 B g cap (some ⟨go, off, none⟩) l t v out (pairE t a b i j ds m) w (.returned (.tuple #[])) w9) := hid (fun w9 ⟨v9, F9, S9⟩ => by
                    refine ⟨v9, rfl, ?_, S9⟩
                    rw [PE.out, ← List.append_assoc, ← List.append_assoc, ← List.append_assoc, HO1.out, HO2.out, HO3.out]
                    exact F9)
                  obtain ⟨v1, F1, S1⟩ := P8.out
                  have F := hid F1
                  have S := hid S1
                  clear F1 S1
                  cases c with
                  | true =>
                    go_wp2_with fail
                    with_reducible refine (put_any (F.out.keep ?hkeep) _ ⟨0, 0, 1, 0, 4⟩ (new_edge _ _ _ _ _ ?hn ?hc) _ _ _ ?ho).mono ?_
                    case hkeep => ((with_reducible (repeat (first | assumption | exact Below.refl _ _ | refine bset ?_ (Nat.le_refl _) _ | refine balloc ?_ _ | refine bdrew ?_ | refine bdrewN ?_ _))); done)
                    case hn => first | rfl | simp
                    case hc => rfl
                    case ho => omega
                    rintro e w2 ⟨v2, rfl, F2, S2⟩
                    have P9 : Hid (PartAt w0 B g cap (some ⟨go, off, none⟩) l t v (out3 ++ E4) w w2) := hid (by
                      rw [OE.out]
                      exact ⟨v2, F2, S.out.trans ((Spared.below (by ((with_reducible (repeat (first | assumption | exact Below.refl _ _ | refine bset ?_ (Nat.le_refl _) _ | refine balloc ?_ _ | refine bdrew ?_ | refine bdrewN ?_ _))); done))).trans S2)⟩)
                    clear F2 S2
                    go_wp2
                    exact bodyPost_ret (v := .tuple #[]) (by simp [results, Try.results119, go_sem]) rfl (FIN.out _ P9.out)
                  | false =>
                    have P9 : Hid (PartAt w0 B g cap (some ⟨go, off, none⟩) l t v (out3 ++ E4) w wc) := hid (by
                      rw [OE.out, if_neg (by decide), List.append_nil]
                      exact P8.out)
                    go_wp2
                    exact bodyPost_ret (v := .tuple #[]) (by simp [results, Try.results119, go_sem]) rfl (FIN.out _ P9.out)
end Go.Proofs.Ytcibkoodnfkogaa
