/- Dependences: the document's flows and Right. -/
import Derived.Test.YtcibkoodnfkogaaY14
import Derived.Laws.OwnMore
import Derived.Test.YtcibkoodnfkogaaY4
import Derived.Test.YtcibkoodnfkogaaY13
namespace Go.Proofs.Ytcibkoodnfkogaa
open Go.RowKit
set_option linter.unusedVariables false
set_option linter.unusedSimpArgs false
section
open Go.RowKit
def flowR (l : List Op) (i j : Nat) (around : Bool) (r : Int) : Bool := if around then decide (lastR l j r - 1 < 0) && lastR l l.length r - 1 == (i : Int) else lastR l j r - 1 == (i : Int)
theorem eq_shift (x i : Int) : (x - 1 == i) = (x == i + 1) := by
  by_cases h : x - 1 = i
  · rw [beq_iff_eq.2 h, eq_comm, beq_iff_eq]; omega
  · rw [(beq_eq_false_iff_ne (a := x - 1) (b := i)).2 h, eq_comm, beq_eq_false_iff_ne]; omega
theorem flow_once {l : List Op} {i j : Nat} (hj : j < l.length) : ((rds l[j]).any fun r => flowR l i j false r) = fromB (lastT l j) l[j] i := by
  unfold fromB flowR lastR
  congr 1
  funext r
  rw [if_neg (by decide), eq_shift]
theorem flow_arnd {l : List Op} {i j : Nat} (hw : ∀ o ∈ l, o.wf) (hj : j < l.length) : ((rds l[j]).any fun r => flowR l i j true r) = fromB (openT l j) l[j] i := by
  unfold fromB
  have hb := rds_bd (hw _ (List.getElem_mem hj))
  generalize rds l[j] = L at *
  induction L with
  | nil => rfl
  | cons r L ih =>
    rw [List.any_cons, List.any_cons, ih (fun x hx => hb x (List.mem_cons_of_mem _ hx))]
    congr 1
    obtain ⟨h0, h1⟩ := hb r (List.mem_cons_self ..)
    rw [openT_eq hw h0 h1 j (by omega)]
    unfold flowR
    rw [if_pos rfl]
    by_cases hc : lastR l j r - 1 < 0
    · rw [if_pos hc, decide_eq_true hc, Bool.true_and, eq_shift]
    · rw [if_neg hc, decide_eq_false hc, Bool.false_and, eq_comm, beq_eq_false_iff_ne]
      omega
set_option maxHeartbeats 4000000 in
set_option maxRecDepth 100000 in
theorem rflows_any (A : Option Addr) (l : List Op) (cap : Nat) (i j : Nat) (around : Bool) (w : World) (HL : OpsIn w A l) (hwf : ∀ o ∈ l, o.wf) (hj : j < l.length) (hi : i < l.length) (hm : l.length ≤ 1024) :
    Calls Try.prog 93 #[.slice A l.length cap, .int .i64 i, .int .i64 j, .bool around] w fun e w' => e = .returned (.bool ((rds l[j]).any fun r => flowR l i j around r)) ∧ Below w.heap.size w w' := by
  have CR := hid (fun (w : World) => rrd_any l[j] w)
  have CL := hid (fun (w' : World) (hb : Below w.heap.size w w') (n : Nat) (hn : n ≤ l.length) (r : Int) (h0 : 0 ≤ r) (h1 : r ≤ 31) => rlast_any A l cap n r w' (HL.keep hb) hwf hn hm h0 h1)
  have HB := hid (rds_bd (hwf _ (List.getElem_mem hj)))
  have hlen := rds_len l[j]
  obtain ⟨go, off, rfl, hop⟩ := HL.get j hj
  obtain ⟨p0, p1, p2, p3, p4⟩ := hop
  clear HL hwf
  obtain ⟨o, ho⟩ : ∃ o, l[j] = o := ⟨_, rfl⟩
  rw [ho] at CR HB hlen p0 p1 p2 p3 p4 ⊢
  clear ho
  generalize rds o = L at *
  obtain ⟨k, d, a, b, n⟩ := o
  have BD := hid (fun (n : Nat) (hn : n ≤ l.length) (r : Int) => lastR_bd hn r)
  cases around with
  | false =>
    go_enter Try.func93, Try.ntmps93
    go_wp2_with fail
    with_reducible refine (CR.out _).mono ?_
    rintro e w1 ⟨Ai, ci, rfl, hu, hb⟩
    have B1 := hid (btrans (a := w) (by ((with_reducible (repeat (first | assumption | exact Below.refl _ _ | refine bset ?_ (Nat.le_refl _) _ | refine balloc ?_ _ | refine bdrew ?_ | refine bdrewN ?_ _))); done)) hb)
    have HU := hid hu
    clear hb hu CR p0 p1 p2 p3 p4
    go_wp2
    go_loopg [10] L.length (fun gk v10 wr => ∃ k : Nat, k ≤ L.length ∧ v10 = .int .i64 k ∧ Hid (gk + k = L.length) ∧ Hid (Below w1.heap.size w1 wr) ∧ Hid (∀ m x, m < k → L[m]? = some x → flowR l i j false x = false))
    case atStart => exact ⟨0, by omega, rfl, by exact Nat.add_zero _, hid (Below.refl _ _), hid (fun m x hm => absurd hm (Nat.not_lt_zero _))⟩
    case round =>
      obtain ⟨k, hk, rfl, hgk, hbk, hall⟩ := hrel
      by_cases hk2 : k < L.length
      · obtain ⟨gi, oi, rfl, _, _, hc⟩ := HU.out (by rintro rfl; simp at hk2)
        have hx := cell_keep (hc k L[k] (List.getElem?_eq_getElem hk2)) hbk.out
        have HX := hid (List.getElem?_eq_getElem hk2)
        obtain ⟨hx0, hx1⟩ := HB.out L[k] (List.getElem_mem hk2)
        generalize L[k] = x at *
        have FR : Hid (flowR l i j false x = (lastR l j x - 1 == (i : Int))) := hid rfl
        obtain ⟨b0, b1⟩ := BD.out j (by omega) x
        clear hc
        go_wp2_with fail
        with_reducible refine (CL.out _ (btrans B1.out hbk.out) j (by omega) x hx0 hx1).mono ?_
        rintro e w3 ⟨rfl, hb⟩
        have B3 := hid (btrans hbk.out hb)
        clear hb hx
        generalize lastR l j x = y at *
        cases hyi : (y - 1 == (i : Int)) with
        | true =>
          have e : L.any (fun r => flowR l i j false r) = true := List.any_eq_true.2 ⟨x, List.mem_of_getElem? HX.out, by rw [FR.out, hyi]⟩
          replace e := hid e
          go_wp2
          go_ret
          exact ⟨ret_bool e.out.symm, btrans B1.out B3.out⟩
        | false =>
          go_wp2
          go_roundg (L.length - (k + 1))
          case measure => have := hgk.out; omega
          case rel =>
            refine ⟨k + 1, by omega, by go_num, by show _ + _ = _; omega, B3, hid fun m z hmk hz => ?_⟩
            by_cases hmk2 : m < k
            · exact hall.out m z hmk2 hz
            · obtain rfl : m = k := by omega
              rw [HX.out] at hz
              injection hz with hz
              subst hz
              rw [FR.out, hyi]
      · obtain rfl : k = L.length := by omega
        have e : L.any (fun r => flowR l i j false r) = false := by
          rw [List.any_eq_false]
          intro x hx
          obtain ⟨m, hm⟩ := List.getElem?_of_mem hx
          have := hall.out m x (List.getElem?_eq_some_iff.1 hm).1 hm
          simpa using this
        replace e := hid e
        go_wp2
        go_ret
        exact ⟨ret_bool e.out.symm, btrans B1.out hbk.out⟩
  | true =>
    go_enter Try.func93, Try.ntmps93
    go_wp2_with fail
    with_reducible refine (CR.out _).mono ?_
    rintro e w1 ⟨Ai, ci, rfl, hu, hb⟩
    have B1 := hid (btrans (a := w) (by ((with_reducible (repeat (first | assumption | exact Below.refl _ _ | refine bset ?_ (Nat.le_refl _) _ | refine balloc ?_ _ | refine bdrew ?_ | refine bdrewN ?_ _))); done)) hb)
    have HU := hid hu
    clear hb hu CR p0 p1 p2 p3 p4
    go_wp2
    go_loopg [10] L.length (fun gk v10 wr => ∃ k : Nat, k ≤ L.length ∧ v10 = .int .i64 k ∧ Hid (gk + k = L.length) ∧ Hid (Below w1.heap.size w1 wr) ∧ Hid (∀ m x, m < k → L[m]? = some x → flowR l i j true x = false))
    case atStart => exact ⟨0, by omega, rfl, by exact Nat.add_zero _, hid (Below.refl _ _), hid (fun m x hm => absurd hm (Nat.not_lt_zero _))⟩
    case round =>
      obtain ⟨k, hk, rfl, hgk, hbk, hall⟩ := hrel
      by_cases hk2 : k < L.length
      · obtain ⟨gi, oi, rfl, _, _, hc⟩ := HU.out (by rintro rfl; simp at hk2)
        have hx := cell_keep (hc k L[k] (List.getElem?_eq_getElem hk2)) hbk.out
        have HX := hid (List.getElem?_eq_getElem hk2)
        obtain ⟨hx0, hx1⟩ := HB.out L[k] (List.getElem_mem hk2)
        have NX : Hid (flowR l i j true L[k] = false → ∀ m x, m < k + 1 → L[m]? = some x → flowR l i j true x = false) := hid (fun hf m z hmk hz => by
          by_cases hmk2 : m < k
          · exact hall.out m z hmk2 hz
          · obtain rfl : m = k := by omega
            rw [HX.out] at hz
            injection hz with hz
            subst hz
            exact hf)
        clear hall
        generalize L[k] = x at *
        have FR : Hid (flowR l i j true x = (decide (lastR l j x - 1 < 0) && lastR l l.length x - 1 == (i : Int))) := hid rfl
        obtain ⟨b0, b1⟩ := BD.out j (by omega) x
        obtain ⟨b2, b3⟩ := BD.out l.length (Nat.le_refl _) x
        clear hc
        go_wp2_with fail
        with_reducible refine (CL.out _ (btrans B1.out hbk.out) j (by omega) x hx0 hx1).mono ?_
        rintro e w3 ⟨rfl, hb⟩
        have B3 := hid (btrans hbk.out hb)
        have hx2 := cell_keep hx hb
        clear hb hx
        generalize lastR l j x = y at *
        by_cases hy : y - 1 < 0
        · go_wp2_with fail
          with_reducible refine (CL.out _ (btrans B1.out B3.out) l.length (Nat.le_refl _) x hx0 hx1).mono ?_
          rintro e w4 ⟨rfl, hb⟩
          have B4 := hid (btrans B3.out hb)
          clear hb hx2
          generalize lastR l l.length x = z at *
          cases hzi : (z - 1 == (i : Int)) with
          | true =>
            have e : L.any (fun r => flowR l i j true r) = true := List.any_eq_true.2 ⟨x, List.mem_of_getElem? HX.out, by rw [FR.out, decide_eq_true hy, hzi]; rfl⟩
            replace e := hid e
            go_wp2
            go_ret
            exact ⟨ret_bool e.out.symm, btrans B1.out B4.out⟩
          | false =>
            have e := hid (NX.out (by rw [FR.out, hzi, Bool.and_false]))
            go_wp2
            go_roundg (L.length - (k + 1))
            case measure => have := hgk.out; omega
            case rel => exact ⟨k + 1, by omega, by go_num, by show _ + _ = _; omega, B4, e⟩
        · have e := hid (NX.out (by rw [FR.out, decide_eq_false hy]; rfl))
          go_wp2
          go_roundg (L.length - (k + 1))
          case measure => have := hgk.out; omega
          case rel => exact ⟨k + 1, by omega, by go_num, by show _ + _ = _; omega, B3, e⟩
      · obtain rfl : k = L.length := by omega
        have e : L.any (fun r => flowR l i j true r) = false := by
          rw [List.any_eq_false]
          intro x hx
          obtain ⟨m, hm⟩ := List.getElem?_of_mem hx
          have := hall.out m x (List.getElem?_eq_some_iff.1 hm).1 hm
          simpa using this
        replace e := hid e
        go_wp2
        go_ret
        exact ⟨ret_bool e.out.symm, btrans B1.out hbk.out⟩
set_option maxHeartbeats 4000000 in
set_option maxRecDepth 100000 in
theorem rright_any (A : Option Addr) (l : List Op) (cap : Nat) (t : List Int) (w : World) (HL : OpsIn w A l) (hwf : ∀ o ∈ l, o.wf) (hm : l.length ≤ 1000000000000000000) (ht : t.length = 13) :
    Calls Try.prog 92 #[.slice A l.length cap, tabV t] w fun e w' => e = .returned (.int .i64 (depE l t)) ∧ Below w.heap.size w w' := by
  have CC := hid (fun (w : World) (o : Op) (ho : o ∈ l) => rcheck_any o w)
  have HL' := hid HL
  clear HL hwf
  obtain ⟨t0, t1, t2, t3, t4, t5, t6, t7, t8, t9, t10, t11, t12, rfl⟩ := tab13 ht
  have CT : Hid (∀ w : World, Calls Try.prog 79 #[.agg #[.int .i64 t0, .int .i64 t1, .int .i64 t2, .int .i64 t3, .int .i64 t4, .int .i64 t5, .int .i64 t6, .int .i64 t7, .int .i64 t8, .int .i64 t9, .int .i64 t10, .int .i64 t11, .int .i64 t12]] w fun e w' => e = .returned (.int .i64 (tabE [t0, t1, t2, t3, t4, t5, t6, t7, t8, t9, t10, t11, t12])) ∧ Below w.heap.size w w') := hid fun w => rtcheck_any _ w rfl
  show Calls _ _ #[.slice A l.length cap, .agg #[.int .i64 t0, .int .i64 t1, .int .i64 t2, .int .i64 t3, .int .i64 t4, .int .i64 t5, .int .i64 t6, .int .i64 t7, .int .i64 t8, .int .i64 t9, .int .i64 t10, .int .i64 t11, .int .i64 t12]] w _
  generalize [t0, t1, t2, t3, t4, t5, t6, t7, t8, t9, t10, t11, t12] = t at CT ⊢
  clear ht
  cases htk : tabOk t with
  | false =>
    have e1 : tabE t = 20 := by unfold tabE; rw [htk]; rfl
    have e2 : depE l t = 20 := by unfold depE; rw [htk]; rfl
    rw [e1] at CT
    rw [e2]
    clear e1 e2 htk
    go_enter Try.func92, Try.ntmps92
    go_wp2_with fail
    with_reducible refine (CT.out _).mono ?_
    rintro e w1 ⟨rfl, hb⟩
    have B1 := hid (btrans (a := w) (by ((with_reducible (repeat (first | assumption | exact Below.refl _ _ | refine bset ?_ (Nat.le_refl _) _ | refine balloc ?_ _ | refine bdrew ?_ | refine bdrewN ?_ _))); done)) hb)
    clear hb
    go_wp2
    go_ret
    exact ⟨rfl, B1.out⟩
  | true =>
    have e1 : tabE t = 0 := by unfold tabE; rw [htk]; rfl
    rw [e1] at CT
    clear e1
    by_cases h1 : 1024 < l.length
    · have e2 : depE l t = 3 := by unfold depE; rw [htk, if_pos rfl, if_pos h1]
      rw [e2]
      clear e2 htk
      have h1i : (1024 : Int) < (l.length : Int) := by omega
      go_enter Try.func92, Try.ntmps92
      go_wp2_with fail
      with_reducible refine (CT.out _).mono ?_
      rintro e w1 ⟨rfl, hb⟩
      have B1 := hid (btrans (a := w) (by ((with_reducible (repeat (first | assumption | exact Below.refl _ _ | refine bset ?_ (Nat.le_refl _) _ | refine balloc ?_ _ | refine bdrew ?_ | refine bdrewN ?_ _))); done)) hb)
      clear hb
      go_wp2
      go_ret
      exact ⟨rfl, B1.out⟩
    · have e2 : depE l t = if l.all depOk then 0 else 30 := by unfold depE; rw [htk, if_pos rfl, if_neg h1]
      rw [e2]
      generalize hR : (if l.all depOk then (0 : Int) else 30) = R
      have HR := hid hR
      clear e2 htk hR
      have h1i : ¬ (1024 : Int) < (l.length : Int) := by omega
      go_enter Try.func92, Try.ntmps92
      go_wp2_with fail
      with_reducible refine (CT.out _).mono ?_
      rintro e w1 ⟨rfl, hb⟩
      have B1 := hid (btrans (a := w) (by ((with_reducible (repeat (first | assumption | exact Below.refl _ _ | refine bset ?_ (Nat.le_refl _) _ | refine balloc ?_ _ | refine bdrew ?_ | refine bdrewN ?_ _))); done)) hb)
      clear hb
      go_wp2
      go_loopg [6] l.length (fun gk v6 wr => ∃ i : Nat, i ≤ l.length ∧ v6 = .int .i64 i ∧ Hid (gk + i = l.length) ∧ Hid (Below w.heap.size w wr) ∧ Hid (∀ k, (hk : k < l.length) → k < i → depOk l[k] = true))
      case atStart => exact ⟨0, by omega, rfl, by exact Nat.add_zero _, B1, hid (fun k _ hk => absurd hk (Nat.not_lt_zero _))⟩
      case round =>
        obtain ⟨i, hi, rfl, hgk, hbi, hall⟩ := hrel
        clear B1
        by_cases hlt : i < l.length
        · obtain ⟨go, off, rfl, hop⟩ := (HL'.out.keep hbi.out).get i hlt
          obtain ⟨p0, p1, p2, p3, p4⟩ := hop
          have hb0 := hid hbi.out
          have HALL := hall
          clear hall
          have NO : ∀ (h : depOk l[i] = false), R = 30 := fun h => by rw [← HR.out, depOk_no hlt h]; rfl
          have hck := fun w => CC.out w l[i] (List.getElem_mem hlt)
          by_cases h1 : l[i].k < 1
          · have e0 := hid (NO (by unfold depOk; rw [decide_eq_false (by omega)]; rfl))
            clear NO hck HALL
            go_wp2
            go_ret
            refine ⟨ret_int e0.out.symm, ?_⟩
            exact btrans hb0.out (by ((with_reducible (repeat (first | assumption | exact Below.refl _ _ | refine bset ?_ (Nat.le_refl _) _ | refine balloc ?_ _ | refine bdrew ?_ | refine bdrewN ?_ _))); done))
          by_cases h2 : 17 < l[i].k
          · have e0 := hid (NO (by unfold depOk; rw [decide_eq_false (show ¬ l[i].k ≤ 17 by omega), Bool.and_false]; rfl))
            clear NO hck HALL
            go_wp2
            go_ret
            refine ⟨ret_int e0.out.symm, ?_⟩
            exact btrans hb0.out (by ((with_reducible (repeat (first | assumption | exact Below.refl _ _ | refine bset ?_ (Nat.le_refl _) _ | refine balloc ?_ _ | refine bdrew ?_ | refine bdrewN ?_ _))); done))
          cases h3 : chk l[i]
          · have e0 := hid (NO (by unfold depOk; rw [h3, Bool.and_false]))
            have e1 : chkE l[i] = 30 := by unfold chkE; rw [h3]; rfl
            rw [e1] at hck
            have HC := hid hck
            clear NO hck HALL e1 h3
            go_wp2_with fail
            with_reducible refine (HC.out _).mono ?_
            rintro e w3 ⟨rfl, hb⟩
            have B3 := hid (btrans hb0.out (btrans (a := wr) (by ((with_reducible (repeat (first | assumption | exact Below.refl _ _ | refine bset ?_ (Nat.le_refl _) _ | refine balloc ?_ _ | refine bdrew ?_ | refine bdrewN ?_ _))); done)) hb))
            clear hb
            go_wp2
            go_ret
            exact ⟨ret_int e0.out.symm, B3.out⟩
          · have e0 := hid (show depOk l[i] = true by unfold depOk; rw [h3, decide_eq_true (by omega), decide_eq_true (show l[i].k ≤ 17 by omega)]; rfl)
            have e1 : chkE l[i] = 0 := by unfold chkE; rw [h3]; rfl
            rw [e1] at hck
            have HC := hid hck
            clear NO hck e1 h3
            go_wp2_with fail
            with_reducible refine (HC.out _).mono ?_
            rintro e w3 ⟨rfl, hb⟩
            have B3 := hid (btrans hb0.out (btrans (a := wr) (by ((with_reducible (repeat (first | assumption | exact Below.refl _ _ | refine bset ?_ (Nat.le_refl _) _ | refine balloc ?_ _ | refine bdrew ?_ | refine bdrewN ?_ _))); done)) hb))
            clear hb
            go_wp2
            go_roundg (l.length - (i + 1))
            case measure => have := hgk.out; omega
            case rel =>
              refine ⟨i + 1, by omega, by go_num, by show _ + _ = _; omega, B3, hid fun k hk hki => ?_⟩
              by_cases e : k < i
              · exact HALL.out k hk e
              · obtain rfl : k = i := by omega
                exact e0.out
        · obtain rfl : i = l.length := by omega
          have e : Hid (R = 0) := hid (by
            rw [← HR.out, if_pos]
            rw [List.all_eq_true]
            intro x hx
            obtain ⟨m, hm, rfl⟩ := List.getElem_of_mem hx
            exact hall.out m hm hm)
          go_wp2
          go_ret
          exact ⟨ret_int e.out.symm, hbi.out⟩
end
/- Dependences: the document's pair. -/
section
open Go.RowKit
/-- The document's list while it is made: it lies behind w, behind the table's box. -/
structure RpAt (w wx : World) (t : List Int) (v : Value) (out : List Edge) : Prop where
  bel : Below w.heap.size w wx
  sz : w.heap.size < wx.heap.size
  ct : ∀ m, m < 13 → wx.cell? ⟨w.heap.size, m, none⟩ = some (.int .i64 (t[m]?.getD 0))
  own : wx.ownsRow (w.heap.size + 1) 99 5 v out.length (edgesV out)
  nl : out = [] → v = .slice none 0 0
theorem RpAt.keep {w wx wy : World} {t : List Int} {v : Value} {out : List Edge} (h : RpAt w wx t v out) (hb : Below wx.heap.size wx wy) : RpAt w wy t v out :=
  ⟨btrans h.bel hb, Nat.lt_of_lt_of_le h.sz hb.size, fun m hm => cell_keep (h.ct m hm) hb, own_below h.own hb, h.nl⟩
theorem RpAt.push {w wx w6 w7 : World} {t : List Int} {v v' : Value} {out es : List Edge} {n : Nat} (h : RpAt w wx t v out) (hb : Below wx.heap.size wx w6) (hg : w6.grownBy w7 v.ownBlock) (hn : n = (out ++ es).length) (he : es ≠ [])
    (ho : w7.ownsRow (w.heap.size + 1) 99 5 v' n (edgesV out ++ edgesV es)) : RpAt w w7 t v' (out ++ es) := by
  have hlt : ∀ k, v.ownBlock = some k → w.heap.size + 1 ≤ k := fun k hk => (h.own.lt k hk).1
  subst hn
  refine ⟨(btrans h.bel hb).grown hg (Nat.le_trans h.bel.size hb.size) (fun k hk => by have := hlt k hk; omega), Nat.lt_of_lt_of_le h.sz (Nat.le_trans hb.size hg.size), fun m hm => ?_, by rw [edgesV_app]; exact ho, fun h0 => absurd (List.append_eq_nil_iff.1 h0).2 he⟩
  exact hg.cell (cell_keep (h.ct m hm) hb) (fun e => by have := hlt w.heap.size e.symm; omega)
/-- A list of dependences is answered. -/
def EdgeL (l : List Edge) (w : World) (e : Ending) (w' : World) : Prop :=
  ∃ (A : Option Addr) (c : Nat), e = .returned (.slice A l.length c) ∧ l.length ≤ c ∧ (l = [] → A = none ∧ c = 0) ∧ EdgesIn w' A l ∧ Below w.heap.size w w'
theorem RpAt.done {w wx : World} {t : List Int} {v : Value} {out : List Edge} (h : RpAt w wx t v out) : EdgeL out w (.returned v) wx := by
  obtain ⟨A, c, rfl, hc, he⟩ := own_edges h.own
  exact ⟨A, c, rfl, hc, (fun h0 => by have := h.nl h0; injection this with h1 _ h3; exact ⟨h1, h3⟩), he, h.bel⟩
/-- The document's dependences of a pair. -/
def rmemE (t : List Int) (a b : Op) (i j ds : Int) (m : Bool) : List Edge := if m && (a.k == 16 || b.k == 16) then [⟨i, j, if a.k == 16 && b.k == 15 then t[(6 : Nat)]?.getD 0 else if a.k == 16 then 1 else 0, ds, 3⟩] else []
def rpairE (t : List Int) (a b : Op) (i j ds : Int) (m : Bool) : List Edge :=
  (if wrB b && seesB a (wrN b) then [Edge.mk i j 0 ds 1] else []) ++ ((if wrB b && hitB a (wrN b) then [Edge.mk i j (max 0 (latE t a - latE t b + 1)) ds 2] else []) ++ (rmemE t a b i j ds m ++ ordE a b i j ds))
theorem rpairE_eq {a b : Op} (hwb : b.wf) (hwa : a.wf) (t : List Int) (i j ds : Int) (m : Bool) (hm : m = true → b.k = 15 ∨ b.k = 16) : rpairE t a b i j ds m = pairE t a b i j ds m := by
  have hme : rmemE t a b i j ds m = memE t a b i j ds m := by
    unfold rmemE memE
    cases m with
    | false => rfl
    | true =>
      rcases hm rfl with h | h
      · rw [h]
        cases ha : (a.k == 16) <;> simp
      · rw [h]
        cases ha : (a.k == 16) <;> simp
  unfold rpairE pairE antiE outDE
  rw [hme]
  cases h : wrB b with
  | false => rw [dN_no h]; rfl
  | true =>
    have hd := (d_bd hwb h).1
    rw [dN_yes h, wrN_d h, decide_eq_true hd]
    have e : hitB a b.d = (dN a == b.d) := by
      unfold hitB
      cases ha : wrB a with
      | false => rw [dN_no ha, Bool.false_and, eq_comm, beq_eq_false_iff_ne]; omega
      | true => rw [dN_yes ha, wrN_d ha, Bool.true_and]
    rw [e]
theorem gb_below {w0 w w' : World} {r : Option Nat} (h : w0.grownBy w r) (hb : Below w.heap.size w w') : w0.grownBy w' r :=
  h.trans ⟨hb.os, hb.tape, hb.output, hb.size, fun k hk _ => hb.block k hk⟩
theorem gb_trans {w0 w w' : World} {r : Option Nat} (h : w0.grownBy w r) (k : w.grownBy w' r) : w0.grownBy w' r := h.trans k
theorem gb_refl (w : World) (r : Option Nat) : w.grownBy w r := ⟨rfl, rfl, rfl, Nat.le_refl _, fun _ _ _ => rfl⟩
/-- Nothing is appended, at a step of a region that draws its order. -/
theorem step_append_none {P : Program} {w : World} {ops : Array Oper} {o : Oper} {a : Act} {K : Act → World → Prop} {Q : Exit → Act → World → Prop} {E : Prop} (hgd : o.guard = none) (s x : Operand) (t : TypeId)
    (ho : o.op = .call { callee := .builtin .append, args := #[s, x], argTypes := #[t, t] })
    (base : Nat) (e : TypeId) (i : TypeInfo) (size : Nat) (ht : P.underlying t = some (.slice e)) (hi : P.info? e = some i)
    (v : Value) (n : Nat) (xs : List Value) (hs : a.eval s = v) (hown : w.ownsRow base e size v n xs) (hx : a.eval x = .slice none 0 0)
    (h : K (a.put o.dst v) w) : if Region.wanted o (yielded ops a.tmps) = true then Oper.wp P o a w K Q else E := by
  have hw : Region.wanted o (yielded ops a.tmps) = true := by simp [Region.wanted, hgd]
  rw [if_pos hw]
  have hrun := run_append_owned_none (P := P) (w := w) base t o.type e i size ht hi v n xs hown
  unfold Oper.wp
  simp [execOp, ho, resolve, invoke, builtin, hs, hx, hrun, Result.andThen]
  exact h
theorem edges_news {w : World} {g off : Nat} {l : List Edge} (hne : l ≠ []) (h : EdgesIn w (some ⟨g, off, none⟩) l) : ∀ j u, (edgesV l)[j]? = some u → w.cell? ((⟨g, off, none⟩ : Addr).add j) = some u := by
  obtain ⟨g', off', e, hx⟩ := h hne
  injection e with e
  injection e with e1 e2
  subst e1 e2
  intro j u hu
  have hj : j < l.length * 5 := by have := (List.getElem?_eq_some_iff.1 hu).1; rw [edgesV_len] at this; exact this
  have hjd : j / 5 < l.length := by omega
  have hjm : j % 5 < 5 := by omega
  have e2 : j = j / 5 * 5 + j % 5 := by omega
  rw [Addr.add_mid]
  rw [e2, edgesV_get l (j / 5) l[j / 5] (List.getElem?_eq_getElem hjd) (j % 5) hjm] at hu
  have := hx (j / 5) l[j / 5] (List.getElem?_eq_getElem hjd) (j % 5) u hu
  rw [show off + j = off + j / 5 * 5 + j % 5 by omega]
  exact this
theorem edges_one (l : List Edge) : ∀ u ∈ edgesV l, u.oneCell' = true := by
  intro u hu
  unfold edgesV at hu
  rw [List.mem_flatMap] at hu
  obtain ⟨x, _, hx⟩ := hu
  exact edge_one x u hx
end
/- Laws on worlds: the names that the machine's texts import. -/
end Go.Proofs.Ytcibkoodnfkogaa
