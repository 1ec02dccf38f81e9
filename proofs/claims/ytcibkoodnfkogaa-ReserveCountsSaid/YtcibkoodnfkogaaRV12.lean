/- The walk of ReserveWide. -/
import Derived.Test.YtcibkoodnfkogaaRV11
import Derived.Deep.CutBlock
import Derived.Deep.RegionHeld3
namespace Go.Proofs.Ytcibkoodnfkogaa
open Go.RowKit Go.Maps
set_option linter.unusedVariables false
set_option linter.unusedSimpArgs false
def tnR (ev : Int) : Tn := ⟨66, .agg #[.int .i64 ev], true, ringT ev⟩
def tnS : Tn := ⟨68, .agg #[], false, fun x => x⟩
set_option maxHeartbeats 4000000 in
set_option maxRecDepth 100000 in
theorem wide_no (A : Option Addr) (l : List Ask) (cap : Nat) (t : List Int) (w : World) (ht : t.length = 13) (hok : tabOk t = false) :
    Calls Try.prog 5 #[tabV t, .slice A l.length cap] w fun e w' => e = .returned (.bool true) ∧ Below w.heap.size w w' := by
  have CR := hid (ring_no t 110 ht hok)
  have CN := hid (new_no t ht hok)
  have CW := hid wakes13_any
  obtain ⟨t0, t1, t2, t3, t4, t5, t6, t7, t8, t9, t10, t11, t12, rfl⟩ := tabL13 ht
  clear ht hok
  unfold tabV at *
  simp only [List.map_cons, List.map_nil] at *
  go_enter Try.func5, Try.ntmps5
  go_wp2_with fail
  with_reducible refine (CR.out _).mono ?_
  rintro e w1 ⟨rfl, hb⟩
  obtain ⟨hc, hf⟩ := bcell hb
  have hz := bsize hb
  go_wp2_with fail
  with_reducible refine (CN.out _).mono ?_
  rintro e w2 ⟨rfl, hb2⟩
  have B2 := hid (btrans (btrans (balloc (Below.refl _ _) _) hb) hb2)
  clear hc hf hz hb hb2
  go_wp2_with fail
  with_reducible refine (CW.out _).mono ?_
  rintro e w3 ⟨rfl, hb3⟩
  go_wp2
  go_ret
  exact ⟨rfl, btrans B2.out hb3⟩
theorem wide_calls {t : List Int} (ht : t.length = 13) (hok : tabOk t = true) {w W : World} {pa ba pb bb na nb : Nat} {Ga Gb : Int → Int → Int} (h : Two t (tnR 110) tnS w pa ba pb bb W na nb Ga Gb) (hS : Same Ga Gb) (hna : na ≤ 1000) (hnb : nb ≤ 1000) {cl cy : Int} (hcl : okI cl) (hcy : 0 ≤ cy ∧ cy ≤ 99) :
    ∃ (r : Bool) (u : Int) (GA GB : Int → Int → Int), Same GA GB ∧
      Calls Try.prog 20 #[.pointer (some ⟨pa, 0, none⟩), .int .i64 cl, .int .i64 cy] W (fun e w' => e = .returned (.bool r) ∧ Two t (tnR 110) tnS w pa ba pb bb w' (na + 4) nb GA Gb ∧ W.grownBy w' (some ba)) ∧
      (∀ w', Two t (tnR 110) tnS w pa ba pb bb w' (na + 4) nb GA Gb → Calls Try.prog 20 #[.pointer (some ⟨pb, 0, none⟩), .int .i64 cl, .int .i64 cy] w' (fun e w'' => e = .returned (.bool r) ∧ Two t (tnR 110) tnS w pa ba pb bb w'' (na + 4) (nb + 4) GA GB ∧ w'.grownBy w'' (some bb))) ∧
      (∀ w', Two t (tnR 110) tnS w pa ba pb bb w' (na + 4) (nb + 4) GA GB → Calls Try.prog 21 #[.pointer (some ⟨pa, 0, none⟩), .int .i64 cl, .int .i64 cy] w' (fun e w'' => e = .returned (.int .i64 u) ∧ Below w'.heap.size w' w'')) ∧
      (∀ w', Two t (tnR 110) tnS w pa ba pb bb w' (na + 4) (nb + 4) GA GB → Calls Try.prog 21 #[.pointer (some ⟨pb, 0, none⟩), .int .i64 cl, .int .i64 cy] w' (fun e w'' => e = .returned (.int .i64 u) ∧ Below w'.heap.size w' w'')) := by
  have hR : Turns (tnR 110).F (tnR 110).rcv (tnR 110).tn := ring_turn 110 (by omega) (by omega)
  have hSt : Turns tnS.F tnS.rcv tnS.tn := straight_turn
  have eR : (tnR 110).tn cy = cy := ring_id (by omega)
  have iA : inCy (tnR 110).tn cy := by unfold inCy; rw [eR]; omega
  have iB : inCy tnS.tn cy := ⟨by omega, by show _ ∧ _; exact ⟨by show _ ≤ cy; omega, by show cy ≤ _; omega⟩⟩
  obtain ⟨r, hr⟩ : ∃ r : Bool, r = true ↔ FreeP t (ringT 110) true Ga cl cy := by
    by_cases hf : FreeP t (ringT 110) true Ga cl cy
    · exact ⟨true, fun _ => hf, fun _ => rfl⟩
    · exact ⟨false, fun h => (by cases h), fun h => (hf h).elim⟩
  have hs : r = true ↔ FreeP t (fun x => x) false Gb cl cy := hr.trans (free_wide hok hS hcl hcy)
  obtain ⟨-, hS'⟩ := both_wide hok hS hcl hcy hr hs
  have hu := hS' cl cy hcl hcy.1 (by omega)
  obtain ⟨GA, hGA⟩ : ∃ GA, GA = if r = true then takeG t (ringT 110) Ga cl cy else Ga := ⟨_, rfl⟩
  obtain ⟨GB, hGB⟩ : ∃ GB, GB = if r = true then takeG t (fun x => x) Gb cl cy else Gb := ⟨_, rfl⟩
  rw [← hGA, ← hGB] at hS'
  rw [← hGA, ← hGB] at hu
  refine ⟨r, GA cl cy, GA, GB, hS', ?_, ?_, ?_, ?_⟩
  rotate_left 2
  · intro w' h'
    have := h'.usedA ht hR cl cy hcl iA
    rw [eR] at this
    exact this
  · intro w' h'
    have := h'.usedB ht hSt cl cy hcl iB
    have e : tnS.tn cy = cy := rfl
    rw [e, ← hu] at this
    exact this
  · refine (h.takeA ht hok hR (by omega) cl cy iA).mono ?_
    rintro e w' ⟨r', rfl, hr', hT, hg⟩
    have : r' = r := by
      have : r' = true ↔ r = true := hr'.trans hr.symm
      cases r <;> cases r' <;> simp_all
    subst this
    rw [hGA]
    exact ⟨rfl, hT, hg⟩
  · intro w' h'
    refine (h'.takeB ht hok hSt (by omega) cl cy iB).mono ?_
    rintro e w'' ⟨r', rfl, hr', hT, hg⟩
    have : r' = r := by
      have : r' = true ↔ r = true := hr'.trans hs.symm
      cases r <;> cases r' <;> simp_all
    subst this
    rw [hGB]
    exact ⟨rfl, hT, hg⟩
theorem ask_box (w : World) (x : Ask) (T : TypeId) : (w.alloc (Obj.cells #[Value.int IntKind.i64 x.c, Value.int IntKind.i64 x.k, Value.bool x.t] T)).drew.cell? ⟨w.heap.size, 0, none⟩ = some (.int .i64 x.c) := by
  show World.cell? (w.alloc _) _ = _
  rw [cell_of_row _ _ _ _ _ _ (heap_alloc_new _ _)]
  rfl
theorem cyW2 (x : Int) : 0 ≤ (wrap64 (x.tmod 100 + 100)).tmod 100 ∧ (wrap64 (x.tmod 100 + 100)).tmod 100 ≤ 99 := by
  have h := tmod_bd x 100 (by omega)
  have e : wrap64 (x.tmod 100 + 100) = x.tmod 100 + 100 := by unfold wrap64; omega
  rw [e, Int.tmod_eq_emod_of_nonneg (by omega)]
  omega
set_option maxHeartbeats 4000000 in
set_option maxRecDepth 100000 in
theorem ReserveWide_walk (t : List Int) (A : Option Addr) (l : List Ask) (cap : Nat) (w : World) (ht : t.length = 13) (_htw : ∀ n ∈ t, -9223372036854775808 ≤ n ∧ n ≤ 9223372036854775807) (hl : AsksIn w A l) (hw : ∀ x ∈ l, x.wf) (hc : l.length ≤ cap) (hm : cap ≤ 8796093022208) :
    Calls Try.prog 5 #[tabV t, .slice A l.length cap] w fun e w' => e = .returned (.bool true) ∧ Below w.heap.size w w' := by
  cases hok : tabOk t
  · exact wide_no A l cap t w ht hok
  have CR := hid (ring_yes t 110 ht hok (by omega))
  have CN := hid (new_yes t ht hok)
  have CW := hid wakes13_any
  have TW := hid (fun (e1 e2 : Ending) (ws w1 w2 : World) (hs : Below w.heap.size w ws) (h1 : NewR t (tnR 110).F (tnR 110).rcv (tnR 110).any ws e1 w1) (h2 : NewR t tnS.F tnS.rcv tnS.any w1 e2 w2) => two_new (a := tnR 110) (b := tnS) hs h1 h2)
  have CC := hid (fun (W : World) (pa ba pb bb na nb : Nat) (Ga Gb : Int → Int → Int) (h : Two t (tnR 110) tnS w pa ba pb bb W na nb Ga Gb) (hS : Same Ga Gb) (hna : na ≤ 1000) (hnb : nb ≤ 1000) (cl cy : Int) => wide_calls ht hok h hS hna hnb (cl := cl) (cy := cy))
  have hokh := hid hok
  obtain ⟨t0, t1, t2, t3, t4, t5, t6, t7, t8, t9, t10, t11, t12, rfl⟩ := tabL13 ht
  clear ht hok
  obtain ⟨T, hT⟩ : ∃ T, T = [t0, t1, t2, t3, t4, t5, t6, t7, t8, t9, t10, t11, t12] := ⟨_, rfl⟩
  rw [← hT] at CC CR CN TW hokh
  unfold tabV at CR CN
  rw [hT] at CR CN
  rw [hT] at TW
  unfold tabV
  simp only [List.map_cons, List.map_nil] at *
  go_enter Try.func5, Try.ntmps5
  go_wp2_with fail
  with_reducible refine (CR.out _).mono ?_
  rintro e w1 h1
  have h1' := h1
  obtain ⟨pa0, ba0, he, -, -, -, -, hb⟩ := h1'
  subst he
  obtain ⟨hc1, hf1⟩ := bcell hb
  have hz := bsize hb
  have h1h := hid h1
  have hbh := hid hb
  clear h1 hb CR
  go_wp2_with fail
  with_reducible refine (CN.out _).mono ?_
  rintro e w2 h2
  have h2' := h2
  obtain ⟨pb0, bb0, he, -, -, -, -, hb2⟩ := h2'
  subst he
  obtain ⟨pa, ba, pb, bb, e1, e2, HT, hs1, hs2, hs3, hs4⟩ := TW.out _ _ _ _ _ (balloc (Below.refl _ _) _) h1h.out h2
  injection e1 with e1
  injection e1 with e1
  have e1' : pa0 = pa := by simpa using e1
  injection e2 with e2
  injection e2 with e2
  have e2' : pb0 = pb := by simpa using e2
  subst e1' e2'
  rw [← hT] at HT
  have HT0 := hid HT
  clear HT e1 e2 h1h h2 hbh hc1 hf1 hz hb2 CN TW
  go_wp2_with fail
  go_loopg [36] l.length (fun g v wr => ∃ (i na nb : Nat) (Ga Gb : Int → Int → Int), i ≤ l.length ∧ v = .int .i64 i ∧ Hid (g + i = l.length) ∧ Hid (Two T (tnR 110) tnS w pa0 ba pb0 bb wr na nb Ga Gb) ∧ Hid (Same Ga Gb) ∧ Hid (na ≤ 4 * i ∧ nb ≤ 4 * i))
  case atStart => exact ⟨0, 0, 0, _, _, by omega, rfl, by exact Nat.add_zero _, HT0, hid (fun _ _ _ _ _ => rfl), hid (by omega)⟩
  case round =>
    obtain ⟨i, na, nb, Ga, Gb, hi, rfl, hg, HTw, hS, hn⟩ := hrel
    by_cases hlt : i < l.length
    · obtain ⟨gA, off, rfl, hx⟩ := hl.get i hlt
      have hwf := hw _ (List.getElem_mem hlt)
      generalize l[i] = x at *
      have hx1 := hx.keep HTw.out.bel
      obtain ⟨c0, c1, c2⟩ := hx1
      have hij : (i : Int) < (l.length : Int) := by omega
      by_cases h40 : 40 ≤ (i : Int)
      · go_wp2_with fail
        with_reducible refine (CW.out _).mono ?_
        rintro e w3 ⟨rfl, hb3⟩
        have B3 := hid (btrans (balloc HTw.out.bel (Obj.cells #[Value.int IntKind.i64 x.c, Value.int IntKind.i64 x.k, Value.bool x.t] 34)) hb3)
        go_wp2
        go_ret
        exact ⟨rfl, B3.out⟩
      · go_upto_region 10 with (fail)
        obtain ⟨cy, hcy⟩ : ∃ cy, cy = (wrap64 (x.k.tmod 100 + 100)).tmod 100 := ⟨_, rfl⟩
        have hcb : 0 ≤ cy ∧ cy ≤ 99 := by rw [hcy]; exact cyW2 x.k
        rw [← hcy]
        have HTW := (HTw.out.alloc (Obj.cells #[Value.int IntKind.i64 x.c, Value.int IntKind.i64 x.k, Value.bool x.t] 34)).drew
        obtain ⟨r, u, GA, GB, hS', C1, C2, C3, C4⟩ := CC.out _ _ _ _ _ _ _ _ _ HTW hS.out (by have := hn.out; omega) (by have := hn.out; omega) x.c cy hwf.1 hcb
        have hba : ba < wr.heap.size := by obtain ⟨D, hD⟩ := HTw.out.ga.map; exact hD.1.lt
        have hbb : bb < wr.heap.size := by obtain ⟨D, hD⟩ := HTw.out.gb.map; exact hD.1.lt
        have x0 := ask_box wr x 34
        have D1 := hid C1
        have D2 := hid C2
        have D3 := hid C3
        have D4 := hid C4
        have hSS := hid hS'
        have hXa : some wr.heap.size ≠ some ba := by simp; omega
        have hXb : some wr.heap.size ≠ some bb := by simp; omega
        clear C1 C2 C3 C4 hS' HTW hS hcy c0 c1 c2 hx hl hw hm hc hwf CC
        cases r
        all_goals
          go_region_held3 (fun w' => w'.cell? ⟨wr.heap.size, 0, none⟩ = some (.int .i64 x.c)) (assumption) (first
            | ((with_reducible refine D1.out.mono ?_); rintro e w3 ⟨rfl, HT3, hg3⟩; have x3 := hg3.cell x0 hXa)
            | ((with_reducible refine (D2.out _ HT3).mono ?_); rintro e w4 ⟨rfl, HT4, hg4⟩; have x4 := hg4.cell x3 hXb)
            | ((with_reducible refine (D3.out _ HT4).mono ?_); rintro e w5 ⟨rfl, hb5⟩; have HT5 := HT4.keep hb5; have x5 := cell_keep x4 hb5)
            | ((with_reducible refine (D4.out _ HT5).mono ?_); rintro e w6 ⟨rfl, hb6⟩; have x6 := cell_keep x5 hb6))
        all_goals
          go_wp2_with fail
          go_roundg (l.length - (i+1))
          · exact ⟨i+1, na+4, nb+4, GA, GB, by omega, by go_num, by show _ + _ = _; omega, hid (HT5.keep hb6), hSS, hid (by have := hn.out; omega)⟩
          · have := hg.out; omega
    · obtain rfl : i = l.length := by omega
      go_wp2_with fail
      with_reducible refine (CW.out _).mono ?_
      rintro e w3 ⟨rfl, hb3⟩
      go_wp2
      go_ret
      exact ⟨rfl, btrans HTw.out.bel hb3⟩
end Go.Proofs.Ytcibkoodnfkogaa
