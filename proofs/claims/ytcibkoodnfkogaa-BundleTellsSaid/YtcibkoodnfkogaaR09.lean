/- The contract of the document's bundle. -/
import Derived.Test.YtcibkoodnfkogaaR08
import Derived.Test.YtcibkoodnfkogaaR04
namespace Go.Proofs.Ytcibkoodnfkogaa
open Go.RowKit
set_option linter.unusedVariables false
set_option linter.unusedSimpArgs false
theorem set4_below {w w' : World} {g : Nat} (h : Below w.heap.size w w') (hg : w.heap.size ≤ g) (u0 u1 u2 u3 : Value) : Below w.heap.size w ((((w'.setCell ⟨g, 0, none⟩ u0).setCell ⟨g, 1, none⟩ u1).setCell ⟨g, 2, none⟩ u2).setCell ⟨g, 3, none⟩ u3) :=
  (((h.setCell hg _).setCell hg _).setCell hg _).setCell hg _
theorem OwnO.set4 {w : World} {base g : Nat} {v : Value} {l : List Op} (h : OwnO w base v l) (hg : g < base) (u0 u1 u2 u3 : Value) : OwnO ((((w.setCell ⟨g, 0, none⟩ u0).setCell ⟨g, 1, none⟩ u1).setCell ⟨g, 2, none⟩ u2).setCell ⟨g, 3, none⟩ u3) base v l :=
  (((h.set (a := ⟨g, 0, none⟩) hg u0).set (a := ⟨g, 1, none⟩) hg u1).set (a := ⟨g, 2, none⟩) hg u2).set (a := ⟨g, 3, none⟩) hg u3
/-- The result's cells are still none. -/
def Nil4 (w : World) (g : Nat) : Prop := ∀ q, q < 4 → w.cell? ⟨g, q, none⟩ = some (.slice none 0 0) ∧ w.frozen? ⟨g, q, none⟩ = false
theorem Nil4.keep {w w' : World} {g : Nat} (h : Nil4 w g) (hb : Below w.heap.size w w') : Nil4 w' g := fun q hq =>
  ⟨cell_keep (h q hq).1 hb, frozen_keep (h q hq).2 (World.block_lt_of_cell? w _ (h q hq).1) hb⟩
theorem Nil4.part {w w' : World} {g k o n : Nat} (h : Nil4 w g) (hp : Part k o n w w') (hk : g ≠ k) : Nil4 w' g := fun q hq =>
  ⟨hp.old (h q hq).1 hk, hp.frozen_old (h q hq).2 (World.block_lt_of_cell? w _ (h q hq).1) hk⟩
theorem nil4_new (w : World) (T : TypeId) : Nil4 (w.alloc (.cells #[.slice none 0 0, .slice none 0 0, .slice none 0 0, .slice none 0 0] T)) w.heap.size := fun q hq => by
  refine ⟨?_, by simp⟩
  rw [cell_of_row _ _ _ _ _ _ (heap_alloc_new _ _)]
  obtain rfl | rfl | rfl | rfl : q = 0 ∨ q = 1 ∨ q = 2 ∨ q = 3 := by omega
  all_goals rfl
theorem Done.val {w : World} {b g p : Nat} {l : List Op} (h : Done w b g p l) : ∃ x : Option Addr × Nat, w.cell? ⟨g, p, none⟩ = some (.slice x.1 l.length x.2) ∧ OwnO w b (.slice x.1 l.length x.2) l := by
  obtain ⟨v, h1, h2⟩ := h
  rcases h2.2 with ⟨rfl, h0⟩ | ⟨k, cap, cur, rfl, hbg, hk, hnc, rest⟩
  · have : l = [] := List.eq_nil_of_length_eq_zero h0
    subst this
    exact ⟨(none, 0), h1, h2⟩
  · exact ⟨(some ⟨k, 0, none⟩, cap), h1, h2⟩
theorem set4_cells {w : World} {g : Nat} (h : Nil4 w g) (u0 u1 u2 u3 : Value) :
    ((((w.setCell ⟨g, 0, none⟩ u0).setCell ⟨g, 1, none⟩ u1).setCell ⟨g, 2, none⟩ u2).setCell ⟨g, 3, none⟩ u3).cell? ⟨g, 0, none⟩ = some u0 ∧
    ((((w.setCell ⟨g, 0, none⟩ u0).setCell ⟨g, 1, none⟩ u1).setCell ⟨g, 2, none⟩ u2).setCell ⟨g, 3, none⟩ u3).cell? ⟨g, 1, none⟩ = some u1 ∧
    ((((w.setCell ⟨g, 0, none⟩ u0).setCell ⟨g, 1, none⟩ u1).setCell ⟨g, 2, none⟩ u2).setCell ⟨g, 3, none⟩ u3).cell? ⟨g, 2, none⟩ = some u2 ∧
    ((((w.setCell ⟨g, 0, none⟩ u0).setCell ⟨g, 1, none⟩ u1).setCell ⟨g, 2, none⟩ u2).setCell ⟨g, 3, none⟩ u3).cell? ⟨g, 3, none⟩ = some u3 := by
  refine ⟨?_, ?_, ?_, ?_⟩
  · rw [World.cell?_setCell_other _ _ _ _ (by simp), World.cell?_setCell_other _ _ _ _ (by simp), World.cell?_setCell_other _ _ _ _ (by simp)]
    exact set_same (h 0 (by omega)).1
  · rw [World.cell?_setCell_other _ _ _ _ (by simp), World.cell?_setCell_other _ _ _ _ (by simp)]
    exact set_same (by rw [World.cell?_setCell_other _ _ _ _ (by simp)]; exact (h 1 (by omega)).1)
  · rw [World.cell?_setCell_other _ _ _ _ (by simp)]
    exact set_same (by rw [World.cell?_setCell_other _ _ _ _ (by simp), World.cell?_setCell_other _ _ _ _ (by simp)]; exact (h 2 (by omega)).1)
  · exact set_same (by rw [World.cell?_setCell_other _ _ _ _ (by simp), World.cell?_setCell_other _ _ _ _ (by simp), World.cell?_setCell_other _ _ _ _ (by simp)]; exact (h 3 (by omega)).1)
theorem below_part {w w' w2 : World} {g o n : Nat} (h : Below w.heap.size w w') (hp : Part g o n w' w2) (hg : w.heap.size ≤ g) : Below w.heap.size w w2 :=
  h.grown hp.grow h.size (fun k hk => by injection hk with hk; omega)
set_option maxHeartbeats 4000000 in
set_option maxRecDepth 100000 in
theorem rbundle_any (A : Option Addr) (cap : Nat) (ws : List Int) (t : List Int) (w : World) (hws : WordsIn w A ws) (hcap : ws.length ≤ cap) (hlen : (ws.length : Int) = sumU t 4) (htok : tabOk t = true) (ht : t.length = 13) (hcm : cap ≤ 9223372036854775807) (hwx : ∀ x ∈ ws, 0 ≤ x ∧ x ≤ 18446744073709551615) :
    Calls Try.prog 86 #[.slice A ws.length cap, tabV t] w (BunP t ws w) := by
  obtain ⟨a0, a1, a2, a3, a4, a5, a6, a7, a8, a9, a10, a11, a12, rfl⟩ := thirteen ht
  have hV : tabV [a0, a1, a2, a3, a4, a5, a6, a7, a8, a9, a10, a11, a12] = tabX a0 a1 a2 a3 a4 a5 a6 a7 a8 a9 a10 a11 a12 := rfl
  rw [hV]
  clear hV ht
  generalize htt : [a0, a1, a2, a3, a4, a5, a6, a7, a8, a9, a10, a11, a12] = t at *
  have hbox := hid (fun w T => htt ▸ TabIn.box a0 a1 a2 a3 a4 a5 a6 a7 a8 a9 a10 a11 a12 w T)
  clear htt
  have HWS := hid hws
  have OK := hid htok
  have HWX := hid hwx
  have HL := hid hlen
  clear hws htok hwx hlen
  obtain ⟨oi, oz, hoi, hoz, o5, o16, oz5⟩ := op_info
  have OHI := hid hoi
  have OHZ := hid hoz
  have OHU := hid (Try.underlying38)
  replace o5 := hid o5
  replace o16 := hid o16
  replace oz5 := hid oz5
  clear hoi hoz
  go_enter Try.func86, Try.ntmps86
  go_wp2
  go_loopg [7, 8] 4 (fun gk v7 v8 wr => ∃ j : Nat, j ≤ 4 ∧ v8 = .int .i64 j ∧ v7 = .int .i64 (sumU t j) ∧ Hid (gk + j = 4) ∧ Hid (∀ i, i < j → segB t ws i = true ∧ Done wr (w.heap.size + 1 + 1 + 1) (w.heap.size + 1 + 1) i (readO t ws i)) ∧ Hid (TabIn wr w.heap.size t) ∧ Hid (Below w.heap.size w wr) ∧
    Hid (∀ q, j ≤ q → q < 4 → wr.cell? ⟨w.heap.size + 1 + 1, q, none⟩ = some (.slice none 0 0)) ∧ Hid (∀ q, q < 4 → wr.frozen? ⟨w.heap.size + 1 + 1, q, none⟩ = false) ∧ Hid (Nil4 wr (w.heap.size + 1)) ∧ Hid (w.heap.size + 1 + 1 + 1 ≤ wr.heap.size))
  case atStart =>
    have G := nil4_new ((w.alloc (.cells #[.int .i64 a0, .int .i64 a1, .int .i64 a2, .int .i64 a3, .int .i64 a4, .int .i64 a5, .int .i64 a6, .int .i64 a7, .int .i64 a8, .int .i64 a9, .int .i64 a10, .int .i64 a11, .int .i64 a12] 28)).alloc (.cells #[.slice none 0 0, .slice none 0 0, .slice none 0 0, .slice none 0 0] 91)) 91
    have G4 := (nil4_new (w.alloc (.cells #[.int .i64 a0, .int .i64 a1, .int .i64 a2, .int .i64 a3, .int .i64 a4, .int .i64 a5, .int .i64 a6, .int .i64 a7, .int .i64 a8, .int .i64 a9, .int .i64 a10, .int .i64 a11, .int .i64 a12] 28)) 91).keep (balloc (Below.refl _ _) (.cells #[.slice none 0 0, .slice none 0 0, .slice none 0 0, .slice none 0 0] 91))
    rw [hsz, hsz] at G
    rw [hsz] at G4
    refine ⟨0, by omega, rfl, rfl, by exact Nat.add_zero _, fun i hi => by omega, hid (((hbox.out w 28).keep (balloc (Below.refl _ _) _)).keep (balloc (Below.refl _ _) _)), hid (by ((with_reducible (repeat (first | assumption | exact Below.refl _ _ | refine bset ?_ (Nat.le_refl _) _ | refine balloc ?_ _ | refine bdrew ?_ | refine bdrewN ?_ _))); done)), hid fun q _ hq => (G q hq).1, hid fun q hq => (G q hq).2, hid G4, hid (by simp)⟩
  case round =>
    obtain ⟨j, hj, rfl, rfl, hg, hall, htr, hbw, hcells, hfz, hnil, hsz⟩ := hrel
    by_cases hj4 : j < 4
    · obtain ⟨wc, rfl⟩ : ∃ wc : World, wc = wr := ⟨_, rfl⟩
      have hu := units_bd OK.out j hj4
      obtain ⟨hu0, hu1⟩ := hu
      have hs3 := sumU_bd OK.out j hj
      have hm1 := sumU_mono OK.out j hj4
      have hl1 := HL.out
      obtain ⟨n, hn⟩ : ∃ n : Nat, t[j]?.getD 0 = n := ⟨(t[j]?.getD 0).toNat, by omega⟩
      obtain ⟨p, hp⟩ : ∃ p : Nat, sumU t j = p := ⟨(sumU t j).toNat, by omega⟩
      have hpn : p + n ≤ ws.length := by omega
      have hn8 : n ≤ 8 := by omega
      have hp32 : p ≤ 32 := by omega
      have hseg : Hid (seg t ws j = (ws.drop p).take n) := hid (by unfold seg; rw [hp, hn, Int.toNat_natCast, Int.toNat_natCast])
      have hnext : Hid (sumU t (j + 1) = (p : Int) + (n : Int)) := hid (by rw [← hp, ← hn]; rfl)
      have KT : Hid (∀ x : World, TabIn x w.heap.size t → x.cell? ⟨w.heap.size, j, none⟩ = some (.int .i64 (n : Int))) := hid fun x hx => by rw [← hn]; exact hx j (by omega)
      rw [hp]
      clear hu0 hu1 hs3 hm1 hl1 hn hp
      obtain ⟨S, hS⟩ : ∃ S : List Int, S = (ws.drop p).take n := ⟨_, rfl⟩
      have hSl : Hid (S.length = n) := hid (by rw [hS, List.length_take, List.length_drop]; omega)
      have hSx : Hid (∀ k, k < n → S[k]? = ws[p + k]?) := hid (fun k hk => by rw [hS, List.getElem?_take, if_pos hk, List.getElem?_drop])
      rw [← hS] at hseg
      clear hS
      have hji : (j : Int) < 4 := by omega
      have hj0 : (0 : Int) ≤ (j : Int) := by omega
      go_wp2
      have hz0 := hcells.out j (Nat.le_refl _) hj4
      have hf0 := hfz.out j hj4
      go_loopg [7, 9, 10] n (fun gq v7 v9 v10 wz => ∃ (k z : Nat) (P : List Int) (bv : Value) (em : Bool), k ≤ n ∧ v10 = .int .i64 k ∧ v7 = .int .i64 ((p : Int) + (k : Int)) ∧ v9 = .bool em ∧ Hid (em = decide (0 < z)) ∧ Hid (gq + k = n) ∧ Hid (Half j (S.take k) P z) ∧ wz.cell? ⟨w.heap.size + 1 + 1, j, none⟩ = some bv ∧ wz.frozen? ⟨w.heap.size + 1 + 1, j, none⟩ = false ∧ Hid (OwnO wz wc.heap.size bv (P.map wordO)) ∧ Hid (Part (w.heap.size + 1 + 1) j 1 wc wz))
      case atStart => exact ⟨0, 0, [], _, false, by omega, rfl, by simp, rfl, hid rfl, by exact Nat.add_zero _, hid (Half.nil _), hz0, hf0, hid (by simpa [OwnO] using World.ownsRow_nil _ _ _ _), hid (Part.refl _ _ _ _)⟩
      case round =>
        obtain ⟨k, z, P, bv, em, hk, rfl, rfl, rfl, hem, hgq, hhalf, hbv, hbf, hown, hpart⟩ := hrel
        have kt := KT.out _ (htr.out.part hpart.out (by omega))
        have hwz : Hid (w.heap.size < wr.heap.size) := hid (World.block_lt_of_cell? wr _ kt)
        by_cases hkn : k < n
        · obtain ⟨ga, offa, rfl, hx⟩ := HWS.out (by rintro rfl; simp at hpn; omega)
          have hpk : p + k < ws.length := by omega
          have hkx := cell_keep (hx (p + k) ws[p + k] (List.getElem?_eq_getElem hpk)) hbw.out
          have hgab : ga < w.heap.size := World.block_lt_of_cell? w _ (hx (p + k) ws[p + k] (List.getElem?_eq_getElem hpk))
          have hk0 : wr.cell? ⟨ga, offa + (p + k), none⟩ = some (.int .u64 ws[p + k]) := hpart.out.old hkx (by show ga ≠ _; omega)
          have hxb := HWX.out ws[p + k] (List.getElem_mem hpk)
          have hSk : Hid (S[k]? = some ws[p + k]) := hid ((hSx.out k hkn).trans (List.getElem?_eq_getElem hpk))
          have hts : Hid (S.take (k + 1) = S.take k ++ [ws[p + k]]) := hid (by rw [List.take_add_one, hSk.out]; rfl)
          obtain ⟨hx0, hx1⟩ := hxb
          have hpki : (p : Int) + (k : Int) < (ws.length : Int) := by omega
          have hpki2 : (p : Int) + (k : Int) < (cap : Int) := by omega
          have hpk0 : (0 : Int) ≤ (p : Int) + (k : Int) := by omega
          have hkni : (k : Int) < (n : Int) := by omega
          have hki0 : (0 : Int) ≤ (k : Int) := by omega
          have KO := hid (fun w => rop_any ws[p + k] w hx0 hx1)
          have KC := hid (fun w => rclass_any (wordO ws[p + k]).k w)
          have hwo : Hid (wOk j ws[p + k] = (wordB ws[p + k] && (clsB (wordO ws[p + k]).k && (clsN (wordO ws[p + k]).k == j)))) := hid rfl
          have hwfo := hid (wordO_wf ws[p + k])
          clear hx hkx
          generalize hxx : ws[p + k] = x at *
          have hxx2 := hid hxx
          clear hxx
          generalize hoo : wordO x = O at *
          replace hoo := hid hoo
          have hgz : w.heap.size + 1 + 1 < wr.heap.size := World.block_lt_of_cell? wr _ hbv
          by_cases h0 : x = 0
          · have h0b : (x == 0) = true := by rw [h0]; rfl
            have hH : Hid (Half j (S.take (k + 1)) P (z + 1)) := hid (by rw [hts.out, h0]; exact hhalf.out.zero)
            clear h0
            go_wp2
            go_roundg (n - (k + 1))
            case measure => have := hgq.out; omega
            case rel => exact ⟨k + 1, z + 1, P, bv, true, by omega, by go_num, by go_num, rfl, hid (by simp), by show _ + _ = _; have := hgq.out; omega, hH, hbv, hbf, hown, hpart⟩
          · have h0b : (x == 0) = false := by simpa using h0
            have hx0' := hid h0
            clear h0
            have hbad : Hid (wOk j x = false → readB t ws = false) := hid fun h => segB_no hj4 (by unfold segB; rw [hseg.out]; exact seg_bad hSk.out h (Nat.le_refl _) hSk.out hx0'.out)
            have hbad2 : Hid (em = true → readB t ws = false) := hid fun h => by
              have hz : 0 < z := of_decide_eq_true (hem.out.symm.trans h)
              have hl : (S.take k).length = P.length + z := by rw [hhalf.out.1, List.length_append, List.length_replicate]
              rw [List.length_take] at hl
              have hS0 : S[P.length]? = some 0 := by
                have : (S.take k)[P.length]? = some 0 := by
                  rw [hhalf.out.1, List.getElem?_append_right (Nat.le_refl _), List.getElem?_replicate, if_pos (by omega)]
                rw [List.getElem?_take, if_pos (by omega)] at this
                exact this
              exact segB_no hj4 (by unfold segB; rw [hseg.out]; exact seg_bad hS0 (wOk_zero _) (by omega) hSk.out hx0'.out)
            go_wp2_with fail
            with_reducible refine (KO.out _).mono ?_
            rintro e w6 ⟨rfl, hb⟩
            have hb6 := hid hb
            have hbv6 := cell_keep hbv hb
            have hbf6 := frozen_keep hbf hgz hb
            clear hb
            go_wp2_with fail
            with_reducible refine (KC.out _).mono ?_
            rintro e w7 ⟨rfl, hb⟩
            have hb7 : Hid (Below w6.heap.size w6 w7) := hid (btrans (a := w6) (by ((with_reducible (repeat (first | assumption | exact Below.refl _ _ | refine bset ?_ (Nat.le_refl _) _ | refine balloc ?_ _ | refine bdrew ?_ | refine bdrewN ?_ _))); done)) hb)
            have s0 : w7.cell? ⟨w6.heap.size, 0, none⟩ = some (.int .i8 O.k) := cell_keep (by simp) hb
            have s1 : w7.cell? ⟨w6.heap.size, 1, none⟩ = some (.int .u8 O.d) := cell_keep (by simp) hb
            have s2 : w7.cell? ⟨w6.heap.size, 2, none⟩ = some (.int .u8 O.a) := cell_keep (by simp) hb
            have s3 : w7.cell? ⟨w6.heap.size, 3, none⟩ = some (.int .u8 O.b) := cell_keep (by simp) hb
            have s4 : w7.cell? ⟨w6.heap.size, 4, none⟩ = some (.int .i64 O.n) := cell_keep (by simp) hb
            clear hb
            have hbv7 := cell_keep hbv6 hb7.out
            have hbf7 := frozen_keep hbf6 (World.block_lt_of_cell? w6 _ hbv6) hb7.out
            have B7 : Hid (Below wr.heap.size wr w7) := hid (btrans hb6.out hb7.out)
            have BW : Hid (Below w.heap.size w w7) := hid (btrans (below_part hbw.out hpart.out (by omega)) B7.out)
            have N4 := hid ((hnil.out.part hpart.out (by omega)).keep B7.out)
            obtain ⟨n0, f0⟩ := N4.out 0 (by omega)
            obtain ⟨n1, f1⟩ := N4.out 1 (by omega)
            obtain ⟨n2, f2⟩ := N4.out 2 (by omega)
            obtain ⟨n3, f3⟩ := N4.out 3 (by omega)
            have SC := hid (set4_cells N4.out)
            cases em
            case true =>
              have e1 := hid (hbad2.out rfl)
              go_wp2
              obtain ⟨c0, c1, c2, c3⟩ := SC.out (.slice none 0 0) (.slice none 0 0) (.slice none 0 0) (.slice none 0 0)
              refine bodyPost_ret (v := .tuple #[.agg #[.slice none 0 0, .slice none 0 0, .slice none 0 0, .slice none 0 0], .bool false]) (by simp [results, Try.results86, go_sem, c0, c1, c2, c3]) rfl ?_
              refine ⟨fun i => (none, 0, 0), ?_, set4_below BW.out (by omega) _ _ _ _, fun h => by rw [e1.out] at h; cases h⟩
              rw [e1.out]
            case false =>
              have hz : Hid (z = 0) := hid (by have := of_decide_eq_false hem.out.symm; omega)
              cases h1 : wordB x
              · have e1 := hid (hbad.out (by rw [hwo.out, h1]; rfl))
                go_wp2
                obtain ⟨c0, c1, c2, c3⟩ := SC.out (.slice none 0 0) (.slice none 0 0) (.slice none 0 0) (.slice none 0 0)
                refine bodyPost_ret (v := .tuple #[.agg #[.slice none 0 0, .slice none 0 0, .slice none 0 0, .slice none 0 0], .bool false]) (by simp [results, Try.results86, go_sem, c0, c1, c2, c3]) rfl ?_
                refine ⟨fun i => (none, 0, 0), ?_, set4_below BW.out (by omega) _ _ _ _, fun h => by rw [e1.out] at h; cases h⟩
                rw [e1.out]
              cases h2 : clsB O.k
              · have e1 := hid (hbad.out (by rw [hwo.out, h1, h2]; rfl))
                go_wp2
                obtain ⟨c0, c1, c2, c3⟩ := SC.out (.slice none 0 0) (.slice none 0 0) (.slice none 0 0) (.slice none 0 0)
                refine bodyPost_ret (v := .tuple #[.agg #[.slice none 0 0, .slice none 0 0, .slice none 0 0, .slice none 0 0], .bool false]) (by simp [results, Try.results86, go_sem, c0, c1, c2, c3]) rfl ?_
                refine ⟨fun i => (none, 0, 0), ?_, set4_below BW.out (by omega) _ _ _ _, fun h => by rw [e1.out] at h; cases h⟩
                rw [e1.out]
              cases h3 : (clsN O.k == (j : Int))
              · have e1 := hid (hbad.out (by rw [hwo.out, h1, h2, h3]; rfl))
                have h3n : (clsN O.k != (j : Int)) = true := by unfold bne; rw [h3]; rfl
                go_wp2
                obtain ⟨c0, c1, c2, c3⟩ := SC.out (.slice none 0 0) (.slice none 0 0) (.slice none 0 0) (.slice none 0 0)
                refine bodyPost_ret (v := .tuple #[.agg #[.slice none 0 0, .slice none 0 0, .slice none 0 0, .slice none 0 0], .bool false]) (by simp [results, Try.results86, go_sem, c0, c1, c2, c3]) rfl ?_
                refine ⟨fun i => (none, 0, 0), ?_, set4_below BW.out (by omega) _ _ _ _, fun h => by rw [e1.out] at h; cases h⟩
                rw [e1.out]
              · have e1 : Hid (wOk j x = true) := hid (by rw [hwo.out, h1, h2, h3]; rfl)
                have h3n : (clsN O.k != (j : Int)) = false := by unfold bne; rw [h3]; rfl
                have HNE : Hid (some (w.heap.size + 1 + 1) ≠ bv.ownBlock) := hid (fun e => by have := (hown.out.lt _ e.symm).1; have := hsz.out; omega)
                have hlo : Hid (∀ k, bv.ownBlock = some k → wc.heap.size ≤ k) := hid (fun k hk => (hown.out.lt k hk).1)
                have hOLl : Hid ((P.map wordO).length ≤ k) := hid (by have := hhalf.out.len; rw [List.length_take] at this; rw [List.length_map]; omega)
                have hzs : Hid (wc.heap.size ≤ wr.heap.size) := hid hpart.out.grow.size
                have hPO : Hid ((P ++ [x]).map wordO = P.map wordO ++ [O]) := hid (by rw [List.map_append, ← hoo.out]; rfl)
                have hH : Hid (Half j (S.take (k + 1)) (P ++ [x]) 0) := hid (by rw [hts.out]; have := hhalf.out; rw [hz.out] at this; exact this.word hx0'.out e1.out)
                generalize P.map wordO = OL at *
                have hgz7 : w.heap.size + 1 + 1 < w7.heap.size := World.block_lt_of_cell? w7 _ hbv7
                clear n0 n1 n2 n3 f0 f1 f2 f3
                go_wp2
                go_region_law ((refine step_append_lies _ (by rfl) _ _ _ (by rfl) wc.heap.size 55 oi oz 5 16 OHU.out OHI.out OHZ.out o5.out o16.out oz5.out (by omega) bv OL.length (OL.flatMap Op.cells) (by rfl) (own_below hown.out (balloc (bdrew B7.out) _)) ⟨w7.heap.size, 0, none⟩ 1 1 (Op.cells O) (by rfl) (by rfl) (World.news_of_block (heap_new_at _ _ _ (by simp))) (op_one O) (by omega) (by unfold maxLen; have := hOLl.out; omega) (by have := hOLl.out; omega) (by have := hzs.out; have := B7.out.size; simp; omega) _ rfl ?_); intro g3 d3 w9 hown9 hgrow9 hat9 hlt9; have r9 := hgrow9.cell (cell_keep hbv7 (balloc (bdrew (Below.refl _ _)) _)) HNE.out; have f9 := (hgrow9.frozen_far ⟨w.heap.size + 1 + 1, j, none⟩ (by simp; omega) HNE.out).trans (frozen_keep hbf7 hgz7 (balloc (bdrew (Below.refl _ _)) _)); have hg9 : w.heap.size + 1 + 1 < w9.heap.size := World.block_lt_of_cell? w9 _ r9)
                all_goals
                  have hgc : w.heap.size + 1 + 1 < wc.heap.size := by have := hsz.out; omega
                  have PP9 : Hid (Part (w.heap.size + 1 + 1) j 1 wc (w9.setCell ⟨w.heap.size + 1 + 1, j, none⟩ (.slice (some ⟨g3, 0, none⟩) (OL.length + 1) d3))) := by
                    refine hid (hpart.out.put ?_ hgc hgrow9 hlo.out _)
                    exact bdrew (balloc B7.out _)
                  have OW : Hid (OwnO (w9.setCell ⟨w.heap.size + 1 + 1, j, none⟩ (.slice (some ⟨g3, 0, none⟩) (OL.length + 1) d3)) wc.heap.size (.slice (some ⟨g3, 0, none⟩) (OL.length + 1) d3) (OL ++ [O])) := hid (OwnO.snoc hown9 |>.set hgc _)
                  have R9 := hid r9
                  have F9 := hid f9
                  clear hown9 hgrow9 hat9 hlt9 r9 f9 s0 s1 s2 s3 s4 hbv7 hbf7
                  go_wp2
                  go_roundg (n - (k + 1))
                  case measure => have := hgq.out; omega
                  case rel => exact ⟨k + 1, 0, P ++ [x], _, false, by omega, by go_num, by go_num, rfl, hid (by simp), by show _ + _ = _; have := hgq.out; omega, hH, set_same R9.out, set_frozen F9.out, hid (by rw [hPO.out]; exact OW.out), PP9⟩
        · obtain rfl : k = n := by omega
          rw [List.take_of_length_le (by rw [hSl.out]; exact Nat.le_refl _)] at hhalf
          have e1 : Hid (segB t ws j = true) := hid (by unfold segB; rw [hseg.out]; exact hhalf.out.all)
          have e2 : Hid (readO t ws j = P.map wordO) := hid (by unfold readO; rw [hseg.out, hhalf.out.trim])
          clear hz0 hf0
          go_wp2
          go_roundg (4 - (j + 1))
          case measure => have := hg.out; omega
          case rel =>
            refine ⟨j + 1, by omega, by go_num, by rw [hnext.out], by show _ + _ = _; have := hg.out; omega, hid fun i hi => ?_, hid (htr.out.part hpart.out (by omega)), hid (below_part hbw.out hpart.out (by omega)), hid fun q hq1 hq2 => (hpart.out.cell _ (by omega)).trans (hcells.out q (by omega) hq2), hid fun q hq => (hpart.out.frozen _).trans (hfz.out q hq), hid (hnil.out.part hpart.out (by omega)), hid (by have := hpart.out.grow.size; have := hsz.out; omega)⟩
            by_cases h : i < j
            · exact ⟨(hall.out i h).1, (hall.out i h).2.part hpart.out (by omega) (by omega)⟩
            · obtain rfl : i = j := by omega
              refine ⟨e1.out, bv, hbv, ?_⟩
              rw [e2.out]
              exact hown.out.base hsz.out
    · obtain rfl : j = 4 := by omega
      have e0 := hid (segB_yes (t := t) (ws := ws) fun i hi => (hall.out i hi).1)
      obtain ⟨v, hv⟩ := Go.Deep.choose_lt fun i hi => (hall.out i hi).2.val
      have d0 := (hv 0 (by omega)).1
      have d1 := (hv 1 (by omega)).1
      have d2 := (hv 2 (by omega)).1
      have d3 := (hv 3 (by omega)).1
      have HV := hid hv
      clear hv
      obtain ⟨n0, f0⟩ := hnil.out 0 (by omega)
      obtain ⟨n1, f1⟩ := hnil.out 1 (by omega)
      obtain ⟨n2, f2⟩ := hnil.out 2 (by omega)
      obtain ⟨n3, f3⟩ := hnil.out 3 (by omega)
      have SC := hid (set4_cells hnil.out)
      go_wp2
      obtain ⟨c0, c1, c2, c3⟩ := SC.out (.slice (v 0).1 (readO t ws 0).length (v 0).2) (.slice (v 1).1 (readO t ws 1).length (v 1).2) (.slice (v 2).1 (readO t ws 2).length (v 2).2) (.slice (v 3).1 (readO t ws 3).length (v 3).2)
      refine bodyPost_ret (v := .tuple #[.agg #[.slice (v 0).1 (readO t ws 0).length (v 0).2, .slice (v 1).1 (readO t ws 1).length (v 1).2, .slice (v 2).1 (readO t ws 2).length (v 2).2, .slice (v 3).1 (readO t ws 3).length (v 3).2], .bool true]) (by simp [results, Try.results86, go_sem, c0, c1, c2, c3]) rfl ?_
      refine ⟨fun i => ((v i).1, (readO t ws i).length, (v i).2), ?_, set4_below hbw.out (by omega) _ _ _ _, fun _ i hi => ((HV.out i hi).2.set4 (by omega) _ _ _ _).base (by omega)⟩
      rw [e0.out]
end Go.Proofs.Ytcibkoodnfkogaa
