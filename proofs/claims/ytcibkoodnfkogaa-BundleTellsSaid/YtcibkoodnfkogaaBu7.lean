/- The contract of bundle.read. -/
import Derived.Test.YtcibkoodnfkogaaBu6
import Derived.Deep.CutBlock
namespace Go.Proofs.Ytcibkoodnfkogaa
open Go.RowKit
set_option linter.unusedVariables false
set_option linter.unusedSimpArgs false
theorem OwnO.base {w : World} {b b2 : Nat} {v : Value} {l : List Op} (h : OwnO w b v l) (hb : b2 ≤ b) : OwnO w b2 v l := by
  refine ⟨h.1, ?_⟩
  rcases h.2 with hn | ⟨g, cap, cur, hv, hbg, rest⟩
  · exact .inl hn
  · exact .inr ⟨g, cap, cur, hv, by omega, rest⟩
theorem op_one (o : Op) : ∀ u ∈ Op.cells o, u.oneCell' = true := fun u hu => flat_one [o] u (by simpa using hu)
theorem OwnO.lt {w : World} {base : Nat} {v : Value} {l : List Op} (h : OwnO w base v l) : ∀ k, v.ownBlock = some k → base ≤ k ∧ k < w.heap.size := World.ownsRow.lt h
theorem OwnO.snoc {w : World} {base g c : Nat} {l : List Op} {x : Op} (h : w.ownsRow base 55 5 (.slice (some ⟨g, 0, none⟩) (l.length + 1) c) (l.length + 1) (l.flatMap Op.cells ++ x.cells)) : OwnO w base (.slice (some ⟨g, 0, none⟩) (l.length + 1) c) (l ++ [x]) := by
  unfold OwnO
  rw [List.length_append, List.flatMap_append]
  simpa using h
theorem OwnO.set {w : World} {base : Nat} {v : Value} {l : List Op} (h : OwnO w base v l) {a : Addr} (ha : a.block < base) (u : Value) : OwnO (w.setCell a u) base v l := ownsRow_setCell_below h ha u
def ReadP (g o : Nat) (t ws : List Int) (w : World) (e : Ending) (w' : World) : Prop :=
  e = .returned (.bool (readB t ws)) ∧ Part g o 4 w w' ∧ (readB t ws = true → ∀ j, j < 4 → Done w' w.heap.size g (o + j) (readO t ws j))
theorem segB_no {t ws : List Int} {j : Nat} (hj : j < 4) (h : segB t ws j = false) : readB t ws = false := by
  unfold readB
  obtain rfl | rfl | rfl | rfl : j = 0 ∨ j = 1 ∨ j = 2 ∨ j = 3 := by omega
  all_goals simp [h]
theorem segB_yes {t ws : List Int} (h : ∀ j, j < 4 → segB t ws j = true) : readB t ws = true := by
  unfold readB
  rw [h 0 (by omega), h 1 (by omega), h 2 (by omega), h 3 (by omega)]
  rfl
set_option maxHeartbeats 4000000 in
set_option maxRecDepth 100000 in
theorem read_any (g o gt : Nat) (A : Option Addr) (cap : Nat) (ws : List Int) (t : List Int) (w : World) (hz : ∀ j, j < 4 → w.cell? ⟨g, o + j, none⟩ = some (.slice none 0 0)) (hfz : ∀ j, j < 4 → w.frozen? ⟨g, o + j, none⟩ = false)
    (hws : WordsIn w A ws) (hA : ∀ a, A = some a → a.block ≠ g) (hcap : ws.length ≤ cap) (hlen : (ws.length : Int) = sumU t 4) (htok : tabOk t = true) (ht : TabIn w gt t) (hgt : gt ≠ g) (hcm : cap ≤ 9223372036854775807) (hwx : ∀ x ∈ ws, 0 ≤ x ∧ x ≤ 18446744073709551615) :
    Calls Try.prog 83 #[.pointer (some ⟨g, o, none⟩), .slice A ws.length cap, .pointer (some ⟨gt, 0, none⟩)] w (ReadP g o t ws w) := by
  have k0 := ht 0 (by omega)
  have k1 := ht 1 (by omega)
  have k2 := ht 2 (by omega)
  have k3 := ht 3 (by omega)
  have HT := hid ht
  have HWS := hid hws
  have OK := hid htok
  have hix := hid (fun j hj w => index_units (t[(0 : Nat)]?.getD 0) (t[(1 : Nat)]?.getD 0) (t[(2 : Nat)]?.getD 0) (t[(3 : Nat)]?.getD 0) j hj w)
  have hff : Hid (∀ j, j < 4 → [t[(0 : Nat)]?.getD 0, t[(1 : Nat)]?.getD 0, t[(2 : Nat)]?.getD 0, t[(3 : Nat)]?.getD 0][j]?.getD 0 = t[j]?.getD 0) := hid fun j hj => by
    obtain rfl | rfl | rfl | rfl : j = 0 ∨ j = 1 ∨ j = 2 ∨ j = 3 := by omega
    all_goals rfl
  have HZ := hid hz
  have HF := hid hfz
  have HWX := hid hwx
  have HL := hid hlen
  have HA := hid hA
  have hgs : g < w.heap.size := World.block_lt_of_cell? w _ (hz 0 (by omega))
  clear ht hws htok hz hfz hwx hlen hA
  obtain ⟨oi, oz, hoi, hoz, o5, o16, oz5⟩ := op_info
  have OHI := hid hoi
  have OHZ := hid hoz
  have OHU := hid (Try.underlying38)
  replace o5 := hid o5
  replace o16 := hid o16
  replace oz5 := hid oz5
  clear hoi hoz
  go_enter Try.func83, Try.ntmps83
  go_wp2
  clear k0 k1 k2 k3
  go_loopg [1, 20] 4 (fun gk v1 v wr => ∃ (j : Nat) (A' : Option Addr) (cap' : Nat) (rest : List Int), j ≤ 4 ∧ v = .int .i64 j ∧ v1 = .slice A' rest.length cap' ∧ Hid (gk + j = 4) ∧ Hid (rest = ws.drop (sumU t j).toNat) ∧ Hid (WordsIn wr A' rest) ∧ Hid (∀ a, A' = some a → a.block ≠ g) ∧ rest.length ≤ cap' ∧ cap' ≤ 9223372036854775807 ∧ Hid (∀ i, i < j → segB t ws i = true ∧ Done wr w.heap.size g (o + i) (readO t ws i)) ∧ Hid (TabIn wr gt t) ∧ Hid (Part g o 4 w wr) ∧
    Hid (∀ q, j ≤ q → q < 4 → wr.cell? ⟨g, o + q, none⟩ = some (.slice none 0 0)))
  case atStart => exact ⟨0, A, cap, ws, by omega, rfl, rfl, by exact Nat.add_zero _, rfl, HWS, HA, hcap, hcm, fun i hi => by omega, HT, hid (Part.refl _ _ _ _), hid fun q _ hq => HZ.out q hq⟩
  case round =>
    obtain ⟨j, A', cap', rest, hj, rfl, rfl, hg, hrest, hwr, hA', hcr, hcm', hall, htr, hfour, hcells⟩ := hrel
    by_cases hj4 : j < 4
    · obtain ⟨wo, rfl⟩ : ∃ wo : World, wo = wr := ⟨_, rfl⟩
      have hi := hix.out j hj4
      rw [hff.out j hj4] at hi
      have hu := units_bd OK.out j hj4
      obtain ⟨hu0, hu1⟩ := hu
      have hju : t[j]?.getD 0 ≤ (rest.length : Int) := by
        have h1 := sumU_mono OK.out j hj4
        have h2 := HL.out
        have h3 := sumU_bd OK.out j hj
        rw [hrest.out, List.length_drop]
        omega
      have hseg : Hid (seg t ws j = rest.take (t[j]?.getD 0).toNat) := hid (by unfold seg; rw [hrest.out])
      have hnext : Hid (rest.drop (t[j]?.getD 0).toNat = ws.drop (sumU t (j + 1)).toNat) := hid (by
        have h3 := sumU_bd OK.out j hj
        rw [hrest.out, List.drop_drop]
        congr 1
        simp only [sumU]
        omega)
      obtain ⟨n, hn⟩ : ∃ n : Nat, t[j]?.getD 0 = n := ⟨(t[j]?.getD 0).toNat, by omega⟩
      rw [hn] at hi hju hseg hnext
      rw [Int.toNat_natCast] at hseg hnext
      have HN := hid hn
      have hn8 : n ≤ 8 := by omega
      have hnr : n ≤ rest.length := by omega
      clear hn hu0 hu1 hju
      have hnc : n ≤ cap' := by omega
      have hnci : (n : Int) ≤ (cap' : Int) := by omega
      have hrci : (rest.length : Int) ≤ (cap' : Int) := by omega
      have hgo : Hid (g < wo.heap.size) := hid (by have := hfour.out.grow.size; omega)
      have hji : (j : Int) < 4 := by omega
      have hj0 : (0 : Int) ≤ (j : Int) := by omega
      obtain ⟨R, hR⟩ : ∃ R : List Int, R = rest.take n := ⟨_, rfl⟩
      have hRl : Hid (R.length = n) := hid (by rw [hR, List.length_take]; omega)
      have hRw : Hid (WordsIn wo A' R) := hid (by rw [hR]; exact hwr.out.take n)
      rw [← hR] at hseg
      have hRx : Hid (∀ x ∈ R, 0 ≤ x ∧ x ≤ 18446744073709551615) := hid (fun x hx => HWX.out x (by rw [hR, hrest.out] at hx; exact List.mem_of_mem_drop (List.mem_of_mem_take hx)))
      replace hR := hid hR
      go_upto_region 5 with (fail)
      go_cut [1] (fun v1 wx => ∃ (A2 : Option Addr) (cap2 : Nat), v1 = .slice A2 (rest.length - n) cap2 ∧ Hid (WordsIn wo A2 (rest.drop n)) ∧ Hid (∀ a, A2 = some a → a.block ≠ g) ∧ rest.length - n ≤ cap2 ∧ cap2 ≤ 9223372036854775807 ∧ wx = wo)
      case first =>
        by_cases hcn : cap' = n
        · go_wp2_with fail
          go_meet
          case rel => exact ⟨A', 0, rfl, hid (by rw [List.drop_of_length_le (by omega)]; exact fun h => absurd rfl h), hA', by omega, by omega, rfl⟩
        · go_wp2_with fail
          go_meet
          case rel =>
            refine ⟨A'.map (·.add n), cap' - n, rfl, hid (hwr.out.drop n), hid (fun a ha => ?_), by omega, by omega, rfl⟩
            cases hx : A' with
            | none => rw [hx] at ha; cases ha
            | some a0 =>
              rw [hx] at ha
              injection ha with ha
              subst ha
              have := hA'.out a0 hx
              unfold Addr.add
              split <;> exact this
      case rest =>
        obtain ⟨A2, cap2, rfl, hw2, hA2, hc2, hcm2, rfl⟩ := hcut
        clear hi
        go_upto_block 2 with (fail)
        go_cut [9] (fun v9 wx => ∃ m : Nat, m ≤ n ∧ v9 = .slice A' m cap' ∧ Hid (trim R = R.take m) ∧ wx = wc)
        case first =>
          go_wp2_with fail
          go_loopg [9] n (fun gm v9 wr => ∃ m : Nat, m ≤ n ∧ v9 = .slice A' m cap' ∧ Hid (gm = m) ∧ Hid (trim R = trim (R.take m)) ∧ wr = wc)
          case atStart => exact ⟨n, Nat.le_refl _, rfl, hid rfl, hid (by rw [List.take_of_length_le (by rw [hRl.out]; exact Nat.le_refl _)]), rfl⟩
          case round =>
            obtain ⟨m, hm, rfl, hgm, htrim, rfl⟩ := hrel
            cases m with
            | zero =>
              have e1 := hid (trim_end htrim.out (.inl rfl))
              go_wp2
              go_meet
              case rel => exact ⟨0, hm, rfl, e1, rfl⟩
            | succ k =>
              obtain ⟨ga, offa, rfl, hx⟩ := hRw.out (by intro h; have := hRl.out; rw [h] at this; simp at this; omega)
              have hkR : k < R.length := by have := hRl.out; omega
              have hk := hx k R[k] (List.getElem?_eq_getElem hkR)
              have hkc : (k : Int) + 1 ≤ (cap' : Int) := by omega
              have hk0 : (0 : Int) ≤ (k : Int) := by omega
              have hxk : Hid (R[k]? = some R[k]) := hid (List.getElem?_eq_getElem hkR)
              have hts : Hid (R.take (k + 1) = R.take k ++ [R[k]]) := hid (by rw [List.take_add_one, List.getElem?_eq_getElem hkR]; rfl)
              clear hx
              by_cases h0 : R[k] = 0
              · have e1 : Hid (trim R = trim (R.take k)) := hid (by rw [htrim.out, hts.out, h0, trim_snoc0])
                have h0b : (R[k] == 0) = true := by rw [h0]; rfl
                generalize R[k] = x at *
                go_wp2
                go_roundg k
                case measure => have := hgm.out; omega
                case rel => exact ⟨k, by omega, by go_num, hid rfl, e1, rfl⟩
              · have h0b : (R[k] == 0) = false := by simpa using h0
                have e1 : Hid (trim R = R.take (k + 1)) := hid (trim_end htrim.out (.inr ⟨k, R[k], rfl, hxk.out, h0⟩))
                generalize R[k] = x at *
                go_wp2
                go_meet
                case rel => exact ⟨k + 1, hm, rfl, e1, rfl⟩
        case rest =>
          obtain ⟨m, hm, rfl, htrim, rfl⟩ := hcut
          go_wp2
          have hRt : Hid (segB t ws j = (R.take m).all (wOk j)) := hid (by unfold segB; rw [hseg.out, htrim.out])
          have hRO : Hid (readO t ws j = (R.take m).map wordO) := hid (by unfold readO; rw [hseg.out, htrim.out])
          have hz0 := hcells.out j (Nat.le_refl _) hj4
          have hf0 : wc.frozen? ⟨g, o + j, none⟩ = false := (hfour.out.frozen _).trans (HF.out j hj4)
          go_loopg [49] m (fun gq v wz => ∃ (q : Nat) (bv : Value), q ≤ m ∧ v = .int .i64 q ∧ Hid (gq + q = m) ∧ Hid (∀ p, p < q → ∃ x, R[p]? = some x ∧ wOk j x = true) ∧ wz.cell? ⟨g, o + j, none⟩ = some bv ∧ wz.frozen? ⟨g, o + j, none⟩ = false ∧ Hid (OwnO wz wc.heap.size bv ((R.take q).map wordO)) ∧ Hid (Part g (o + j) 1 wc wz))
          case atStart => exact ⟨0, _, by omega, rfl, by exact Nat.add_zero _, fun p hp => by omega, hz0, hf0, hid (by simpa [OwnO] using World.ownsRow_nil _ _ _ _), hid (Part.refl _ _ _ _)⟩
          case round =>
            obtain ⟨q, bv, hq, rfl, hgq, hallq, hbv, hbf, hown, hpart⟩ := hrel
            by_cases hqm : q < m
            · obtain ⟨ga, offa, rfl, hx⟩ := (hRw.out.part hpart.out hA'.out) (by intro h; have := hRl.out; rw [h] at this; simp at this; omega)
              have hkR : q < R.length := by have := hRl.out; omega
              have hk := hx q R[q] (List.getElem?_eq_getElem hkR)
              have hxb := hRx.out R[q] (List.getElem_mem hkR)
              obtain ⟨hx0, hx1⟩ := hxb
              have hq0 : (0 : Int) ≤ (q : Int) := by omega
              have hqi : (q : Int) < (m : Int) := by omega
              have hqR : Hid (R[q]? = some R[q]) := hid (List.getElem?_eq_getElem hkR)
              have hts : Hid ((R.take (q + 1)).map wordO = (R.take q).map wordO ++ [wordO R[q]]) := hid (by rw [List.take_add_one, List.getElem?_eq_getElem hkR, List.map_append]; rfl)
              have hbad : Hid (wOk j R[q] = false → readB t ws = false) := hid fun h => segB_no hj4 (by
                rw [hRt.out, Bool.eq_false_iff]
                intro ha
                have := List.all_eq_true.1 ha R[q] (List.mem_of_getElem? (i := q) (by rw [List.getElem?_take, if_pos hqm]; exact hqR.out))
                rw [h] at this
                cases this)
              have KO := hid (fun w => op_any R[q] w hx0 hx1)
              have KC := hid (fun w => class_any (wordO R[q]).k w)
              have hwo : Hid (wOk j R[q] = (wordB R[q] && (clsB (wordO R[q]).k && (clsN (wordO R[q]).k == j)))) := hid rfl
              have hwfo := hid (wordO_wf R[q])
              clear hx
              generalize hxx : R[q] = x at *
              generalize hoo : wordO x = O at *
              replace hoo := hid hoo
              replace hxx := hid hxx
              have hgz : g < wr.heap.size := World.block_lt_of_cell? wr _ hbv
              go_wp2_with fail
              with_reducible refine (KO.out _).mono ?_
              rintro e w6 ⟨rfl, hb⟩
              have hb6 := hid hb
              have hbv6 := cell_keep hbv hb
              have hbf6 := frozen_keep hbf hgz hb
              clear hb
              go_wp2_with fail
              with_reducible refine (KC.out _).mono ?_
              rintro e w7 ⟨rfl, hb⟩
              have hb7 : Hid (Below w6.heap.size w6 w7) := hid (btrans (a := w6) (by ((with_reducible (repeat (first | assumption | exact Below.refl _ _ | refine bset ?_ (Nat.le_refl _) _ | refine balloc ?_ _ | refine bdrew ?_ | refine bdrewN ?_ _))); done)) hb)
              have s0 : w7.cell? ⟨w6.heap.size, 0, none⟩ = some (.int .i8 O.k) := cell_keep (by simp) hb
              have s1 : w7.cell? ⟨w6.heap.size, 1, none⟩ = some (.int .u8 O.d) := cell_keep (by simp) hb
              have s2 : w7.cell? ⟨w6.heap.size, 2, none⟩ = some (.int .u8 O.a) := cell_keep (by simp) hb
              have s3 : w7.cell? ⟨w6.heap.size, 3, none⟩ = some (.int .u8 O.b) := cell_keep (by simp) hb
              have s4 : w7.cell? ⟨w6.heap.size, 4, none⟩ = some (.int .i64 O.n) := cell_keep (by simp) hb
              clear hb
              have hbv7 := cell_keep hbv6 hb7.out
              have hbf7 := frozen_keep hbf6 (World.block_lt_of_cell? w6 _ hbv6) hb7.out
              have B7 : Hid (Below wr.heap.size wr w7) := hid (btrans hb6.out hb7.out)
              have PP : Hid (Part g o 4 w w7) := hid (hfour.out.trans ((hpart.out.trans (Part.of_below B7.out hgz)).weak (by omega) (by omega)))
              cases h1 : wordB x
              · have e1 := hid (hbad.out (by rw [hwo.out, h1]; rfl))
                go_wp2
                go_ret
                exact ⟨ret_bool e1.out.symm, PP.out, fun h => by rw [e1.out] at h; cases h⟩
              cases h2 : clsB O.k
              · have e1 := hid (hbad.out (by rw [hwo.out, h1, h2]; rfl))
                go_wp2
                go_ret
                exact ⟨ret_bool e1.out.symm, PP.out, fun h => by rw [e1.out] at h; cases h⟩
              cases h3 : (clsN O.k == (j : Int))
              · have e1 := hid (hbad.out (by rw [hwo.out, h1, h2, h3]; rfl))
                have h3n : (clsN O.k != (j : Int)) = true := by unfold bne; rw [h3]; rfl
                go_wp2
                go_ret
                exact ⟨ret_bool e1.out.symm, PP.out, fun h => by rw [e1.out] at h; cases h⟩
              · have e1 : Hid (wOk j x = true) := hid (by rw [hwo.out, h1, h2, h3]; rfl)
                have h3n : (clsN O.k != (j : Int)) = false := by unfold bne; rw [h3]; rfl
                have HNE : Hid (some g ≠ bv.ownBlock) := hid (fun e => by have := (hown.out.lt _ e.symm).1; have := hfour.out.grow.size; omega)
                have hlo : Hid (∀ k, bv.ownBlock = some k → wc.heap.size ≤ k) := hid (fun k hk => (hown.out.lt k hk).1)
                have hOLl : Hid (((R.take q).map wordO).length = q) := hid (by rw [List.length_map, List.length_take]; omega)
                have hzs : Hid (wc.heap.size ≤ wr.heap.size) := hid hpart.out.grow.size
                generalize (R.take q).map wordO = OL at *
                have hgz7 : g < w7.heap.size := World.block_lt_of_cell? w7 _ hbv7
                go_wp2
                go_region_law ((refine step_append_lies _ (by rfl) _ _ _ (by rfl) wc.heap.size 55 oi oz 5 16 OHU.out OHI.out OHZ.out o5.out o16.out oz5.out (by omega) bv OL.length (OL.flatMap Op.cells) (by rfl) (own_below hown.out (balloc (bdrew B7.out) _)) ⟨w7.heap.size, 0, none⟩ 1 1 (Op.cells O) (by rfl) (by rfl) (World.news_of_block (heap_new_at _ _ _ (by simp))) (op_one O) (by omega) (by unfold maxLen; have := hOLl.out; omega) (by have := hOLl.out; omega) (by have := hzs.out; have := B7.out.size; simp; omega) _ rfl ?_); intro g3 d3 w9 hown9 hgrow9 hat9 hlt9; have r9 := hgrow9.cell (cell_keep hbv7 (balloc (bdrew (Below.refl _ _)) _)) HNE.out; have f9 := (hgrow9.frozen_far ⟨g, o + j, none⟩ (by simp; omega) HNE.out).trans (frozen_keep hbf7 hgz7 (balloc (bdrew (Below.refl _ _)) _)); have hg9 : g < w9.heap.size := World.block_lt_of_cell? w9 _ r9)
                all_goals
                  have hgc : g < wc.heap.size := by have := hfour.out.grow.size; omega
                  have PP9 : Hid (Part g (o + j) 1 wc (w9.setCell ⟨g, o + j, none⟩ (.slice (some ⟨g3, 0, none⟩) (OL.length + 1) d3))) := by
                    refine hid (hpart.out.put ?_ hgc hgrow9 hlo.out _)
                    exact bdrew (balloc B7.out _)
                  have OW : Hid (OwnO (w9.setCell ⟨g, o + j, none⟩ (.slice (some ⟨g3, 0, none⟩) (OL.length + 1) d3)) wc.heap.size (.slice (some ⟨g3, 0, none⟩) (OL.length + 1) d3) (OL ++ [O])) := hid (OwnO.snoc hown9 |>.set hgc _)
                  have R9 := hid r9
                  have F9 := hid f9
                  clear hown9 hgrow9 hat9 hlt9 r9 f9 s0 s1 s2 s3 s4 hbv7 hbf7
                  go_wp2
                  go_roundg (m - (q + 1))
                  case measure => have := hgq.out; omega
                  case rel =>
                    refine ⟨q + 1, _, by omega, by go_num, by show _ + _ = _; have := hgq.out; omega, fun p hp => ?_, set_same R9.out, set_frozen F9.out, hid (by rw [hts.out]; exact OW.out), PP9⟩
                    by_cases h : p < q
                    · exact hallq.out p h
                    · obtain rfl : p = q := by omega
                      exact ⟨x, hqR.out, e1.out⟩
            · obtain rfl : q = m := by omega
              have e1 : Hid (segB t ws j = true) := hid (by
                rw [hRt.out, List.all_eq_true]
                intro x hx
                obtain ⟨p, hp⟩ := List.mem_iff_getElem?.1 hx
                rw [List.getElem?_take] at hp
                split at hp
                · next h =>
                  obtain ⟨y, hy, hok⟩ := hallq.out p h
                  rw [hy] at hp
                  injection hp with hp
                  subst hp
                  exact hok
                · cases hp)
              have P1 := hid (hfour.out.trans (hpart.out.weak (o := o) (n := 4) (by omega) (by omega)))
              go_wp2
              go_roundg (4 - (j + 1))
              case measure => have := hg.out; omega
              case rel =>
                refine ⟨j + 1, A2, cap2, rest.drop n, by omega, by go_num, by rw [List.length_drop], by show _ + _ = _; omega, hid hnext.out, hid (hw2.out.part hpart.out hA2.out), hA2, by rw [List.length_drop]; exact hc2, hcm2, hid fun i hi => ?_, hid (htr.out.part hpart.out hgt), P1, hid fun p hp1 hp2 => (hpart.out.cell _ (by omega)).trans (hcells.out p (by omega) hp2)⟩
                by_cases h : i < j
                · exact ⟨(hall.out i h).1, (hall.out i h).2.part hpart.out (by omega) hgs⟩
                · obtain rfl : i = j := by omega
                  refine ⟨e1.out, bv, hbv, ?_⟩
                  rw [hRO.out]
                  exact hown.out.base (by have := hfour.out.grow.size; omega)
    · obtain rfl : j = 4 := by omega
      have e0 := hid (segB_yes (t := t) (ws := ws) fun i hi => (hall.out i hi).1)
      go_wp2
      go_ret
      exact ⟨ret_bool e0.out.symm, hfour.out, fun _ i hi => (hall.out i hi).2⟩
end Go.Proofs.Ytcibkoodnfkogaa
