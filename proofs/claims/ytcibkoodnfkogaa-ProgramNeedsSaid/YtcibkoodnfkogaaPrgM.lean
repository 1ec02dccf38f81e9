/- A unit more never hurts, units that no operation uses do not matter: the walk. -/
import Derived.Test.YtcibkoodnfkogaaPrgN
import Derived.BigGuard
namespace Go.Proofs.Ytcibkoodnfkogaa
open Go.RowKit
set_option linter.unusedVariables false
set_option linter.unusedSimpArgs false
theorem TabIn.boxT {t : List Int} (ht : t.length = 13) (w : World) (T : TypeId) : TabIn (w.alloc (.cells #[.int .i64 (t[(0 : Nat)]?.getD 0), .int .i64 (t[(1 : Nat)]?.getD 0), .int .i64 (t[(2 : Nat)]?.getD 0), .int .i64 (t[(3 : Nat)]?.getD 0), .int .i64 (t[(4 : Nat)]?.getD 0), .int .i64 (t[(5 : Nat)]?.getD 0), .int .i64 (t[(6 : Nat)]?.getD 0), .int .i64 (t[(7 : Nat)]?.getD 0), .int .i64 (t[(8 : Nat)]?.getD 0), .int .i64 (t[(9 : Nat)]?.getD 0), .int .i64 (t[(10 : Nat)]?.getD 0), .int .i64 (t[(11 : Nat)]?.getD 0), .int .i64 (t[(12 : Nat)]?.getD 0)] T)) w.heap.size t := by
  obtain ⟨a0, a1, a2, a3, a4, a5, a6, a7, a8, a9, a10, a11, a12, rfl⟩ := thirteen ht
  exact TabIn.box a0 a1 a2 a3 a4 a5 a6 a7 a8 a9 a10 a11 a12 w T
theorem TabIn.set {w : World} {g : Nat} {t : List Int} (h : TabIn w g t) (ht : t.length = 13) (c : Nat) (hc : c < 4) (x : Int) : TabIn (w.setCell ⟨g, c, none⟩ (.int .i64 x)) g (setU t c x) := fun j hj => by
  rw [setU_get ht c hc x j]
  by_cases e : j = c
  · subst e
    rw [if_pos rfl]
    exact World.cell?_setCell_same w _ _ (h j hj)
  · rw [if_neg e]
    exact (World.cell?_setCell_other w _ _ _ (by intro h; injection h with _ h _; exact e h.symm)).trans (h j hj)
theorem set_other' {w : World} {p q : Addr} {x u : Value} (h : w.cell? q = some x) (hne : p.block ≠ q.block) : (w.setCell p u).cell? q = some x := (World.cell?_setCell_other w _ _ _ (fun e => hne (by rw [e]))).trans h
theorem any_snoc2 {l : List Blk} {f : Blk → Bool} {i : Nat} (hi : i < l.length) : (l.take (i + 1)).any f = ((l.take i).any f || f l[i]) := by
  rw [List.take_add_one, List.getElem?_eq_getElem hi, List.any_append]
  simp
set_option maxHeartbeats 4000000 in
set_option maxRecDepth 100000 in
theorem ProgramNeeds_walk (A : Option Addr) (l : List Blk) (c : Nat) (t : List Int) (n : Int) (w : World) (hl : BlksIn w A l) (hw : ∀ b ∈ l, b.wf) (hc : l.length ≤ c) (hmx : c ≤ 1954687340000) (ht : t.length = 13) (hwt : ∀ n ∈ t, -9223372036854775808 ≤ n ∧ n ≤ 9223372036854775807) :
    Calls Try.prog 11 #[.agg #[.slice A l.length c], .agg (t.map (Value.int .i64)).toArray, .int .i64 n] w fun e w' => e = .returned (.bool true) ∧ Below w.heap.size w w' := by
  have CW := hid (fun w => wakes04_any w)
  have HL := hid hl
  have hV : Value.agg (t.map (Value.int .i64)).toArray = tabX (t[(0 : Nat)]?.getD 0) (t[(1 : Nat)]?.getD 0) (t[(2 : Nat)]?.getD 0) (t[(3 : Nat)]?.getD 0) (t[(4 : Nat)]?.getD 0) (t[(5 : Nat)]?.getD 0) (t[(6 : Nat)]?.getD 0) (t[(7 : Nat)]?.getD 0) (t[(8 : Nat)]?.getD 0) (t[(9 : Nat)]?.getD 0) (t[(10 : Nat)]?.getD 0) (t[(11 : Nat)]?.getD 0) (t[(12 : Nat)]?.getD 0) := tabV_X ht
  rw [hV]
  clear hV
  have hbox := hid (fun w T => TabIn.boxT ht w T)
  by_cases h1 : n < 0
  · clear hl hw hc hmx ht hwt
    go_enter Try.func11, Try.ntmps11
    go_wp2_with fail
    with_reducible refine (CW.out _).mono ?_
    rintro e w1 ⟨rfl, hb⟩
    go_wp2_with fail
    go_ret
    exact ⟨rfl, btrans (a := w) (by ((with_reducible (repeat (first | assumption | exact Below.refl _ _ | refine bset ?_ (Nat.le_refl _) _ | refine balloc ?_ _ | refine bdrew ?_ | refine bdrewN ?_ _))); done)) hb⟩
  by_cases h2 : 4 ≤ n
  · clear hl hw hc hmx ht hwt
    go_enter Try.func11, Try.ntmps11
    go_wp2_with fail
    with_reducible refine (CW.out _).mono ?_
    rintro e w1 ⟨rfl, hb⟩
    go_wp2_with fail
    go_ret
    exact ⟨rfl, btrans (a := w) (by ((with_reducible (repeat (first | assumption | exact Below.refl _ _ | refine bset ?_ (Nat.le_refl _) _ | refine balloc ?_ _ | refine bdrew ?_ | refine bdrewN ?_ _))); done)) hb⟩
  obtain ⟨m, rfl⟩ : ∃ m : Nat, n = m := ⟨n.toNat, by omega⟩
  have hm4 : m < 4 := by omega
  have hm0 : (0 : Int) ≤ (m : Int) := by omega
  have hm4i : (m : Int) < 4 := by omega
  have h1c : decide ((m : Int) < 0) = false := decide_eq_false h1
  have h2c : decide (4 ≤ (m : Int)) = false := decide_eq_false h2
  have C0 := hid (fun (w : World) (h : BlksIn w A l) => great_any A l c w h hw (by omega))
  cases hg : greatB l
  case true =>
    rw [hg] at C0
    clear hl hw hc hmx h1 h2 ht hwt hg
    go_enter Try.func11, Try.ntmps11
    go_wp2_with fail
    with_reducible refine (C0.out _ (BlksIn.keep (w := w) HL.out ?_)).mono ?_
    · ((with_reducible (repeat (first | assumption | exact Below.refl _ _ | refine bset ?_ (Nat.le_refl _) _ | refine balloc ?_ _ | refine bdrew ?_ | refine bdrewN ?_ _))); done)
    rintro e w1 ⟨rfl, hb⟩
    go_wp2_with fail
    with_reducible refine (CW.out _).mono ?_
    rintro e w2 ⟨rfl, hb2⟩
    go_wp2_with fail
    go_ret
    exact ⟨rfl, btrans (btrans (a := w) (by ((with_reducible (repeat (first | assumption | exact Below.refl _ _ | refine bset ?_ (Nat.le_refl _) _ | refine balloc ?_ _ | refine bdrew ?_ | refine bdrewN ?_ _))); done)) hb) hb2⟩
  rw [hg] at C0
  clear hg
  have C1 : Hid (∀ (w : World) (t : List Int), t.length = 13 → BlksIn w A l → Calls Try.prog 36 #[.agg #[.slice A l.length c], tabX (t[(0 : Nat)]?.getD 0) (t[(1 : Nat)]?.getD 0) (t[(2 : Nat)]?.getD 0) (t[(3 : Nat)]?.getD 0) (t[(4 : Nat)]?.getD 0) (t[(5 : Nat)]?.getD 0) (t[(6 : Nat)]?.getD 0) (t[(7 : Nat)]?.getD 0) (t[(8 : Nat)]?.getD 0) (t[(9 : Nat)]?.getD 0) (t[(10 : Nat)]?.getD 0) (t[(11 : Nat)]?.getD 0) (t[(12 : Nat)]?.getD 0)] w fun e w' => e = .returned (.int .i64 (needE l t)) ∧ Below w.heap.size w w') := hid fun w t ht h => by
    have := needs_any A l c t w h hw (by omega) ht
    rw [tabV_X ht] at this
    exact this
  have HT := hid ht
  have HW := hid hw
  have hlc : (l.length : Int) ≤ 1954687340000 := by omega
  clear hl hw hc hmx h1 h2 ht
  have hwt2 : -9223372036854775808 ≤ t[m]?.getD 0 ∧ t[m]?.getD 0 ≤ 9223372036854775807 := by
    have hlt : m < t.length := by have := HT.out; omega
    have h := hwt t[m] (List.getElem_mem hlt)
    rw [List.getElem?_eq_getElem hlt]
    exact h
  obtain ⟨hx0, hx1⟩ := hwt2
  clear hwt
  go_enter Try.func11, Try.ntmps11
  go_wp2_with fail
  with_reducible refine (C0.out _ (BlksIn.keep (w := w) HL.out ?_)).mono ?_
  · ((with_reducible (repeat (first | assumption | exact Below.refl _ _ | refine bset ?_ (Nat.le_refl _) _ | refine balloc ?_ _ | refine bdrew ?_ | refine bdrewN ?_ _))); done)
  rintro e w1 ⟨rfl, hb⟩
  have B1 := hid (btrans (a := w) (by ((with_reducible (repeat (first | assumption | exact Below.refl _ _ | refine bset ?_ (Nat.le_refl _) _ | refine balloc ?_ _ | refine bdrew ?_ | refine bdrewN ?_ _))); done)) hb)
  have L1 : Hid (BlksIn w1 A l) := hid (HL.out.keep B1.out)
  have kA : w1.cell? ⟨w.heap.size, 0, none⟩ = some (.slice A l.length c) := cell_keep (by simp) hb
  have TT : Hid (TabIn w1 (w.heap.size + 1) t) := hid (by have := hbox.out (w.alloc (.cells #[.slice A l.length c] 61)) 28; rw [hsz] at this; exact this.keep hb)
  clear hb
  have hH1 : w.heap.size + 1 < w1.heap.size := World.block_lt_of_cell? w1 _ (TT.out 0 (by omega))
  have k0 := TT.out 0 (by omega)
  have k1 := TT.out 1 (by omega)
  have k2 := TT.out 2 (by omega)
  have k3 := TT.out 3 (by omega)
  have k4 := TT.out 4 (by omega)
  have k5 := TT.out 5 (by omega)
  have k6 := TT.out 6 (by omega)
  have k7 := TT.out 7 (by omega)
  have k8 := TT.out 8 (by omega)
  have k9 := TT.out 9 (by omega)
  have k10 := TT.out 10 (by omega)
  have k11 := TT.out 11 (by omega)
  have k12 := TT.out 12 (by omega)
  go_upto_region 4 with (fail)
  obtain ⟨W, hW⟩ : ∃ W : World, W = w1.alloc (.cells #[.int .i64 (t[(0 : Nat)]?.getD 0), .int .i64 (t[(1 : Nat)]?.getD 0), .int .i64 (t[(2 : Nat)]?.getD 0), .int .i64 (t[(3 : Nat)]?.getD 0), .int .i64 (t[(4 : Nat)]?.getD 0), .int .i64 (t[(5 : Nat)]?.getD 0), .int .i64 (t[(6 : Nat)]?.getD 0), .int .i64 (t[(7 : Nat)]?.getD 0), .int .i64 (t[(8 : Nat)]?.getD 0), .int .i64 (t[(9 : Nat)]?.getD 0), .int .i64 (t[(10 : Nat)]?.getD 0), .int .i64 (t[(11 : Nat)]?.getD 0), .int .i64 (t[(12 : Nat)]?.getD 0)] 28) := ⟨_, rfl⟩
  rw [← hW]
  have hb : Below w1.heap.size w1 W := by subst hW; ((with_reducible (repeat (first | assumption | exact Below.refl _ _ | refine bset ?_ (Nat.le_refl _) _ | refine balloc ?_ _ | refine bdrew ?_ | refine bdrewN ?_ _))); done)
  replace kA := cell_keep kA hb
  replace TT := hid (TT.out.keep hb)
  have TM : Hid (TabIn W w1.heap.size t) := hid (by subst hW; exact hbox.out _ _)
  replace B1 := hid (btrans B1.out hb)
  replace L1 := hid (L1.out.keep hb)
  have kM := TM.out m (by omega)
  have zM : W.frozen? ⟨w1.heap.size, m, none⟩ = false := by subst hW; go_simp
  clear hb hW k0 k1 k2 k3 k4 k5 k6 k7 k8 k9 k10 k11 k12
  have hz : w.heap.size + 1 < W.heap.size := World.block_lt_of_cell? W _ (TT.out 0 (by omega))
  have hz1 : w1.heap.size < W.heap.size := World.block_lt_of_cell? W _ kM
  have k0 := TT.out 0 (by omega)
  have k1 := TT.out 1 (by omega)
  have k2 := TT.out 2 (by omega)
  have k3 := TT.out 3 (by omega)
  have k4 := TT.out 4 (by omega)
  have k5 := TT.out 5 (by omega)
  have k6 := TT.out 6 (by omega)
  have k7 := TT.out 7 (by omega)
  have k8 := TT.out 8 (by omega)
  have k9 := TT.out 9 (by omega)
  have k10 := TT.out 10 (by omega)
  have k11 := TT.out 11 (by omega)
  have k12 := TT.out 12 (by omega)
  by_cases hN : needE l t = 0
  case neg =>
    have hNb : (needE l t == 0) = false := by simpa using hN
    go_wp2_with fail
    obtain ⟨V, hV⟩ : ∃ V : World, V = W.setCell ⟨w1.heap.size, m, none⟩ (.int .i64 (wrap64 (t[m]?.getD 0 + 1))) := ⟨_, rfl⟩
    rw [← hV]
    have TM2 : Hid (TabIn V w1.heap.size (setU t m (wrap64 (t[m]?.getD 0 + 1)))) := hid (by subst hV; exact TM.out.set HT.out m hm4 _)
    have T2 : Hid (TabIn V (w.heap.size + 1) t) := hid (fun j hj => by subst hV; exact set_other' (TT.out j hj) (by show w1.heap.size ≠ w.heap.size + 1; omega))
    have kA2 : V.cell? ⟨w.heap.size, 0, none⟩ = some (.slice A l.length c) := by subst hV; exact set_other' kA (by show w1.heap.size ≠ w.heap.size; omega)
    have B2 : Hid (Below w.heap.size w V) := hid (by subst hV; exact B1.out.setCell (by show w.heap.size ≤ w1.heap.size; omega) _)
    have L2 : Hid (BlksIn V A l) := hid (HL.out.keep B2.out)
    clear hV kA TT B1 L1 kM zM TM hz hz1 k0 k1 k2 k3 k4 k5 k6 k7 k8 k9 k10 k11 k12
    with_reducible refine (C1.out _ t HT.out L2.out).mono ?_
    rintro e v1 ⟨rfl, hb⟩
    replace kA2 := cell_keep kA2 hb
    replace T2 := hid (T2.out.keep hb)
    replace TM2 := hid (TM2.out.keep hb)
    replace B2 := hid (btrans B2.out hb)
    replace L2 := hid (L2.out.keep hb)
    clear hb
    obtain ⟨VV, rfl⟩ : ∃ VV : World, VV = v1 := ⟨_, rfl⟩
    have kA := kA2
    have TT := T2
    have BB := B2
    clear kA2 T2 B2 L2 TM2
    have hH2 : w.heap.size + 1 < VV.heap.size := World.block_lt_of_cell? VV _ (TT.out 0 (by omega))
    have k0 := TT.out 0 (by omega)
    have k1 := TT.out 1 (by omega)
    have k2 := TT.out 2 (by omega)
    have k3 := TT.out 3 (by omega)
    have k4 := TT.out 4 (by omega)
    have k5 := TT.out 5 (by omega)
    have k6 := TT.out 6 (by omega)
    have k7 := TT.out 7 (by omega)
    have k8 := TT.out 8 (by omega)
    have k9 := TT.out 9 (by omega)
    have k10 := TT.out 10 (by omega)
    have k11 := TT.out 11 (by omega)
    have k12 := TT.out 12 (by omega)
    go_upto_region 8 with (fail)
    obtain ⟨V2, hV2⟩ : ∃ V2 : World, V2 = VV.alloc (.cells #[.int .i64 (t[(0 : Nat)]?.getD 0), .int .i64 (t[(1 : Nat)]?.getD 0), .int .i64 (t[(2 : Nat)]?.getD 0), .int .i64 (t[(3 : Nat)]?.getD 0), .int .i64 (t[(4 : Nat)]?.getD 0), .int .i64 (t[(5 : Nat)]?.getD 0), .int .i64 (t[(6 : Nat)]?.getD 0), .int .i64 (t[(7 : Nat)]?.getD 0), .int .i64 (t[(8 : Nat)]?.getD 0), .int .i64 (t[(9 : Nat)]?.getD 0), .int .i64 (t[(10 : Nat)]?.getD 0), .int .i64 (t[(11 : Nat)]?.getD 0), .int .i64 (t[(12 : Nat)]?.getD 0)] 28) := ⟨_, rfl⟩
    rw [← hV2]
    have hb : Below VV.heap.size VV V2 := by subst hV2; ((with_reducible (repeat (first | assumption | exact Below.refl _ _ | refine bset ?_ (Nat.le_refl _) _ | refine balloc ?_ _ | refine bdrew ?_ | refine bdrewN ?_ _))); done)
    have kA2 := cell_keep kA hb
    have T2 := hid (TT.out.keep hb)
    have TN : Hid (TabIn V2 VV.heap.size t) := hid (by subst hV2; exact hbox.out _ _)
    have B2 := hid (btrans BB.out hb)
    have kM := TN.out m (by omega)
    have zM : V2.frozen? ⟨VV.heap.size, m, none⟩ = false := by subst hV2; go_simp
    have hzA : w.heap.size + 1 < V2.heap.size := World.block_lt_of_cell? V2 _ (T2.out 0 (by omega))
    have hVV : VV.heap.size < V2.heap.size := World.block_lt_of_cell? V2 _ kM
    have hHV : w.heap.size + 1 < VV.heap.size := World.block_lt_of_cell? VV _ (TT.out 0 (by omega))
    have HBV : Hid (w.heap.size ≤ VV.heap.size) := hid (by omega)
    clear hb hV2 k0 k1 k2 k3 k4 k5 k6 k7 k8 k9 k10 k11 k12
    go_wp2_with fail
    obtain ⟨V3, hV3⟩ : ∃ V3 : World, V3 = V2.setCell ⟨VV.heap.size, m, none⟩ (.int .i64 0) := ⟨_, rfl⟩
    rw [← hV3]
    have TN3 : Hid (TabIn V3 VV.heap.size (setU t m 0)) := hid (by subst hV3; exact TN.out.set HT.out m hm4 0)
    have T3 : Hid (TabIn V3 (w.heap.size + 1) t) := hid (fun j hj => by subst hV3; exact set_other' (T2.out j hj) (by show VV.heap.size ≠ w.heap.size + 1; omega))
    have kA3 : V3.cell? ⟨w.heap.size, 0, none⟩ = some (.slice A l.length c) := by subst hV3; exact set_other' kA2 (by show VV.heap.size ≠ w.heap.size; omega)
    have B3 : Hid (Below w.heap.size w V3) := hid (by subst hV3; exact B2.out.setCell HBV.out _)
    clear hV3 kM zM kA2 hzA TN T2 B2
    go_loopg [9, 10] l.length (fun g v9 v wr => ∃ i : Nat, i ≤ l.length ∧ v = .int .i64 i ∧ v9 = .bool (((m : Int) == 3) || (l.take i).any (fun b => hasC b.ops m || hasC b.body m)) ∧ Hid (g + i = l.length) ∧ wr.cell? ⟨w.heap.size, 0, none⟩ = some (.slice A l.length c) ∧ Hid (TabIn wr (w.heap.size + 1) t) ∧ Hid (TabIn wr VV.heap.size (setU t m 0)) ∧ Below w.heap.size w wr)
    case atStart => exact ⟨0, by omega, rfl, by simp, by exact Nat.add_zero _, kA3, T3, TN3, B3.out⟩
    case round =>
      obtain ⟨i, hi, rfl, rfl, hg, hcA, htr, htn, hbw⟩ := hrel
      have hgw : w.heap.size < wr.heap.size := World.block_lt_of_cell? wr _ hcA
      by_cases hlt : i < l.length
      · obtain ⟨g, off, rfl, hop⟩ := (BlksIn.keep HL.out hbw).get i hlt
        obtain ⟨B, c1, B2, c2, k0, k1, k2, k3, k4, k5, o1, o2, _, _⟩ := hop
        have U1 := hid (fun (h : l[i].ops.length ≤ 1000000000000000000) => uses_any B l[i].ops c1 m wr o1 h)
        have U2 := hid (fun (h : l[i].body.length ≤ 1000000000000000000) => uses_any B2 l[i].body c2 m wr o2 h)
        clear o1 o2
        have m0 := (HW.out l[i] (List.getElem_mem hlt)).m0
        have m1 := (HW.out l[i] (List.getElem_mem hlt)).m1
        have V1 := hid (U1.out (by omega))
        have V2 := hid (U2.out (by omega))
        clear U1 U2
        have hgs : g < wr.heap.size := World.block_lt_of_cell? wr _ k0
        have hb0 := hid hbw
        clear hbw
        have hij : (i : Int) < (l.length : Int) := by omega
        have hi0 : (0 : Int) ≤ (i : Int) := by omega
        have hst := any_snoc2 (f := fun b => hasC b.ops m || hasC b.body m) hlt
        cases h0 : (((m : Int) == 3) || (l.take i).any (fun b => hasC b.ops m || hasC b.body m))
        · cases h1 : hasC l[i].ops m
          · cases h2 : hasC l[i].body m
            · have hst2 : Hid ((((m : Int) == 3) || (l.take (i + 1)).any (fun b => hasC b.ops m || hasC b.body m)) = false) := hid (by rw [hst, ← Bool.or_assoc, h0, h1, h2]; rfl)
              rw [h1] at V1
              rw [h2] at V2
              clear hst h0 h1 h2
              go_wp2_with fail
              with_reducible refine V1.out.mono ?_
              rintro e w' ⟨rfl, rfl⟩
              go_wp2_with fail
              with_reducible refine V2.out.mono ?_
              rintro e w' ⟨rfl, rfl⟩
              go_wp2
              go_roundg (l.length - (i + 1))
              case measure => have := hg.out; omega
              case rel => exact ⟨i + 1, by omega, by go_num, by rw [hst2.out], by show _ + _ = _; omega, hcA, htr, htn, hb0.out⟩
            · have hst2 : Hid ((((m : Int) == 3) || (l.take (i + 1)).any (fun b => hasC b.ops m || hasC b.body m)) = true) := hid (by rw [hst, ← Bool.or_assoc, h0, h1, h2]; rfl)
              rw [h1] at V1
              rw [h2] at V2
              clear hst h0 h1 h2
              go_wp2_with fail
              with_reducible refine V1.out.mono ?_
              rintro e w' ⟨rfl, rfl⟩
              go_wp2_with fail
              with_reducible refine V2.out.mono ?_
              rintro e w' ⟨rfl, rfl⟩
              go_wp2
              go_roundg (l.length - (i + 1))
              case measure => have := hg.out; omega
              case rel => exact ⟨i + 1, by omega, by go_num, by rw [hst2.out], by show _ + _ = _; omega, hcA, htr, htn, hb0.out⟩
          · have hst2 : Hid ((((m : Int) == 3) || (l.take (i + 1)).any (fun b => hasC b.ops m || hasC b.body m)) = true) := hid (by rw [hst, ← Bool.or_assoc, h0, h1]; rfl)
            rw [h1] at V1
            clear hst h0 h1
            go_wp2_with fail
            with_reducible refine V1.out.mono ?_
            rintro e w' ⟨rfl, rfl⟩
            go_wp2
            go_roundg (l.length - (i + 1))
            case measure => have := hg.out; omega
            case rel => exact ⟨i + 1, by omega, by go_num, by rw [hst2.out], by show _ + _ = _; omega, hcA, htr, htn, hb0.out⟩
        · have hst2 : Hid ((((m : Int) == 3) || (l.take (i + 1)).any (fun b => hasC b.ops m || hasC b.body m)) = true) := hid (by rw [hst, ← Bool.or_assoc, h0]; rfl)
          clear hst h0
          go_wp2
          go_roundg (l.length - (i + 1))
          case measure => have := hg.out; omega
          case rel => exact ⟨i + 1, by omega, by go_num, by rw [hst2.out], by show _ + _ = _; omega, hcA, htr, htn, hb0.out⟩
      · obtain rfl : i = l.length := by omega
        have hb0 := hid hbw
        have L0 := hid (BlksIn.keep HL.out hbw)
        clear hbw
        rw [List.take_length]
        have hgw1 : w.heap.size + 1 < wr.heap.size := World.block_lt_of_cell? wr _ (htr.out 0 (by omega))
        have hgwN : VV.heap.size < wr.heap.size := World.block_lt_of_cell? wr _ (htn.out 0 (by omega))
        have k0 := htr.out 0 (by omega)
        have k1 := htr.out 1 (by omega)
        have k2 := htr.out 2 (by omega)
        have k3 := htr.out 3 (by omega)
        have k4 := htr.out 4 (by omega)
        have k5 := htr.out 5 (by omega)
        have k6 := htr.out 6 (by omega)
        have k7 := htr.out 7 (by omega)
        have k8 := htr.out 8 (by omega)
        have k9 := htr.out 9 (by omega)
        have k10 := htr.out 10 (by omega)
        have k11 := htr.out 11 (by omega)
        have k12 := htr.out 12 (by omega)
        go_wp2_with fail
        with_reducible refine (C1.out _ t HT.out L0.out).mono ?_
        rintro e w3 ⟨rfl, hb⟩
        have B5 := hid (btrans hb0.out hb)
        have L5 := hid (L0.out.keep hb)
        have kA5 := cell_keep hcA hb
        have TN5 := hid (htn.out.keep hb)
        clear hb k0 k1 k2 k3 k4 k5 k6 k7 k8 k9 k10 k11 k12
        have k0 := TN5.out 0 (by omega)
        have k1 := TN5.out 1 (by omega)
        have k2 := TN5.out 2 (by omega)
        have k3 := TN5.out 3 (by omega)
        have k4 := TN5.out 4 (by omega)
        have k5 := TN5.out 5 (by omega)
        have k6 := TN5.out 6 (by omega)
        have k7 := TN5.out 7 (by omega)
        have k8 := TN5.out 8 (by omega)
        have k9 := TN5.out 9 (by omega)
        have k10 := TN5.out 10 (by omega)
        have k11 := TN5.out 11 (by omega)
        have k12 := TN5.out 12 (by omega)
        go_wp2_with fail
        with_reducible refine (C1.out _ (setU t m 0) (by rw [setU, List.length_set]; exact HT.out) L5.out).mono ?_
        rintro e w4 ⟨rfl, hb⟩
        have B6 := hid (btrans B5.out hb)
        clear hb k0 k1 k2 k3 k4 k5 k6 k7 k8 k9 k10 k11 k12
        go_wp2_with fail
        with_reducible refine (CW.out _).mono ?_
        rintro e w5 ⟨rfl, hb⟩
        go_wp2_with fail
        go_ret
        exact ⟨rfl, btrans B6.out hb⟩
  have hub := units_bd (tabE_iff.1 (needE_zero hN).2.1) m hm4
  obtain ⟨hub0, hub1⟩ := hub
  go_wp2_with fail
  obtain ⟨V, hV⟩ : ∃ V : World, V = W.setCell ⟨w1.heap.size, m, none⟩ (.int .i64 (t[m]?.getD 0 + 1)) := ⟨_, rfl⟩
  rw [← hV]
  have TM2 : Hid (TabIn V w1.heap.size (setU t m (t[m]?.getD 0 + 1))) := hid (by subst hV; exact TM.out.set HT.out m hm4 _)
  have T2 : Hid (TabIn V (w.heap.size + 1) t) := hid (fun j hj => by subst hV; exact set_other' (TT.out j hj) (by show w1.heap.size ≠ w.heap.size + 1; omega))
  have kA2 : V.cell? ⟨w.heap.size, 0, none⟩ = some (.slice A l.length c) := by subst hV; exact set_other' kA (by show w1.heap.size ≠ w.heap.size; omega)
  have B2 : Hid (Below w.heap.size w V) := hid (by subst hV; exact B1.out.setCell (by show w.heap.size ≤ w1.heap.size; omega) _)
  have L2 : Hid (BlksIn V A l) := hid (HL.out.keep B2.out)
  clear hV kA TT B1 L1 kM zM TM hz hz1 k0 k1 k2 k3 k4 k5 k6 k7 k8 k9 k10 k11 k12
  with_reducible refine (C1.out _ t HT.out L2.out).mono ?_
  rintro e v1 ⟨rfl, hb⟩
  replace kA2 := cell_keep kA2 hb
  replace T2 := hid (T2.out.keep hb)
  replace TM2 := hid (TM2.out.keep hb)
  replace B2 := hid (btrans B2.out hb)
  replace L2 := hid (L2.out.keep hb)
  clear hb
  by_cases h8 : t[m]?.getD 0 < 8
  · have hmore := need_more HT.out m hm4 (t[m]?.getD 0 + 1) hN (by omega) (by omega)
    have kU := T2.out m (by omega)
    have hv1 : w.heap.size + 1 < v1.heap.size := World.block_lt_of_cell? v1 _ (T2.out 0 (by omega))
    have hv2 : w1.heap.size < v1.heap.size := World.block_lt_of_cell? v1 _ (TM2.out 0 (by omega))
    have k0 := TM2.out 0 (by omega)
    have k1 := TM2.out 1 (by omega)
    have k2 := TM2.out 2 (by omega)
    have k3 := TM2.out 3 (by omega)
    have k4 := TM2.out 4 (by omega)
    have k5 := TM2.out 5 (by omega)
    have k6 := TM2.out 6 (by omega)
    have k7 := TM2.out 7 (by omega)
    have k8 := TM2.out 8 (by omega)
    have k9 := TM2.out 9 (by omega)
    have k10 := TM2.out 10 (by omega)
    have k11 := TM2.out 11 (by omega)
    have k12 := TM2.out 12 (by omega)
    go_wp2_with fail
    with_reducible refine (C1.out _ (setU t m (t[m]?.getD 0 + 1)) (by rw [setU, List.length_set]; exact HT.out) L2.out).mono ?_
    rintro e v2 ⟨rfl, hb⟩
    replace kA2 := cell_keep kA2 hb
    replace T2 := hid (T2.out.keep hb)
    replace B2 := hid (btrans B2.out hb)
    clear hb kU hv1 hv2 k0 k1 k2 k3 k4 k5 k6 k7 k8 k9 k10 k11 k12
    obtain ⟨VV, rfl⟩ : ∃ VV : World, VV = v2 := ⟨_, rfl⟩
    have kA := kA2
    have TT := T2
    have BB := B2
    clear kA2 T2 B2 L2 TM2
    have hH2 : w.heap.size + 1 < VV.heap.size := World.block_lt_of_cell? VV _ (TT.out 0 (by omega))
    have k0 := TT.out 0 (by omega)
    have k1 := TT.out 1 (by omega)
    have k2 := TT.out 2 (by omega)
    have k3 := TT.out 3 (by omega)
    have k4 := TT.out 4 (by omega)
    have k5 := TT.out 5 (by omega)
    have k6 := TT.out 6 (by omega)
    have k7 := TT.out 7 (by omega)
    have k8 := TT.out 8 (by omega)
    have k9 := TT.out 9 (by omega)
    have k10 := TT.out 10 (by omega)
    have k11 := TT.out 11 (by omega)
    have k12 := TT.out 12 (by omega)
    go_upto_region 8 with (fail)
    obtain ⟨V2, hV2⟩ : ∃ V2 : World, V2 = VV.alloc (.cells #[.int .i64 (t[(0 : Nat)]?.getD 0), .int .i64 (t[(1 : Nat)]?.getD 0), .int .i64 (t[(2 : Nat)]?.getD 0), .int .i64 (t[(3 : Nat)]?.getD 0), .int .i64 (t[(4 : Nat)]?.getD 0), .int .i64 (t[(5 : Nat)]?.getD 0), .int .i64 (t[(6 : Nat)]?.getD 0), .int .i64 (t[(7 : Nat)]?.getD 0), .int .i64 (t[(8 : Nat)]?.getD 0), .int .i64 (t[(9 : Nat)]?.getD 0), .int .i64 (t[(10 : Nat)]?.getD 0), .int .i64 (t[(11 : Nat)]?.getD 0), .int .i64 (t[(12 : Nat)]?.getD 0)] 28) := ⟨_, rfl⟩
    rw [← hV2]
    have hb : Below VV.heap.size VV V2 := by subst hV2; ((with_reducible (repeat (first | assumption | exact Below.refl _ _ | refine bset ?_ (Nat.le_refl _) _ | refine balloc ?_ _ | refine bdrew ?_ | refine bdrewN ?_ _))); done)
    have kA2 := cell_keep kA hb
    have T2 := hid (TT.out.keep hb)
    have TN : Hid (TabIn V2 VV.heap.size t) := hid (by subst hV2; exact hbox.out _ _)
    have B2 := hid (btrans BB.out hb)
    have kM := TN.out m (by omega)
    have zM : V2.frozen? ⟨VV.heap.size, m, none⟩ = false := by subst hV2; go_simp
    have hzA : w.heap.size + 1 < V2.heap.size := World.block_lt_of_cell? V2 _ (T2.out 0 (by omega))
    have hVV : VV.heap.size < V2.heap.size := World.block_lt_of_cell? V2 _ kM
    have hHV : w.heap.size + 1 < VV.heap.size := World.block_lt_of_cell? VV _ (TT.out 0 (by omega))
    have HBV : Hid (w.heap.size ≤ VV.heap.size) := hid (by omega)
    clear hb hV2 k0 k1 k2 k3 k4 k5 k6 k7 k8 k9 k10 k11 k12
    go_wp2_with fail
    obtain ⟨V3, hV3⟩ : ∃ V3 : World, V3 = V2.setCell ⟨VV.heap.size, m, none⟩ (.int .i64 0) := ⟨_, rfl⟩
    rw [← hV3]
    have TN3 : Hid (TabIn V3 VV.heap.size (setU t m 0)) := hid (by subst hV3; exact TN.out.set HT.out m hm4 0)
    have T3 : Hid (TabIn V3 (w.heap.size + 1) t) := hid (fun j hj => by subst hV3; exact set_other' (T2.out j hj) (by show VV.heap.size ≠ w.heap.size + 1; omega))
    have kA3 : V3.cell? ⟨w.heap.size, 0, none⟩ = some (.slice A l.length c) := by subst hV3; exact set_other' kA2 (by show VV.heap.size ≠ w.heap.size; omega)
    have B3 : Hid (Below w.heap.size w V3) := hid (by subst hV3; exact B2.out.setCell HBV.out _)
    clear hV3 kM zM kA2 hzA TN T2 B2
    go_loopg [9, 10] l.length (fun g v9 v wr => ∃ i : Nat, i ≤ l.length ∧ v = .int .i64 i ∧ v9 = .bool (((m : Int) == 3) || (l.take i).any (fun b => hasC b.ops m || hasC b.body m)) ∧ Hid (g + i = l.length) ∧ wr.cell? ⟨w.heap.size, 0, none⟩ = some (.slice A l.length c) ∧ Hid (TabIn wr (w.heap.size + 1) t) ∧ Hid (TabIn wr VV.heap.size (setU t m 0)) ∧ Below w.heap.size w wr)
    case atStart => exact ⟨0, by omega, rfl, by simp, by exact Nat.add_zero _, kA3, T3, TN3, B3.out⟩
    case round =>
      obtain ⟨i, hi, rfl, rfl, hg, hcA, htr, htn, hbw⟩ := hrel
      have hgw : w.heap.size < wr.heap.size := World.block_lt_of_cell? wr _ hcA
      by_cases hlt : i < l.length
      · obtain ⟨g, off, rfl, hop⟩ := (BlksIn.keep HL.out hbw).get i hlt
        obtain ⟨B, c1, B2, c2, k0, k1, k2, k3, k4, k5, o1, o2, _, _⟩ := hop
        have U1 := hid (fun (h : l[i].ops.length ≤ 1000000000000000000) => uses_any B l[i].ops c1 m wr o1 h)
        have U2 := hid (fun (h : l[i].body.length ≤ 1000000000000000000) => uses_any B2 l[i].body c2 m wr o2 h)
        clear o1 o2
        have m0 := (HW.out l[i] (List.getElem_mem hlt)).m0
        have m1 := (HW.out l[i] (List.getElem_mem hlt)).m1
        have V1 := hid (U1.out (by omega))
        have V2 := hid (U2.out (by omega))
        clear U1 U2
        have hgs : g < wr.heap.size := World.block_lt_of_cell? wr _ k0
        have hb0 := hid hbw
        clear hbw
        have hij : (i : Int) < (l.length : Int) := by omega
        have hi0 : (0 : Int) ≤ (i : Int) := by omega
        have hst := any_snoc2 (f := fun b => hasC b.ops m || hasC b.body m) hlt
        cases h0 : (((m : Int) == 3) || (l.take i).any (fun b => hasC b.ops m || hasC b.body m))
        · cases h1 : hasC l[i].ops m
          · cases h2 : hasC l[i].body m
            · have hst2 : Hid ((((m : Int) == 3) || (l.take (i + 1)).any (fun b => hasC b.ops m || hasC b.body m)) = false) := hid (by rw [hst, ← Bool.or_assoc, h0, h1, h2]; rfl)
              rw [h1] at V1
              rw [h2] at V2
              clear hst h0 h1 h2
              go_wp2_with fail
              with_reducible refine V1.out.mono ?_
              rintro e w' ⟨rfl, rfl⟩
              go_wp2_with fail
              with_reducible refine V2.out.mono ?_
              rintro e w' ⟨rfl, rfl⟩
              go_wp2
              go_roundg (l.length - (i + 1))
              case measure => have := hg.out; omega
              case rel => exact ⟨i + 1, by omega, by go_num, by rw [hst2.out], by show _ + _ = _; omega, hcA, htr, htn, hb0.out⟩
            · have hst2 : Hid ((((m : Int) == 3) || (l.take (i + 1)).any (fun b => hasC b.ops m || hasC b.body m)) = true) := hid (by rw [hst, ← Bool.or_assoc, h0, h1, h2]; rfl)
              rw [h1] at V1
              rw [h2] at V2
              clear hst h0 h1 h2
              go_wp2_with fail
              with_reducible refine V1.out.mono ?_
              rintro e w' ⟨rfl, rfl⟩
              go_wp2_with fail
              with_reducible refine V2.out.mono ?_
              rintro e w' ⟨rfl, rfl⟩
              go_wp2
              go_roundg (l.length - (i + 1))
              case measure => have := hg.out; omega
              case rel => exact ⟨i + 1, by omega, by go_num, by rw [hst2.out], by show _ + _ = _; omega, hcA, htr, htn, hb0.out⟩
          · have hst2 : Hid ((((m : Int) == 3) || (l.take (i + 1)).any (fun b => hasC b.ops m || hasC b.body m)) = true) := hid (by rw [hst, ← Bool.or_assoc, h0, h1]; rfl)
            rw [h1] at V1
            clear hst h0 h1
            go_wp2_with fail
            with_reducible refine V1.out.mono ?_
            rintro e w' ⟨rfl, rfl⟩
            go_wp2
            go_roundg (l.length - (i + 1))
            case measure => have := hg.out; omega
            case rel => exact ⟨i + 1, by omega, by go_num, by rw [hst2.out], by show _ + _ = _; omega, hcA, htr, htn, hb0.out⟩
        · have hst2 : Hid ((((m : Int) == 3) || (l.take (i + 1)).any (fun b => hasC b.ops m || hasC b.body m)) = true) := hid (by rw [hst, ← Bool.or_assoc, h0]; rfl)
          clear hst h0
          go_wp2
          go_roundg (l.length - (i + 1))
          case measure => have := hg.out; omega
          case rel => exact ⟨i + 1, by omega, by go_num, by rw [hst2.out], by show _ + _ = _; omega, hcA, htr, htn, hb0.out⟩
      · obtain rfl : i = l.length := by omega
        have hb0 := hid hbw
        have L0 := hid (BlksIn.keep HL.out hbw)
        clear hbw
        rw [List.take_length]
        have hnn := need_none HT.out m hm4 hN
        unfold hasP at hnn
        cases hU : (((m : Int) == 3) || l.any (fun b => hasC b.ops m || hasC b.body m))
        all_goals
          rw [hU] at hnn
          simp only [if_true, Bool.false_eq_true, if_false] at hnn
          have hgw1 : w.heap.size + 1 < wr.heap.size := World.block_lt_of_cell? wr _ (htr.out 0 (by omega))
          have hgwN : VV.heap.size < wr.heap.size := World.block_lt_of_cell? wr _ (htn.out 0 (by omega))
          have k0 := htr.out 0 (by omega)
          have k1 := htr.out 1 (by omega)
          have k2 := htr.out 2 (by omega)
          have k3 := htr.out 3 (by omega)
          have k4 := htr.out 4 (by omega)
          have k5 := htr.out 5 (by omega)
          have k6 := htr.out 6 (by omega)
          have k7 := htr.out 7 (by omega)
          have k8 := htr.out 8 (by omega)
          have k9 := htr.out 9 (by omega)
          have k10 := htr.out 10 (by omega)
          have k11 := htr.out 11 (by omega)
          have k12 := htr.out 12 (by omega)
          go_wp2_with fail
          with_reducible refine (C1.out _ t HT.out L0.out).mono ?_
          rintro e w3 ⟨rfl, hb⟩
          have B5 := hid (btrans hb0.out hb)
          have L5 := hid (L0.out.keep hb)
          have kA5 := cell_keep hcA hb
          have TN5 := hid (htn.out.keep hb)
          clear hb k0 k1 k2 k3 k4 k5 k6 k7 k8 k9 k10 k11 k12
          have k0 := TN5.out 0 (by omega)
          have k1 := TN5.out 1 (by omega)
          have k2 := TN5.out 2 (by omega)
          have k3 := TN5.out 3 (by omega)
          have k4 := TN5.out 4 (by omega)
          have k5 := TN5.out 5 (by omega)
          have k6 := TN5.out 6 (by omega)
          have k7 := TN5.out 7 (by omega)
          have k8 := TN5.out 8 (by omega)
          have k9 := TN5.out 9 (by omega)
          have k10 := TN5.out 10 (by omega)
          have k11 := TN5.out 11 (by omega)
          have k12 := TN5.out 12 (by omega)
          go_wp2_with fail
          with_reducible refine (C1.out _ (setU t m 0) (by rw [setU, List.length_set]; exact HT.out) L5.out).mono ?_
          rintro e w4 ⟨rfl, hb⟩
          have B6 := hid (btrans B5.out hb)
          clear hb k0 k1 k2 k3 k4 k5 k6 k7 k8 k9 k10 k11 k12
          go_wp2_with fail
          with_reducible refine (CW.out _).mono ?_
          rintro e w5 ⟨rfl, hb⟩
          go_wp2_with fail
          go_ret
          exact ⟨rfl, btrans B6.out hb⟩
  · have kU := T2.out m (by omega)
    have hv1 : w.heap.size + 1 < v1.heap.size := World.block_lt_of_cell? v1 _ (T2.out 0 (by omega))
    obtain ⟨VV, rfl⟩ : ∃ VV : World, VV = v1 := ⟨_, rfl⟩
    have kA := kA2
    have TT := T2
    have BB := B2
    clear kA2 T2 B2 L2 TM2 hv1 kU
    have kU := TT.out m (by omega)
    have hH2 : w.heap.size + 1 < VV.heap.size := World.block_lt_of_cell? VV _ (TT.out 0 (by omega))
    have k0 := TT.out 0 (by omega)
    have k1 := TT.out 1 (by omega)
    have k2 := TT.out 2 (by omega)
    have k3 := TT.out 3 (by omega)
    have k4 := TT.out 4 (by omega)
    have k5 := TT.out 5 (by omega)
    have k6 := TT.out 6 (by omega)
    have k7 := TT.out 7 (by omega)
    have k8 := TT.out 8 (by omega)
    have k9 := TT.out 9 (by omega)
    have k10 := TT.out 10 (by omega)
    have k11 := TT.out 11 (by omega)
    have k12 := TT.out 12 (by omega)
    go_upto_region 8 with (fail)
    obtain ⟨V2, hV2⟩ : ∃ V2 : World, V2 = VV.alloc (.cells #[.int .i64 (t[(0 : Nat)]?.getD 0), .int .i64 (t[(1 : Nat)]?.getD 0), .int .i64 (t[(2 : Nat)]?.getD 0), .int .i64 (t[(3 : Nat)]?.getD 0), .int .i64 (t[(4 : Nat)]?.getD 0), .int .i64 (t[(5 : Nat)]?.getD 0), .int .i64 (t[(6 : Nat)]?.getD 0), .int .i64 (t[(7 : Nat)]?.getD 0), .int .i64 (t[(8 : Nat)]?.getD 0), .int .i64 (t[(9 : Nat)]?.getD 0), .int .i64 (t[(10 : Nat)]?.getD 0), .int .i64 (t[(11 : Nat)]?.getD 0), .int .i64 (t[(12 : Nat)]?.getD 0)] 28) := ⟨_, rfl⟩
    rw [← hV2]
    have hb : Below VV.heap.size VV V2 := by subst hV2; ((with_reducible (repeat (first | assumption | exact Below.refl _ _ | refine bset ?_ (Nat.le_refl _) _ | refine balloc ?_ _ | refine bdrew ?_ | refine bdrewN ?_ _))); done)
    have kA2 := cell_keep kA hb
    have T2 := hid (TT.out.keep hb)
    have TN : Hid (TabIn V2 VV.heap.size t) := hid (by subst hV2; exact hbox.out _ _)
    have B2 := hid (btrans BB.out hb)
    have kM := TN.out m (by omega)
    have zM : V2.frozen? ⟨VV.heap.size, m, none⟩ = false := by subst hV2; go_simp
    have hzA : w.heap.size + 1 < V2.heap.size := World.block_lt_of_cell? V2 _ (T2.out 0 (by omega))
    have hVV : VV.heap.size < V2.heap.size := World.block_lt_of_cell? V2 _ kM
    have hHV : w.heap.size + 1 < VV.heap.size := World.block_lt_of_cell? VV _ (TT.out 0 (by omega))
    have HBV : Hid (w.heap.size ≤ VV.heap.size) := hid (by omega)
    clear hb hV2 k0 k1 k2 k3 k4 k5 k6 k7 k8 k9 k10 k11 k12
    go_wp2_with fail
    obtain ⟨V3, hV3⟩ : ∃ V3 : World, V3 = V2.setCell ⟨VV.heap.size, m, none⟩ (.int .i64 0) := ⟨_, rfl⟩
    rw [← hV3]
    have TN3 : Hid (TabIn V3 VV.heap.size (setU t m 0)) := hid (by subst hV3; exact TN.out.set HT.out m hm4 0)
    have T3 : Hid (TabIn V3 (w.heap.size + 1) t) := hid (fun j hj => by subst hV3; exact set_other' (T2.out j hj) (by show VV.heap.size ≠ w.heap.size + 1; omega))
    have kA3 : V3.cell? ⟨w.heap.size, 0, none⟩ = some (.slice A l.length c) := by subst hV3; exact set_other' kA2 (by show VV.heap.size ≠ w.heap.size; omega)
    have B3 : Hid (Below w.heap.size w V3) := hid (by subst hV3; exact B2.out.setCell HBV.out _)
    clear hV3 kM zM kA2 hzA TN T2 B2
    go_loopg [9, 10] l.length (fun g v9 v wr => ∃ i : Nat, i ≤ l.length ∧ v = .int .i64 i ∧ v9 = .bool (((m : Int) == 3) || (l.take i).any (fun b => hasC b.ops m || hasC b.body m)) ∧ Hid (g + i = l.length) ∧ wr.cell? ⟨w.heap.size, 0, none⟩ = some (.slice A l.length c) ∧ Hid (TabIn wr (w.heap.size + 1) t) ∧ Hid (TabIn wr VV.heap.size (setU t m 0)) ∧ Below w.heap.size w wr)
    case atStart => exact ⟨0, by omega, rfl, by simp, by exact Nat.add_zero _, kA3, T3, TN3, B3.out⟩
    case round =>
      obtain ⟨i, hi, rfl, rfl, hg, hcA, htr, htn, hbw⟩ := hrel
      have hgw : w.heap.size < wr.heap.size := World.block_lt_of_cell? wr _ hcA
      by_cases hlt : i < l.length
      · obtain ⟨g, off, rfl, hop⟩ := (BlksIn.keep HL.out hbw).get i hlt
        obtain ⟨B, c1, B2, c2, k0, k1, k2, k3, k4, k5, o1, o2, _, _⟩ := hop
        have U1 := hid (fun (h : l[i].ops.length ≤ 1000000000000000000) => uses_any B l[i].ops c1 m wr o1 h)
        have U2 := hid (fun (h : l[i].body.length ≤ 1000000000000000000) => uses_any B2 l[i].body c2 m wr o2 h)
        clear o1 o2
        have m0 := (HW.out l[i] (List.getElem_mem hlt)).m0
        have m1 := (HW.out l[i] (List.getElem_mem hlt)).m1
        have V1 := hid (U1.out (by omega))
        have V2 := hid (U2.out (by omega))
        clear U1 U2
        have hgs : g < wr.heap.size := World.block_lt_of_cell? wr _ k0
        have hb0 := hid hbw
        clear hbw
        have hij : (i : Int) < (l.length : Int) := by omega
        have hi0 : (0 : Int) ≤ (i : Int) := by omega
        have hst := any_snoc2 (f := fun b => hasC b.ops m || hasC b.body m) hlt
        cases h0 : (((m : Int) == 3) || (l.take i).any (fun b => hasC b.ops m || hasC b.body m))
        · cases h1 : hasC l[i].ops m
          · cases h2 : hasC l[i].body m
            · have hst2 : Hid ((((m : Int) == 3) || (l.take (i + 1)).any (fun b => hasC b.ops m || hasC b.body m)) = false) := hid (by rw [hst, ← Bool.or_assoc, h0, h1, h2]; rfl)
              rw [h1] at V1
              rw [h2] at V2
              clear hst h0 h1 h2
              go_wp2_with fail
              with_reducible refine V1.out.mono ?_
              rintro e w' ⟨rfl, rfl⟩
              go_wp2_with fail
              with_reducible refine V2.out.mono ?_
              rintro e w' ⟨rfl, rfl⟩
              go_wp2
              go_roundg (l.length - (i + 1))
              case measure => have := hg.out; omega
              case rel => exact ⟨i + 1, by omega, by go_num, by rw [hst2.out], by show _ + _ = _; omega, hcA, htr, htn, hb0.out⟩
            · have hst2 : Hid ((((m : Int) == 3) || (l.take (i + 1)).any (fun b => hasC b.ops m || hasC b.body m)) = true) := hid (by rw [hst, ← Bool.or_assoc, h0, h1, h2]; rfl)
              rw [h1] at V1
              rw [h2] at V2
              clear hst h0 h1 h2
              go_wp2_with fail
              with_reducible refine V1.out.mono ?_
              rintro e w' ⟨rfl, rfl⟩
              go_wp2_with fail
              with_reducible refine V2.out.mono ?_
              rintro e w' ⟨rfl, rfl⟩
              go_wp2
              go_roundg (l.length - (i + 1))
              case measure => have := hg.out; omega
              case rel => exact ⟨i + 1, by omega, by go_num, by rw [hst2.out], by show _ + _ = _; omega, hcA, htr, htn, hb0.out⟩
          · have hst2 : Hid ((((m : Int) == 3) || (l.take (i + 1)).any (fun b => hasC b.ops m || hasC b.body m)) = true) := hid (by rw [hst, ← Bool.or_assoc, h0, h1]; rfl)
            rw [h1] at V1
            clear hst h0 h1
            go_wp2_with fail
            with_reducible refine V1.out.mono ?_
            rintro e w' ⟨rfl, rfl⟩
            go_wp2
            go_roundg (l.length - (i + 1))
            case measure => have := hg.out; omega
            case rel => exact ⟨i + 1, by omega, by go_num, by rw [hst2.out], by show _ + _ = _; omega, hcA, htr, htn, hb0.out⟩
        · have hst2 : Hid ((((m : Int) == 3) || (l.take (i + 1)).any (fun b => hasC b.ops m || hasC b.body m)) = true) := hid (by rw [hst, ← Bool.or_assoc, h0]; rfl)
          clear hst h0
          go_wp2
          go_roundg (l.length - (i + 1))
          case measure => have := hg.out; omega
          case rel => exact ⟨i + 1, by omega, by go_num, by rw [hst2.out], by show _ + _ = _; omega, hcA, htr, htn, hb0.out⟩
      · obtain rfl : i = l.length := by omega
        have hb0 := hid hbw
        have L0 := hid (BlksIn.keep HL.out hbw)
        clear hbw
        rw [List.take_length]
        have hnn := need_none HT.out m hm4 hN
        unfold hasP at hnn
        cases hU : (((m : Int) == 3) || l.any (fun b => hasC b.ops m || hasC b.body m))
        all_goals
          rw [hU] at hnn
          simp only [if_true, Bool.false_eq_true, if_false] at hnn
          have hgw1 : w.heap.size + 1 < wr.heap.size := World.block_lt_of_cell? wr _ (htr.out 0 (by omega))
          have hgwN : VV.heap.size < wr.heap.size := World.block_lt_of_cell? wr _ (htn.out 0 (by omega))
          have k0 := htr.out 0 (by omega)
          have k1 := htr.out 1 (by omega)
          have k2 := htr.out 2 (by omega)
          have k3 := htr.out 3 (by omega)
          have k4 := htr.out 4 (by omega)
          have k5 := htr.out 5 (by omega)
          have k6 := htr.out 6 (by omega)
          have k7 := htr.out 7 (by omega)
          have k8 := htr.out 8 (by omega)
          have k9 := htr.out 9 (by omega)
          have k10 := htr.out 10 (by omega)
          have k11 := htr.out 11 (by omega)
          have k12 := htr.out 12 (by omega)
          go_wp2_with fail
          with_reducible refine (C1.out _ t HT.out L0.out).mono ?_
          rintro e w3 ⟨rfl, hb⟩
          have B5 := hid (btrans hb0.out hb)
          have L5 := hid (L0.out.keep hb)
          have kA5 := cell_keep hcA hb
          have TN5 := hid (htn.out.keep hb)
          clear hb k0 k1 k2 k3 k4 k5 k6 k7 k8 k9 k10 k11 k12
          have k0 := TN5.out 0 (by omega)
          have k1 := TN5.out 1 (by omega)
          have k2 := TN5.out 2 (by omega)
          have k3 := TN5.out 3 (by omega)
          have k4 := TN5.out 4 (by omega)
          have k5 := TN5.out 5 (by omega)
          have k6 := TN5.out 6 (by omega)
          have k7 := TN5.out 7 (by omega)
          have k8 := TN5.out 8 (by omega)
          have k9 := TN5.out 9 (by omega)
          have k10 := TN5.out 10 (by omega)
          have k11 := TN5.out 11 (by omega)
          have k12 := TN5.out 12 (by omega)
          go_wp2_with fail
          with_reducible refine (C1.out _ (setU t m 0) (by rw [setU, List.length_set]; exact HT.out) L5.out).mono ?_
          rintro e w4 ⟨rfl, hb⟩
          have B6 := hid (btrans B5.out hb)
          clear hb k0 k1 k2 k3 k4 k5 k6 k7 k8 k9 k10 k11 k12
          go_wp2_with fail
          with_reducible refine (CW.out _).mono ?_
          rintro e w5 ⟨rfl, hb⟩
          go_wp2_with fail
          go_ret
          exact ⟨rfl, btrans B6.out hb⟩
end Go.Proofs.Ytcibkoodnfkogaa
