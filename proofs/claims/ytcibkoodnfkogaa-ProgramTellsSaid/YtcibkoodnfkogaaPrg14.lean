/- The document's Needs. -/
import Derived.Test.YtcibkoodnfkogaaPrg8
import Derived.Test.YtcibkoodnfkogaaPrg12
namespace Go.Proofs.Ytcibkoodnfkogaa
open Go.RowKit
set_option linter.unusedVariables false
set_option linter.unusedSimpArgs false
set_option maxHeartbeats 4000000 in
set_option maxRecDepth 100000 in
theorem rneeds_any (A : Option Addr) (l : List Blk) (cap : Nat) (t : List Int) (w : World) (hl : BlksIn w A l) (hw : ∀ b ∈ l, b.wf) (hm : l.length ≤ 9223372036854775807) (ht : t.length = 13) :
    Calls Try.prog 42 #[.agg #[.slice A l.length cap], tabV t] w fun e w' => e = .returned (.int .i64 (needE l t)) ∧ Below w.heap.size w w' := by
  obtain ⟨a0, a1, a2, a3, a4, a5, a6, a7, a8, a9, a10, a11, a12, rfl⟩ := thirteen ht
  have C1 := hid (fun (w : World) (h : BlksIn w A l) => rprg_check_any A l cap w h hw hm)
  have C2 := hid (fun (w : World) => rtcheck_any [a0, a1, a2, a3, a4, a5, a6, a7, a8, a9, a10, a11, a12] w ht)
  have C3 := hid (fun (w : World) (A : Option Addr) (l : List Op) (cap : Nat) (h : OpsIn w A l) (hm : l.length ≤ 1000000000000000000) => tabV_X ht ▸ ruses_any A l cap [a0, a1, a2, a3, a4, a5, a6, a7, a8, a9, a10, a11, a12] w h hm ht)
  have HL := hid hl
  have HW := hid hw
  clear hl hw ht
  have hV : tabV [a0, a1, a2, a3, a4, a5, a6, a7, a8, a9, a10, a11, a12] = tabX a0 a1 a2 a3 a4 a5 a6 a7 a8 a9 a10 a11 a12 := rfl
  rw [hV] at C2 ⊢
  clear hV
  generalize htt : [a0, a1, a2, a3, a4, a5, a6, a7, a8, a9, a10, a11, a12] = t at C2 C3 ⊢
  have h3 : t[(3 : Nat)]?.getD 0 = a3 := by subst htt; rfl
  have hbox := hid (fun w T => htt ▸ TabIn.box a0 a1 a2 a3 a4 a5 a6 a7 a8 a9 a10 a11 a12 w T)
  clear htt
  by_cases hP : prgE l = 0
  case neg =>
    have e0 := hid (show needE l t = prgE l by unfold needE; rw [if_pos hP])
    clear h3
    go_enter Try.func42, Try.ntmps42
    go_wp2_with fail
    with_reducible refine (C1.out _ (BlksIn.keep (w := w) HL.out ?_)).mono ?_
    · ((with_reducible (repeat (first | assumption | exact Below.refl _ _ | refine bset ?_ (Nat.le_refl _) _ | refine balloc ?_ _ | refine bdrew ?_ | refine bdrewN ?_ _))); done)
    rintro e w1 ⟨rfl, hb⟩
    go_wp2
    go_ret
    refine ⟨ret_int e0.out.symm, btrans (a := w) ?_ hb⟩
    ((with_reducible (repeat (first | assumption | exact Below.refl _ _ | refine bset ?_ (Nat.le_refl _) _ | refine balloc ?_ _ | refine bdrew ?_ | refine bdrewN ?_ _))); done)
  have hlen := (prgE_len hP).1
  rw [hP] at C1
  have e0 : needE l t = if tabE t ≠ 0 then tabE t else if a3 = 0 then 21 else if lackL l t then 21 else 0 := by unfold needE; rw [if_neg (fun h => h hP), h3]
  replace e0 := hid e0
  replace h3 := hid h3
  clear hP
  go_enter Try.func42, Try.ntmps42
  go_wp2_with fail
  with_reducible refine (C1.out _ (BlksIn.keep (w := w) HL.out ?_)).mono ?_
  · ((with_reducible (repeat (first | assumption | exact Below.refl _ _ | refine bset ?_ (Nat.le_refl _) _ | refine balloc ?_ _ | refine bdrew ?_ | refine bdrewN ?_ _))); done)
  rintro e w1 ⟨rfl, hb⟩
  have B1 := hid (btrans (a := w) (by ((with_reducible (repeat (first | assumption | exact Below.refl _ _ | refine bset ?_ (Nat.le_refl _) _ | refine balloc ?_ _ | refine bdrew ?_ | refine bdrewN ?_ _))); done)) hb)
  have kA : w1.cell? ⟨w.heap.size, 0, none⟩ = some (.slice A l.length cap) := cell_keep (by simp) hb
  have TT : Hid (TabIn w1 (w.heap.size + 1) t) := hid (by have := hbox.out (w.alloc (.cells #[.slice A l.length cap] 61)) 28; rw [hsz] at this; exact this.keep hb)
  have hz : w.heap.size + 1 < w1.heap.size := World.block_lt_of_cell? w1 _ (TT.out 0 (by omega))
  have hc := (bcell hb).1
  have hz0 : w.heap.size < w1.heap.size := by omega
  clear hb
  go_wp2_with fail
  with_reducible refine (C2.out _).mono ?_
  rintro e w2 ⟨rfl, hb⟩
  have B2 := hid (btrans B1.out hb)
  have kA2 := cell_keep kA hb
  have T2 := hid (TT.out.keep hb)
  have k3 : w2.cell? ⟨w.heap.size + 1, 3, none⟩ = some (.int .i64 a3) := by have := T2.out 3 (by omega); rw [h3.out] at this; exact this
  clear hc hb kA hz hz0
  have hz : w.heap.size + 1 < w2.heap.size := World.block_lt_of_cell? w2 _ k3
  by_cases hT : tabE t = 0
  case neg =>
    have e1 := hid (e0.out.trans (if_pos hT))
    go_wp2
    go_ret
    exact ⟨ret_int e1.out.symm, B2.out⟩
  replace e0 := hid (e0.out.trans (if_neg (fun h => h hT)))
  by_cases hU : a3 = 0
  case pos =>
    have e1 := hid (e0.out.trans (if_pos hU))
    go_wp2
    go_ret
    exact ⟨ret_int e1.out.symm, B2.out⟩
  replace e0 := hid (e0.out.trans (if_neg hU))
  have hUb : (a3 == 0) = false := by simpa using hU
  go_wp2
  clear hT hU hUb k3
  go_loopg [6] l.length (fun g v wr => ∃ i : Nat, i ≤ l.length ∧ v = .int .i64 i ∧ Hid (g + i = l.length) ∧ Hid (∀ j (hj : j < i) (hj2 : j < l.length), (usesB l[j].ops t || usesB l[j].body t) = false) ∧ Hid (TabIn wr (w.heap.size + 1) t) ∧ wr.cell? ⟨w.heap.size, 0, none⟩ = some (.slice A l.length cap) ∧ Below w.heap.size w wr)
  case atStart => exact ⟨0, by omega, rfl, by exact Nat.add_zero _, fun j hj => by omega, T2, kA2, B2.out⟩
  case round =>
    obtain ⟨i, hi, rfl, hg, hall, htr, kA, hbw⟩ := hrel
    by_cases hlt : i < l.length
    · obtain ⟨wo, rfl⟩ : ∃ wo : World, wo = wr := ⟨_, rfl⟩
      obtain ⟨g, off, rfl, hop⟩ := (BlksIn.keep HL.out hbw).get i hlt
      obtain ⟨B, c, B2, c2, k0, _, _, k3, _, _, o1, o2, _, _⟩ := hop
      have O1 := hid o1
      have O2 := hid o2
      clear o1 o2
      have hwf := hid (HW.out l[i] (List.getElem_mem hlt))
      have m0 := hwf.out.m0
      have m1 := hwf.out.m1
      have hgs : g < wo.heap.size := World.block_lt_of_cell? wo _ k0
      have hb0 := hid hbw
      have hgw : w.heap.size + 1 < wo.heap.size := World.block_lt_of_cell? wo _ (htr.out 0 (by omega))
      clear hbw
      have hij : (i : Int) < (l.length : Int) := by omega
      have hi0 : (0 : Int) ≤ (i : Int) := by omega
      have Y1 := hid (fun h : usesB l[i].ops t = true => lackL_yes (l := l) (t := t) hlt (by rw [h]; rfl))
      have Y2 := hid (fun h : usesB l[i].body t = true => lackL_yes (l := l) (t := t) hlt (by rw [h, Bool.or_true]))
      have D1 := hid (fun (w : World) (h : OpsIn w B l[i].ops) => C3.out w B l[i].ops c h (by omega))
      have D2 := hid (fun (w : World) (h : OpsIn w B2 l[i].body) => C3.out w B2 l[i].body c2 h (by omega))
      have t0 := htr.out 0 (by omega)
      have t1 := htr.out 1 (by omega)
      have t2 := htr.out 2 (by omega)
      have t3 := htr.out 3 (by omega)
      have t4 := htr.out 4 (by omega)
      have t5 := htr.out 5 (by omega)
      have t6 := htr.out 6 (by omega)
      have t7 := htr.out 7 (by omega)
      have t8 := htr.out 8 (by omega)
      have t9 := htr.out 9 (by omega)
      have t10 := htr.out 10 (by omega)
      have t11 := htr.out 11 (by omega)
      have t12 := htr.out 12 (by omega)
      cases h1 : usesB l[i].ops t
      · rw [h1] at D1
        cases h2 : usesB l[i].body t
        · rw [h2] at D2
          have e1 := hid (show (usesB l[i].ops t || usesB l[i].body t) = false by rw [h1, h2]; rfl)
          clear h1 h2
          go_wp2
          go_region_held3 (fun w' => w'.cell? ⟨w.heap.size, 0, none⟩ = some (.slice (some ⟨g, off, none⟩) l.length cap) ∧ w'.cell? ⟨g, off + i * 6, none⟩ = some (.slice B l[i].ops.length c) ∧ w'.cell? ⟨g, off + i * 6 + 3, none⟩ = some (.slice B2 l[i].body.length c2) ∧ w'.cell? ⟨w.heap.size + 1, 0, none⟩ = some (.int .i64 (t[0]?.getD 0)) ∧ w'.cell? ⟨w.heap.size + 1, 1, none⟩ = some (.int .i64 (t[1]?.getD 0)) ∧ w'.cell? ⟨w.heap.size + 1, 2, none⟩ = some (.int .i64 (t[2]?.getD 0)) ∧ w'.cell? ⟨w.heap.size + 1, 3, none⟩ = some (.int .i64 (t[3]?.getD 0)) ∧ w'.cell? ⟨w.heap.size + 1, 4, none⟩ = some (.int .i64 (t[4]?.getD 0)) ∧ w'.cell? ⟨w.heap.size + 1, 5, none⟩ = some (.int .i64 (t[5]?.getD 0)) ∧ w'.cell? ⟨w.heap.size + 1, 6, none⟩ = some (.int .i64 (t[6]?.getD 0)) ∧ w'.cell? ⟨w.heap.size + 1, 7, none⟩ = some (.int .i64 (t[7]?.getD 0)) ∧ w'.cell? ⟨w.heap.size + 1, 8, none⟩ = some (.int .i64 (t[8]?.getD 0)) ∧ w'.cell? ⟨w.heap.size + 1, 9, none⟩ = some (.int .i64 (t[9]?.getD 0)) ∧ w'.cell? ⟨w.heap.size + 1, 10, none⟩ = some (.int .i64 (t[10]?.getD 0)) ∧ w'.cell? ⟨w.heap.size + 1, 11, none⟩ = some (.int .i64 (t[11]?.getD 0)) ∧ w'.cell? ⟨w.heap.size + 1, 12, none⟩ = some (.int .i64 (t[12]?.getD 0)) ∧ Below wo.heap.size wo w') (first | (go_split_ands; (repeat' apply And.intro) <;> (first | assumption | exact cell_keep (by assumption) (by assumption) | exact btrans (by assumption) (by assumption) | with_reducible exact Below.refl _ _ | (with_reducible exact bdrew (Below.refl _ _)) | (with_reducible refine bdrew ?_; assumption) | simpa using (by assumption))) | go_keep)
            (first | ((with_reducible refine (D1.out _ (OpsIn.keep O1.out ?_)).mono ?_); (next => ((with_reducible (repeat (first | assumption | exact Below.refl _ _ | refine bset ?_ (Nat.le_refl _) _ | refine balloc ?_ _ | refine bdrew ?_ | refine bdrewN ?_ _))); done)); rintro e w5 ⟨rfl, hb5⟩) | ((with_reducible refine (D2.out _ (OpsIn.keep O2.out ?_)).mono ?_); (next => (go_split_ands; ((with_reducible (repeat (first | assumption | exact Below.refl _ _ | refine bset ?_ (Nat.le_refl _) _ | refine balloc ?_ _ | refine bdrew ?_ | refine bdrewN ?_ _))); done))); rintro e w6 ⟨rfl, hb6⟩))
          go_split_ands
          have hb9 : Hid (Below wo.heap.size wo w6) := hid (by assumption)
          have kA9 := cell_keep kA hb9.out
          go_wp2
          go_roundg (l.length - (i + 1))
          case measure => have := hg.out; omega
          case rel =>
            refine ⟨i + 1, by omega, by go_num, by show _ + _ = _; omega, fun j hj hj2 => ?_, hid (htr.out.keep hb9.out), kA9, btrans hb0.out hb9.out⟩
            by_cases h : j < i
            · exact hall.out j h hj2
            · obtain rfl : j = i := by omega
              exact e1.out
        · rw [h2] at D2
          have e3 := hid (e0.out.trans (if_pos (Y2.out h2)))
          clear h1 h2
          go_wp2
          go_region_held3 (fun w' => w'.cell? ⟨w.heap.size, 0, none⟩ = some (.slice (some ⟨g, off, none⟩) l.length cap) ∧ w'.cell? ⟨g, off + i * 6, none⟩ = some (.slice B l[i].ops.length c) ∧ w'.cell? ⟨g, off + i * 6 + 3, none⟩ = some (.slice B2 l[i].body.length c2) ∧ w'.cell? ⟨w.heap.size + 1, 0, none⟩ = some (.int .i64 (t[0]?.getD 0)) ∧ w'.cell? ⟨w.heap.size + 1, 1, none⟩ = some (.int .i64 (t[1]?.getD 0)) ∧ w'.cell? ⟨w.heap.size + 1, 2, none⟩ = some (.int .i64 (t[2]?.getD 0)) ∧ w'.cell? ⟨w.heap.size + 1, 3, none⟩ = some (.int .i64 (t[3]?.getD 0)) ∧ w'.cell? ⟨w.heap.size + 1, 4, none⟩ = some (.int .i64 (t[4]?.getD 0)) ∧ w'.cell? ⟨w.heap.size + 1, 5, none⟩ = some (.int .i64 (t[5]?.getD 0)) ∧ w'.cell? ⟨w.heap.size + 1, 6, none⟩ = some (.int .i64 (t[6]?.getD 0)) ∧ w'.cell? ⟨w.heap.size + 1, 7, none⟩ = some (.int .i64 (t[7]?.getD 0)) ∧ w'.cell? ⟨w.heap.size + 1, 8, none⟩ = some (.int .i64 (t[8]?.getD 0)) ∧ w'.cell? ⟨w.heap.size + 1, 9, none⟩ = some (.int .i64 (t[9]?.getD 0)) ∧ w'.cell? ⟨w.heap.size + 1, 10, none⟩ = some (.int .i64 (t[10]?.getD 0)) ∧ w'.cell? ⟨w.heap.size + 1, 11, none⟩ = some (.int .i64 (t[11]?.getD 0)) ∧ w'.cell? ⟨w.heap.size + 1, 12, none⟩ = some (.int .i64 (t[12]?.getD 0)) ∧ Below wo.heap.size wo w') (first | (go_split_ands; (repeat' apply And.intro) <;> (first | assumption | exact cell_keep (by assumption) (by assumption) | exact btrans (by assumption) (by assumption) | with_reducible exact Below.refl _ _ | (with_reducible exact bdrew (Below.refl _ _)) | (with_reducible refine bdrew ?_; assumption) | simpa using (by assumption))) | go_keep)
            (first | ((with_reducible refine (D1.out _ (OpsIn.keep O1.out ?_)).mono ?_); (next => ((with_reducible (repeat (first | assumption | exact Below.refl _ _ | refine bset ?_ (Nat.le_refl _) _ | refine balloc ?_ _ | refine bdrew ?_ | refine bdrewN ?_ _))); done)); rintro e w5 ⟨rfl, hb5⟩) | ((with_reducible refine (D2.out _ (OpsIn.keep O2.out ?_)).mono ?_); (next => (go_split_ands; ((with_reducible (repeat (first | assumption | exact Below.refl _ _ | refine bset ?_ (Nat.le_refl _) _ | refine balloc ?_ _ | refine bdrew ?_ | refine bdrewN ?_ _))); done))); rintro e w6 ⟨rfl, hb6⟩))
          go_split_ands
          have hb9 : Hid (Below wo.heap.size wo w6) := hid (by assumption)
          go_wp2
          go_ret
          exact ⟨ret_int e3.out.symm, btrans hb0.out hb9.out⟩
      · rw [h1] at D1
        have e3 := hid (e0.out.trans (if_pos (Y1.out h1)))
        clear h1
        go_wp2
        refine wp_region_held_drew (S := (fun w' => w'.cell? ⟨w.heap.size, 0, none⟩ = some (.slice (some ⟨g, off, none⟩) l.length cap) ∧ w'.cell? ⟨g, off + i * 6, none⟩ = some (.slice B l[i].ops.length c) ∧ w'.cell? ⟨g, off + i * 6 + 3, none⟩ = some (.slice B2 l[i].body.length c2) ∧ w'.cell? ⟨w.heap.size + 1, 0, none⟩ = some (.int .i64 (t[0]?.getD 0)) ∧ w'.cell? ⟨w.heap.size + 1, 1, none⟩ = some (.int .i64 (t[1]?.getD 0)) ∧ w'.cell? ⟨w.heap.size + 1, 2, none⟩ = some (.int .i64 (t[2]?.getD 0)) ∧ w'.cell? ⟨w.heap.size + 1, 3, none⟩ = some (.int .i64 (t[3]?.getD 0)) ∧ w'.cell? ⟨w.heap.size + 1, 4, none⟩ = some (.int .i64 (t[4]?.getD 0)) ∧ w'.cell? ⟨w.heap.size + 1, 5, none⟩ = some (.int .i64 (t[5]?.getD 0)) ∧ w'.cell? ⟨w.heap.size + 1, 6, none⟩ = some (.int .i64 (t[6]?.getD 0)) ∧ w'.cell? ⟨w.heap.size + 1, 7, none⟩ = some (.int .i64 (t[7]?.getD 0)) ∧ w'.cell? ⟨w.heap.size + 1, 8, none⟩ = some (.int .i64 (t[8]?.getD 0)) ∧ w'.cell? ⟨w.heap.size + 1, 9, none⟩ = some (.int .i64 (t[9]?.getD 0)) ∧ w'.cell? ⟨w.heap.size + 1, 10, none⟩ = some (.int .i64 (t[10]?.getD 0)) ∧ w'.cell? ⟨w.heap.size + 1, 11, none⟩ = some (.int .i64 (t[11]?.getD 0)) ∧ w'.cell? ⟨w.heap.size + 1, 12, none⟩ = some (.int .i64 (t[12]?.getD 0)) ∧ Below wo.heap.size wo w')) (by kernel_rfl) ?_ (fun hHeld => ?_)
        · (try dsimp only)
          (first | (go_split_ands; (repeat' apply And.intro) <;> (first | assumption | exact cell_keep (by assumption) (by assumption) | exact btrans (by assumption) (by assumption) | with_reducible exact Below.refl _ _ | (with_reducible exact bdrew (Below.refl _ _)) | (with_reducible refine bdrew ?_; assumption) | simpa using (by assumption))) | go_keep)
        refine wpAnyH_take (i := 0) (v := ?_) rfl (by kernel_rfl) (by kernel_rfl) (by kernel_rfl) (fun _ _ _ h => h) (Or.inl ⟨by kernel_rfl, ?_⟩) (by assumption) ?_
        rotate_left 1
        · (intro w hSw; (try dsimp only at hSw); go_simp; try with_reducible rfl)
        (try simp only [Act.put, List.getElem_toArray, List.getElem_cons_zero, List.getElem_cons_succ, List.setIfInBounds_toArray, List.set_cons_zero, List.set_cons_succ])
        refine wpAnyH_take (i := 1) (v := ?_) rfl (by kernel_rfl) (by kernel_rfl) (by kernel_rfl) (fun _ _ _ h => h) (Or.inl ⟨by kernel_rfl, ?_⟩) (by assumption) ?_
        rotate_left 1
        · (intro w hSw; (try dsimp only at hSw); go_simp; try with_reducible rfl)
        (try simp only [Act.put, List.getElem_toArray, List.getElem_cons_zero, List.getElem_cons_succ, List.setIfInBounds_toArray, List.set_cons_zero, List.set_cons_succ])
        refine wpAnyH_take (i := 2) (v := ?_) rfl (by kernel_rfl) (by kernel_rfl) (by kernel_rfl) (fun _ _ _ h => h) (Or.inl ⟨by kernel_rfl, ?_⟩) (by assumption) ?_
        rotate_left 1
        · (intro w hSw; (try dsimp only at hSw); go_simp; try with_reducible rfl)
        (try simp only [Act.put, List.getElem_toArray, List.getElem_cons_zero, List.getElem_cons_succ, List.setIfInBounds_toArray, List.set_cons_zero, List.set_cons_succ])
        refine wpAnyH_take (i := 3) (v := ?_) rfl (by kernel_rfl) (by kernel_rfl) (by kernel_rfl) (fun _ _ _ h => h) (Or.inl ⟨by kernel_rfl, ?_⟩) (by assumption) ?_
        rotate_left 1
        · (intro w hSw; (try dsimp only at hSw); go_simp; try with_reducible rfl)
        (try simp only [Act.put, List.getElem_toArray, List.getElem_cons_zero, List.getElem_cons_succ, List.setIfInBounds_toArray, List.set_cons_zero, List.set_cons_succ])
        refine wpAnyH_take (i := 4) (v := ?_) rfl (by kernel_rfl) (by kernel_rfl) (by kernel_rfl) (fun _ _ _ h => h) (Or.inl ⟨by kernel_rfl, ?_⟩) (by assumption) ?_
        rotate_left 1
        · (intro w hSw; (try dsimp only at hSw); go_simp; try with_reducible rfl)
        (try simp only [Act.put, List.getElem_toArray, List.getElem_cons_zero, List.getElem_cons_succ, List.setIfInBounds_toArray, List.set_cons_zero, List.set_cons_succ])
        refine wpAnyH_take (i := 5) (v := ?_) rfl (by kernel_rfl) (by kernel_rfl) (by kernel_rfl) (fun _ _ _ h => h) (Or.inl ⟨by kernel_rfl, ?_⟩) (by assumption) ?_
        rotate_left 1
        · (intro w hSw; (try dsimp only at hSw); go_simp; try with_reducible rfl)
        (try simp only [Act.put, List.getElem_toArray, List.getElem_cons_zero, List.getElem_cons_succ, List.setIfInBounds_toArray, List.set_cons_zero, List.set_cons_succ])
        refine wpAnyH_take (i := 6) (v := ?_) rfl (by kernel_rfl) (by kernel_rfl) (by kernel_rfl) (fun _ _ _ h => h) (Or.inl ⟨by kernel_rfl, ?_⟩) (by assumption) ?_
        rotate_left 1
        · (intro w hSw; (try dsimp only at hSw); go_simp; try with_reducible rfl)
        (try simp only [Act.put, List.getElem_toArray, List.getElem_cons_zero, List.getElem_cons_succ, List.setIfInBounds_toArray, List.set_cons_zero, List.set_cons_succ])
        refine wpAnyH_ready (rs := [7]) (by kernel_rfl) (by simp) ?_
        refine AllReadyH.cons rfl (fun K hK => ?_) AllReadyH.nil
        go_simp
        (with_reducible refine (D1.out _ (OpsIn.keep O1.out ?_)).mono ?_)
        · ((with_reducible (repeat (first | assumption | exact Below.refl _ _ | refine bset ?_ (Nat.le_refl _) _ | refine balloc ?_ _ | refine bdrew ?_ | refine bdrewN ?_ _))); done)
        rintro e w5 ⟨rfl, hb5⟩
        go_simp
        refine hK.out _ _ ?_ (fun hHeld => ?_)
        · (try dsimp only)
          (first | (go_split_ands; (repeat' apply And.intro) <;> (first | assumption | exact cell_keep (by assumption) (by assumption) | exact btrans (by assumption) (by assumption) | with_reducible exact Below.refl _ _ | (with_reducible exact bdrew (Below.refl _ _)) | (with_reducible refine bdrew ?_; assumption) | simpa using (by assumption))) | go_keep)
        clear hK K
        (try simp only [Act.put, List.getElem_toArray, List.getElem_cons_zero, List.getElem_cons_succ, List.setIfInBounds_toArray, List.set_cons_zero, List.set_cons_succ])
        refine wpAnyH_take (i := 8) (v := ?_) rfl (by kernel_rfl) (by kernel_rfl) (by kernel_rfl) (fun _ _ _ h => h) (Or.inl ⟨by kernel_rfl, ?_⟩) (by assumption) ?_
        rotate_left 1
        · (intro w hSw; (try dsimp only at hSw); go_simp; try with_reducible rfl)
        (try simp only [Act.put, List.getElem_toArray, List.getElem_cons_zero, List.getElem_cons_succ, List.setIfInBounds_toArray, List.set_cons_zero, List.set_cons_succ])
        refine wpAnyH_take (i := 9) (v := undef) rfl (by kernel_rfl) (by kernel_rfl) (by kernel_rfl) (fun _ _ _ h => h) (Or.inr ⟨by kernel_rfl, rfl⟩) (by assumption) ?_
        (try simp only [Act.put, List.getElem_toArray, List.getElem_cons_zero, List.getElem_cons_succ, List.setIfInBounds_toArray, List.set_cons_zero, List.set_cons_succ])
        refine wpAnyH_take (i := 10) (v := undef) rfl (by kernel_rfl) (by kernel_rfl) (by kernel_rfl) (fun _ _ _ h => h) (Or.inr ⟨by kernel_rfl, rfl⟩) (by assumption) ?_
        (try simp only [Act.put, List.getElem_toArray, List.getElem_cons_zero, List.getElem_cons_succ, List.setIfInBounds_toArray, List.set_cons_zero, List.set_cons_succ])
        refine wpAnyH_take (i := 11) (v := undef) rfl (by kernel_rfl) (by kernel_rfl) (by kernel_rfl) (fun _ _ _ h => h) (Or.inr ⟨by kernel_rfl, rfl⟩) (by assumption) ?_
        (try simp only [Act.put, List.getElem_toArray, List.getElem_cons_zero, List.getElem_cons_succ, List.setIfInBounds_toArray, List.set_cons_zero, List.set_cons_succ])
        refine wpAnyH_take (i := 12) (v := undef) rfl (by kernel_rfl) (by kernel_rfl) (by kernel_rfl) (fun _ _ _ h => h) (Or.inr ⟨by kernel_rfl, rfl⟩) (by assumption) ?_
        (try simp only [Act.put, List.getElem_toArray, List.getElem_cons_zero, List.getElem_cons_succ, List.setIfInBounds_toArray, List.set_cons_zero, List.set_cons_succ])
        refine wpAnyH_take (i := 13) (v := undef) rfl (by kernel_rfl) (by kernel_rfl) (by kernel_rfl) (fun _ _ _ h => h) (Or.inr ⟨by kernel_rfl, rfl⟩) (by assumption) ?_
        (try simp only [Act.put, List.getElem_toArray, List.getElem_cons_zero, List.getElem_cons_succ, List.setIfInBounds_toArray, List.set_cons_zero, List.set_cons_succ])
        refine wpAnyH_take (i := 14) (v := undef) rfl (by kernel_rfl) (by kernel_rfl) (by kernel_rfl) (fun _ _ _ h => h) (Or.inr ⟨by kernel_rfl, rfl⟩) (by assumption) ?_
        (try simp only [Act.put, List.getElem_toArray, List.getElem_cons_zero, List.getElem_cons_succ, List.setIfInBounds_toArray, List.set_cons_zero, List.set_cons_succ])
        refine wpAnyH_take (i := 15) (v := undef) rfl (by kernel_rfl) (by kernel_rfl) (by kernel_rfl) (fun _ _ _ h => h) (Or.inr ⟨by kernel_rfl, rfl⟩) (by assumption) ?_
        (try simp only [Act.put, List.getElem_toArray, List.getElem_cons_zero, List.getElem_cons_succ, List.setIfInBounds_toArray, List.set_cons_zero, List.set_cons_succ])
        refine wpAnyH_take (i := 16) (v := undef) rfl (by kernel_rfl) (by kernel_rfl) (by kernel_rfl) (fun _ _ _ h => h) (Or.inr ⟨by kernel_rfl, rfl⟩) (by assumption) ?_
        (try simp only [Act.put, List.getElem_toArray, List.getElem_cons_zero, List.getElem_cons_succ, List.setIfInBounds_toArray, List.set_cons_zero, List.set_cons_succ])
        refine wpAnyH_take (i := 17) (v := .bool true) rfl (by kernel_rfl) (by kernel_rfl) (by kernel_rfl) (fun _ _ _ h => h) (Or.inl ⟨by kernel_rfl, fun w _ => by kernel_rfl⟩) (by assumption) ?_
        (try simp only [Act.put, List.getElem_toArray, List.getElem_cons_zero, List.getElem_cons_succ, List.setIfInBounds_toArray, List.set_cons_zero, List.set_cons_succ])
        refine wpAnyH_done (by kernel_rfl) ?_ _
        go_split_ands
        have hb9 : Hid (Below wo.heap.size wo w5) := hid (by assumption)
        go_wp2
        go_ret
        exact ⟨ret_int e3.out.symm, btrans hb0.out hb9.out⟩
    · obtain rfl : i = l.length := by omega
      have e1 := hid (lackL_no (l := l) (t := t) fun j hj => hall.out j hj hj)
      have e2 := hid (e0.out.trans (if_neg (by rw [e1.out]; decide)))
      go_wp2
      go_ret
      exact ⟨ret_int e2.out.symm, hbw⟩
end Go.Proofs.Ytcibkoodnfkogaa
