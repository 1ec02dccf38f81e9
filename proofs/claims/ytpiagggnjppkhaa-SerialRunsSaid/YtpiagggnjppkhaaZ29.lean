/- The document's machine: a new one. -/
import Derived.Test.YtpiagggnjppkhaaZ21
import Derived.Test.YtpiagggnjppkhaaZ24
import Derived.Test.YtpiagggnjppkhaaZ26
import Derived.Test.YtpiagggnjppkhaaZ28
namespace Go.Proofs.Ytpiagggnjppkhaa
open Go.RowKit
set_option linter.unusedVariables false
set_option linter.unusedSimpArgs false
theorem fill_step {n i : Nat} {r : List Int} (hi : i < r.length) (hn : r.length ≤ n) : (fillS n (r.take i)).set i r[i] = fillS n (r.take (i + 1)) := by
  apply List.ext_getElem?
  intro j
  unfold fillS
  have h1 : (r.take i).length = i := by rw [List.length_take]; omega
  have h2 : (r.take (i + 1)).length = i + 1 := by rw [List.length_take]; omega
  by_cases hj : j = i
  · subst hj
    rw [List.getElem?_set_self (by rw [List.length_append, h1, List.length_replicate]; omega), List.getElem?_append_left (by omega), List.getElem?_take, if_pos (by omega), List.getElem?_eq_getElem hi]
  · rw [List.getElem?_set_ne (Ne.symm hj)]
    by_cases hlt : j < i
    · rw [List.getElem?_append_left (by omega), List.getElem?_append_left (by omega), List.getElem?_take, List.getElem?_take, if_pos hlt, if_pos (by omega)]
    · rw [List.getElem?_append_right (by omega), List.getElem?_append_right (by omega), h1, h2, List.getElem?_replicate, List.getElem?_replicate]
      by_cases hj2 : j < n
      · rw [if_pos (by omega), if_pos (by omega)]
      · rw [if_neg (by omega), if_neg (by omega)]
theorem rnew_cells (A : Option Addr) (n cap : Nat) : Try.prog.built 108 [(0, .agg #[.slice A n cap])] = some ((List.range 302).map (mcell (.slice A n cap) (.slice none 0 0) zeroMc (lastX ⟨0, false, 0⟩))).toArray := by kernel_rfl
set_option maxHeartbeats 4000000 in
set_option maxRecDepth 100000 in
theorem fill_no (A1 A2 : Option Addr) (r mm : List Int) (c1 c2 : Nat) (g : Nat) (w : World) (h : 32 < r.length ∨ 256 < mm.length) (hr : r.length ≤ 17592186043904) (hm : mm.length ≤ 17592186043904) :
    Calls Try.prog 45 #[.agg #[.slice A1 r.length c1, .slice A2 mm.length c2], .pointer (some ⟨g, 1, none⟩), .pointer (some ⟨g, 33, none⟩)] w fun e w' => e = .returned (.bool false) ∧ Below w.heap.size w w' := by
  by_cases h3 : 32 < r.length
  · have h4 : (32 : Int) < (r.length : Int) := by omega
    clear h h3
    go_enter Try.func45, Try.ntmps45
    go_wp2
    go_ret
    refine ⟨rfl, ?_⟩
    ((with_reducible (repeat (first | assumption | exact Below.refl _ _ | refine bset ?_ (Nat.le_refl _) _ | refine balloc ?_ _ | refine bdrew ?_ | refine bdrewN ?_ _))); done)
  · have h4 : ¬ (32 : Int) < (r.length : Int) := by omega
    have h5 : (256 : Int) < (mm.length : Int) := by omega
    clear h h3
    go_enter Try.func45, Try.ntmps45
    go_wp2
    go_ret
    refine ⟨rfl, ?_⟩
    ((with_reducible (repeat (first | assumption | exact Below.refl _ _ | refine bset ?_ (Nat.le_refl _) _ | refine balloc ?_ _ | refine bdrew ?_ | refine bdrewN ?_ _))); done)
set_option maxHeartbeats 4000000 in
set_option maxRecDepth 100000 in
theorem fill_yes (A1 A2 : Option Addr) (r mm : List Int) (c1 c2 : Nat) (g : Nat) (P : Value) (x : Nat → Value) (w : World) (hr32 : r.length ≤ 32) (hm256 : mm.length ≤ 256) (hr : ∀ w', Below g w w' → NumsIn w' A1 r) (hm : ∀ w', Below g w w' → NumsIn w' A2 mm) (hc : FnAt w g 108 302 (mcell P (.slice none 0 0) zeroMc x)) :
    Calls Try.prog 45 #[.agg #[.slice A1 r.length c1, .slice A2 mm.length c2], .pointer (some ⟨g, 1, none⟩), .pointer (some ⟨g, 33, none⟩)] w fun e w' => e = .returned (.bool true) ∧ FnAt w' g 108 302 (mcell P (.slice none 0 0) (newM r mm) x) ∧ Trn g none w w' := by
  have h4 : ¬ (32 : Int) < (r.length : Int) := by omega
  have h5 : ¬ (256 : Int) < (mm.length : Int) := by omega
  have hgl := hc.lt
  have HR := hid hr
  have HM := hid hm
  have R0 : fillS 32 (r.take 0) = zeroMc.R := rfl
  obtain ⟨wa, hwa⟩ : ∃ wa : World, wa = w.alloc (.cells #[.slice A1 r.length c1, .slice A2 mm.length c2] 27) := ⟨_, rfl⟩
  have F0 : Hid (FnAt wa g 108 302 (mcell P (.slice none 0 0) { zeroMc with R := fillS 32 (r.take 0) } x)) := hid (by rw [R0, hwa]; exact hc.keep (balloc (Below.refl _ _) _))
  have T0 : Hid (Trn g none w wa) := hid (by rw [hwa]; exact (Trn.refl _ _ _).alloc _)
  have b0 : wa.cell? ⟨w.heap.size, 0, none⟩ = some (.slice A1 r.length c1) := by rw [hwa]; go_simp
  have b1 : wa.cell? ⟨w.heap.size, 1, none⟩ = some (.slice A2 mm.length c2) := by rw [hwa]; go_simp
  have hsa : wa.heap.size = w.heap.size + 1 := by rw [hwa]; simp
  have Z0 := hid b0
  have Z1 := hid b1
  clear hc hr hm R0 b0 b1
  go_enter Try.func45, Try.ntmps45
  go_upto_block 0 with (fail)
  rw [← hwa]
  replace hwa := hid hwa
  go_wp2_with fail
  go_loopg [7] r.length (fun gk v7 wr => ∃ (i : Nat), v7 = .int .i64 i ∧ i ≤ r.length ∧ Hid (gk + i = r.length) ∧ Hid (FnAt wr g 108 302 (mcell P (.slice none 0 0) { zeroMc with R := fillS 32 (r.take i) } x)) ∧ Hid (Trn g none wa wr))
  case atStart => exact ⟨0, rfl, Nat.zero_le _, by exact Nat.add_zero _, F0, hid (Trn.refl _ _ _)⟩
  case round =>
    obtain ⟨i, rfl, hi, hgk, hF, hT⟩ := hrel
    have hsr := hT.out.size
    have z0 : wr.cell? ⟨w.heap.size, 0, none⟩ = some (.slice A1 r.length c1) := (World.cell?_of_block (hT.out.block w.heap.size (by omega) (by omega) (by intro e; cases e))).trans Z0.out
    have hwr : w.heap.size < wr.heap.size := by omega
    have hgr : g < wr.heap.size := by omega
    by_cases hlt : i < r.length
    · have hij : (i : Int) < (r.length : Int) := by omega
      have hi0 : (0 : Int) ≤ (i : Int) := by omega
      have hi32 : (i : Int) < 32 := by omega
      obtain ⟨q, o, rfl, e0⟩ := (HR.out wr ((trn_below T0.out (by omega) (Nat.le_refl _) (fun k e => by cases e)).trans (trn_below hT.out (by omega) (Nat.le_refl _) (fun k e => by cases e)))).get i hlt
      have hq : q < wr.heap.size := World.block_lt_of_cell? wr _ e0
      have rd := mcR hF.out (by decide) i (by omega)
      have fd := hF.out.frozen (1 + i)
      have hst := hid (fill_step hlt hr32)
      generalize r[i] = y at *
      go_upto_region 6 with (fail)
      go_region
      all_goals
        go_wp2
        go_roundg (r.length - (i + 1))
        case measure => have := hgk.out; omega
        case rel =>
          have hfl : (fillS 32 (r.take i)).length = 32 := by unfold fillS; rw [List.length_append, List.length_take, List.length_replicate]; omega
          refine ⟨i + 1, by go_num, by omega, by show _ + _ = _; omega, hid ?_, hid (hT.out.drew.set _ _)⟩
          rw [← hst.out]
          exact ((hF.out.keep (bdrew (Below.refl _ _))).set (1 + i) (.int .i64 y)).congr fun k _ => mc_R _ _ { zeroMc with R := fillS 32 (r.take i) } x i y (by omega) hfl k
    · obtain rfl : i = r.length := by omega
      have hF2 : Hid (FnAt wr g 108 302 (mcell P (.slice none 0 0) { zeroMc with R := fillS 32 r, M := fillS 256 (mm.take 0) } x)) := hid (by have h := hF.out; rw [List.take_length] at h; exact h)
      rename World => wb
      have Tab := hT
      have T1 := hid (T0.out.trans hT.out (.inl rfl))
      have hsb : w.heap.size < wb.heap.size := hwr
      clear hF
      go_wp2_with fail
      go_loopg [8] mm.length (fun gk v8 wr => ∃ (i : Nat), v8 = .int .i64 i ∧ i ≤ mm.length ∧ Hid (gk + i = mm.length) ∧ Hid (FnAt wr g 108 302 (mcell P (.slice none 0 0) { zeroMc with R := fillS 32 r, M := fillS 256 (mm.take i) } x)) ∧ Hid (Trn g none wb wr))
      case atStart => exact ⟨0, rfl, Nat.zero_le _, by exact Nat.add_zero _, hF2, hid (Trn.refl _ _ _)⟩
      case round =>
        obtain ⟨i, rfl, hi, hgk, hF, hT⟩ := hrel
        rename World => wr
        have hsr := hT.out.size
        have z1 : wr.cell? ⟨w.heap.size, 1, none⟩ = some (.slice A2 mm.length c2) := (World.cell?_of_block ((Tab.out.trans hT.out (.inl rfl)).block w.heap.size (by omega) (by omega) (by intro e; cases e))).trans Z1.out
        have hwr : w.heap.size < wr.heap.size := by omega
        have hgr : g < wr.heap.size := by omega
        by_cases hlt : i < mm.length
        · have hij : (i : Int) < (mm.length : Int) := by omega
          have hi0 : (0 : Int) ≤ (i : Int) := by omega
          have hi32 : (i : Int) < 256 := by omega
          obtain ⟨q, o, rfl, e0⟩ := (HM.out wr ((trn_below T1.out (by omega) (Nat.le_refl _) (fun k e => by cases e)).trans (trn_below hT.out (by omega) (Nat.le_refl _) (fun k e => by cases e)))).get i hlt
          have hq : q < wr.heap.size := World.block_lt_of_cell? wr _ e0
          have rd := mcM hF.out (by decide) i (by omega)
          have fd := hF.out.frozen (33 + i)
          have hst := hid (fill_step hlt hm256)
          generalize mm[i] = y at *
          go_upto_region 10 with (fail)
          go_region
          all_goals
            go_wp2
            go_roundg (mm.length - (i + 1))
            case measure => have := hgk.out; omega
            case rel =>
              have hfl : (fillS 256 (mm.take i)).length = 256 := by unfold fillS; rw [List.length_append, List.length_take, List.length_replicate]; omega
              refine ⟨i + 1, by go_num, by omega, by show _ + _ = _; omega, hid ?_, hid (hT.out.drew.set _ _)⟩
              rw [← hst.out]
              exact ((hF.out.keep (bdrew (Below.refl _ _))).set (33 + i) (.int .i64 y)).congr fun k _ => mc_M _ _ { zeroMc with R := fillS 32 r, M := fillS 256 (mm.take i) } x i y (by omega) hfl k
        · obtain rfl : i = mm.length := by omega
          go_wp2
          go_ret
          exact ⟨rfl, by have h := hF.out; rw [List.take_length] at h; exact h, T1.out.trans hT.out (.inl rfl)⟩
/-- Behind New. -/
def RnewS (S : Nat → Prop) (A : Option Addr) (l : List Blk) (cap : Nat) (r mm : List Int) (w : World) (e : Ending) (w' : World) : Prop :=
  ∃ (g : Nat), e = .returned (.tuple #[.pointer (some ⟨g, 0, none⟩), .int .i64 0]) ∧
    Mach w' g 108 302 w'.heap.size S A l cap 2 (.slice none 0 0) (newM r mm) (lastX ⟨0, false, 0⟩) ∧ Below w.heap.size w w' ∧ w.heap.size ≤ g
set_option maxHeartbeats 4000000 in
set_option maxRecDepth 100000 in
theorem rnew_no (A : Option Addr) (l : List Blk) (cap : Nat) (A1 A2 : Option Addr) (r mm : List Int) (c1 c2 : Nat) (w : World) (hl : BlksIn w A l) (hw : ∀ b ∈ l, b.wf) (hm : l.length ≤ 9223372036854775807) (hr : r.length ≤ 17592186043904) (hmm : mm.length ≤ 17592186043904) (he : newE l r mm ≠ 0) :
    Calls Try.prog 13 #[.agg #[.slice A l.length cap], .agg #[.slice A1 r.length c1, .slice A2 mm.length c2]] w fun e w' => e = .returned (.tuple #[.pointer none, .int .i64 (newE l r mm)]) ∧ Below w.heap.size w w' := by
  have C1 := hid (fun (w' : World) (h : BlksIn w' A l) => rprg_check_any A l cap w' h hw hm)
  have HL := hid hl
  clear hl hw hm
  by_cases hp : prgE l = 0
  · have h2 : 32 < r.length ∨ 256 < mm.length := by
      unfold newE at he
      rw [if_pos hp] at he
      by_cases h : 32 < r.length ∨ 256 < mm.length
      · exact h
      · rw [if_neg h] at he; exact absurd rfl he
    have e1 : newE l r mm = 2 := by unfold newE; rw [if_pos hp, if_pos h2]
    have CF := hid (fun (w' : World) (g : Nat) => fill_no A1 A2 r mm c1 c2 g w' h2 hr hmm)
    rw [e1]
    rw [hp] at C1
    have hb0 := rnew_cells A l.length cap
    obtain ⟨MC, hMC⟩ : ∃ MC, MC = ((List.range 302).map (mcell (.slice A l.length cap) (.slice none 0 0) zeroMc (lastX ⟨0, false, 0⟩))).toArray := ⟨_, rfl⟩
    rw [← hMC] at hb0
    clear he e1 hp h2 hMC
    go_enter Try.func13, Try.ntmps13
    go_wp2_with fail
    with_reducible refine (C1.out _ (HL.out.keep ?_)).mono ?_
    · ((with_reducible (repeat (first | assumption | exact Below.refl _ _ | refine bset ?_ (Nat.le_refl _) _ | refine balloc ?_ _ | refine bdrew ?_ | refine bdrewN ?_ _))); done)
    rintro e w1 ⟨rfl, hb⟩
    have B1 := hid (btrans (a := w) (by ((with_reducible (repeat (first | assumption | exact Below.refl _ _ | refine bset ?_ (Nat.le_refl _) _ | refine balloc ?_ _ | refine bdrew ?_ | refine bdrewN ?_ _))); done)) hb)
    have p0 : w1.cell? ⟨w.heap.size, 0, none⟩ = some (.slice A l.length cap) := cell_keep (by go_simp) hb
    have z0 : w1.cell? ⟨w.heap.size + 1, 0, none⟩ = some (.slice A1 r.length c1) := cell_keep (by go_simp) hb
    have z1 : w1.cell? ⟨w.heap.size + 1, 1, none⟩ = some (.slice A2 mm.length c2) := cell_keep (by go_simp) hb
    have hz : w.heap.size + 1 < w1.heap.size := by have := hb.size; simp at this; omega
    have hz0 : w.heap.size < w1.heap.size := by omega
    clear hb
    go_upto_region 5 with (first | (with_reducible refine wpList_buildTo rfl 108 _ rfl _ rfl MC ?hf ?_) | (with_reducible refine wpList_boxTo rfl 108 _ rfl _ rfl w1.heap.size rfl MC ?hx ?_))
    clear hb0
    with_reducible refine still_tail_drew 7 (by kernel_rfl) (by kernel_rfl) ?_
    simp only [List.take_succ_cons, List.take_zero, List.drop_succ_cons, List.drop_zero]
    repeat (with_reducible refine wpStill_step (fun K hK => ?_); go_simp; with_reducible refine hK _ ?_; clear hK K)
    try with_reducible refine wpStill_nil ?_
    go_wp2_with fail
    with_reducible refine (CF.out _ _).mono ?_
    rintro e w2 ⟨rfl, hb⟩
    have B2 := hid (btrans (btrans B1.out (show Below w1.heap.size w1 _ by ((with_reducible (repeat (first | assumption | exact Below.refl _ _ | refine bset ?_ (Nat.le_refl _) _ | refine balloc ?_ _ | refine bdrew ?_ | refine bdrewN ?_ _))); done))) hb)
    clear hb
    go_wp2
    go_ret2
    exact ⟨rfl, B2.out⟩
  · have e1 : newE l r mm = prgE l := by unfold newE; rw [if_neg hp]
    rw [e1]
    have hpb : (prgE l == 0) = false := by simpa using hp
    have hpc : (prgE l != 0) = true := by simpa using hp
    clear he e1 hp
    generalize prgE l = pe at *
    go_enter Try.func13, Try.ntmps13
    go_wp2_with fail
    with_reducible refine (C1.out _ (HL.out.keep ?_)).mono ?_
    · ((with_reducible (repeat (first | assumption | exact Below.refl _ _ | refine bset ?_ (Nat.le_refl _) _ | refine balloc ?_ _ | refine bdrew ?_ | refine bdrewN ?_ _))); done)
    rintro e w1 ⟨rfl, hb⟩
    have B1 := hid (btrans (a := w) (by ((with_reducible (repeat (first | assumption | exact Below.refl _ _ | refine bset ?_ (Nat.le_refl _) _ | refine balloc ?_ _ | refine bdrew ?_ | refine bdrewN ?_ _))); done)) hb)
    clear hb
    go_wp2
    go_ret2
    exact ⟨rfl, B1.out⟩
set_option maxHeartbeats 4000000 in
set_option maxRecDepth 100000 in
theorem rnew_yes (S : Nat → Prop) (A : Option Addr) (l : List Blk) (cap : Nat) (A1 A2 : Option Addr) (r mm : List Int) (c1 c2 : Nat) (w : World) (hl : BlksIn w A l) (hS : BlksS S w A l) (hSb : ∀ b, S b → b < w.heap.size) (hw : ∀ b ∈ l, b.wf) (hcl : l.length ≤ cap) (hr : NumsIn w A1 r) (hmm : NumsIn w A2 mm) (he : newE l r mm = 0) :
    Calls Try.prog 13 #[.agg #[.slice A l.length cap], .agg #[.slice A1 r.length c1, .slice A2 mm.length c2]] w (RnewS S A l cap r mm w) := by
  have hp : prgE l = 0 := by
    unfold newE at he
    by_cases h : prgE l = 0
    · exact h
    · rw [if_neg h] at he; exact absurd he h
  have hlen : r.length ≤ 32 ∧ mm.length ≤ 256 := by
    unfold newE at he
    rw [if_pos hp] at he
    by_cases h : 32 < r.length ∨ 256 < mm.length
    · rw [if_pos h] at he; omega
    · omega
  have hok := prgE_ok hw hp
  have hl128 := hok.n1
  have C1 := hid (fun (w' : World) (h : BlksIn w' A l) => rprg_check_any A l cap w' h hw (by omega))
  rw [hp] at C1
  have CF := hid (fun (w' : World) (g : Nat) h1 h2 h3 => fill_yes A1 A2 r mm c1 c2 g (.slice A l.length cap) (lastX ⟨0, false, 0⟩) w' hlen.1 hlen.2 h1 h2 h3)
  have HL := hid hl
  have HR := hid hr
  have HM := hid hmm
  have hb0 := rnew_cells A l.length cap
  obtain ⟨MC, hMC⟩ : ∃ MC, MC = ((List.range 302).map (mcell (.slice A l.length cap) (.slice none 0 0) zeroMc (lastX ⟨0, false, 0⟩))).toArray := ⟨_, rfl⟩
  rw [← hMC] at hb0
  replace hMC := hid hMC
  have hcl2 := hid hcl
  have HS := hid hS
  have HSb := hid hSb
  clear hl hw hr hmm hok hp hlen he hcl hl128 hS hSb
  go_enter Try.func13, Try.ntmps13
  go_wp2_with fail
  with_reducible refine (C1.out _ (HL.out.keep ?_)).mono ?_
  · ((with_reducible (repeat (first | assumption | exact Below.refl _ _ | refine bset ?_ (Nat.le_refl _) _ | refine balloc ?_ _ | refine bdrew ?_ | refine bdrewN ?_ _))); done)
  rintro e w1 ⟨rfl, hb⟩
  have B1 := hid (btrans (a := w) (by ((with_reducible (repeat (first | assumption | exact Below.refl _ _ | refine bset ?_ (Nat.le_refl _) _ | refine balloc ?_ _ | refine bdrew ?_ | refine bdrewN ?_ _))); done)) hb)
  have p0 : w1.cell? ⟨w.heap.size, 0, none⟩ = some (.slice A l.length cap) := cell_keep (by go_simp) hb
  have z0 : w1.cell? ⟨w.heap.size + 1, 0, none⟩ = some (.slice A1 r.length c1) := cell_keep (by go_simp) hb
  have z1 : w1.cell? ⟨w.heap.size + 1, 1, none⟩ = some (.slice A2 mm.length c2) := cell_keep (by go_simp) hb
  have hz : w.heap.size + 1 < w1.heap.size := by have := hb.size; simp at this; omega
  have hz0 : w.heap.size < w1.heap.size := by omega
  clear hb
  go_upto_region 5 with (first | (with_reducible refine wpList_buildTo rfl 108 _ rfl _ rfl MC ?hf ?_) | (with_reducible refine wpList_boxTo rfl 108 _ rfl _ rfl w1.heap.size rfl MC ?hx ?_))
  clear hb0
  obtain ⟨g, hg⟩ : ∃ g, g = w1.heap.size := ⟨_, rfl⟩
  obtain ⟨w2, hw2⟩ : ∃ w2 : World, w2 = w1.alloc (.cells MC 108 (0, 0)) := ⟨_, rfl⟩
  rw [← hw2, ← hg]
  have F2 : Hid (FnAt w2 g 108 302 (mcell (.slice A l.length cap) (.slice none 0 0) zeroMc (lastX ⟨0, false, 0⟩))) := hid (by unfold FnAt; rw [hw2, hMC.out]; exact heap_new_at _ _ _ hg)
  have hb2 : Below w1.heap.size w1 w2 := by rw [hw2]; ((with_reducible (repeat (first | assumption | exact Below.refl _ _ | refine bset ?_ (Nat.le_refl _) _ | refine balloc ?_ _ | refine bdrew ?_ | refine bdrewN ?_ _))); done)
  have B2 := hid (btrans B1.out hb2)
  have z0 := cell_keep z0 hb2
  have z1 := cell_keep z1 hb2
  have hgw : w.heap.size ≤ g := by omega
  have hs2 : w2.heap.size = g + 1 := by rw [hw2, hg]; simp
  have hz2 : w.heap.size + 1 < w2.heap.size := by omega
  have hg2 : g < w2.heap.size := by omega
  replace hw2 := hid hw2
  replace hg := hid hg
  clear hMC
  with_reducible refine still_tail_drew 7 (by kernel_rfl) (by kernel_rfl) ?_
  simp only [List.take_succ_cons, List.take_zero, List.drop_succ_cons, List.drop_zero]
  repeat (with_reducible refine wpStill_step (fun K hK => ?_); go_simp; with_reducible refine hK _ ?_; clear hK K)
  try with_reducible refine wpStill_nil ?_
  go_wp2_with fail
  with_reducible refine (CF.out _ g ?_ ?_ ?_).mono ?_
  · exact fun w' hb => HR.out.keep ((bdrew B2.out).trans (hb.mono hgw))
  · exact fun w' hb => HM.out.keep ((bdrew B2.out).trans (hb.mono hgw))
  · exact F2.out.keep (bdrew (Below.refl _ _))
  rintro e w3 ⟨rfl, hF, hT⟩
  have F3 := hid hF
  have T3 := hid hT
  clear hF hT
  go_wp2
  go_ret2
  have hs3 := T3.out.size
  have hs3 : w2.heap.size ≤ w3.heap.size := hs3
  have hB3 : Below w.heap.size w w3 := below_trn (bdrew B2.out) T3.out (Nat.le_refl _) hgw
  refine ⟨g, rfl, ⟨F3.out, ?_, World.ownsRow_nil _ _ _ _, fun b hb => ⟨by have hb := HSb.out b hb; omega, by have hb := HSb.out b hb; omega⟩, by omega, Nat.le_refl _, hcl2.out, fun _ => rfl⟩, hB3, hgw⟩
  exact HS.out.same fun b hb => hB3.block b (HSb.out b hb)
end Go.Proofs.Ytpiagggnjppkhaa
