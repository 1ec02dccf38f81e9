/- A program that is cut behind a block: the walk. -/
import Derived.Test.YtcibkoodnfkogaaPrg17
import Derived.BigGuard
namespace Go.Proofs.Ytcibkoodnfkogaa
open Go.RowKit
set_option linter.unusedVariables false
set_option linter.unusedSimpArgs false
/-- Does a block turn beyond block n? -/
def beyB (n : Int) (b : Blk) : Bool := decide (n ≤ b.th) || decide (n ≤ b.el)
theorem blkE_zero {b : Blk} {m : Int} (h : blkE b m = 0) : allOk b.ops = true ∧ endB b m = true ∧ allOk b.body = true := by
  unfold blkE at h
  cases h1 : allOk b.ops <;> cases h2 : endB b m <;> cases h3 : allOk b.body <;> rw [h1, h2, h3] at h <;> simp at h ⊢
theorem fits_cut {x : Int} {c : Bool} {m n : Int} (h : fitsB x c m = true) (hn : 1 ≤ n) : fitsB x c n = !decide (n ≤ x) := by
  unfold fitsB at h ⊢
  cases c
  · simp only [Bool.false_eq_true, if_false, beq_iff_eq] at h ⊢
    subst h
    simp
    omega
  · simp only [if_true, Bool.and_eq_true, decide_eq_true_eq] at h ⊢
    rw [decide_eq_true h.1, Bool.true_and, ← decide_not]
    simp
theorem endB_cut {b : Blk} {m n : Int} (h : endB b m = true) (hn : 1 ≤ n) : endB b n = !beyB n b := by
  unfold endB at h ⊢
  simp only [Bool.and_eq_true] at h
  obtain ⟨⟨⟨⟨h0, h1⟩, h2⟩, h3⟩, h4⟩ := h
  rw [fits_cut h2 hn, fits_cut h3 hn, h1, h4, decide_eq_true (of_decide_eq_true h0.1), decide_eq_true (of_decide_eq_true h0.2)]
  unfold beyB
  cases decide (n ≤ b.th) <;> cases decide (n ≤ b.el) <;> rfl
theorem blkE_cut {b : Blk} {m n : Int} (h : blkE b m = 0) (hn : 1 ≤ n) : blkE b n = if beyB n b then 50 else 0 := by
  obtain ⟨h1, h2, h3⟩ := blkE_zero h
  unfold blkE
  rw [h1, h3, endB_cut h2 hn]
  cases beyB n b <;> rfl
theorem firstE_zero {m : Int} {l : List Blk} (h : firstE m l = 0) : ∀ b ∈ l, blkE b m = 0 := by
  induction l with
  | nil => intro b hb; cases hb
  | cons x l ih =>
    unfold firstE at h
    by_cases hx : blkE x m = 0
    · rw [if_pos hx] at h
      intro b hb
      rcases List.mem_cons.1 hb with rfl | hb
      · exact hx
      · exact ih h b hb
    · rw [if_neg hx] at h
      exact absurd h hx
theorem firstE_cut {m n : Int} {l : List Blk} (h : ∀ b ∈ l, blkE b m = 0) (hn : 1 ≤ n) : firstE n l = if l.any (beyB n) then 50 else 0 := by
  induction l with
  | nil => rfl
  | cons x l ih =>
    unfold firstE
    rw [blkE_cut (h x (List.mem_cons_self ..)) hn, ih fun b hb => h b (List.mem_cons_of_mem _ hb), List.any_cons]
    cases beyB n x <;> simp
theorem prgE_cut {l : List Blk} {n : Nat} (h : prgE l = 0) (h1 : 1 ≤ n) (h2 : n ≤ l.length) : prgE (l.take n) = if (l.take n).any (beyB n) then 50 else 0 := by
  have hz := prgE_len h
  have hm := sumB_mono n h2
  have hl : (l.take n).length = n := by simp; omega
  unfold prgE
  rw [if_neg (by rw [hl]; omega), if_neg (by omega), hl]
  refine firstE_cut (m := l.length) (fun b hb => firstE_zero ?_ b (List.mem_of_mem_take hb)) (by omega)
  unfold prgE at h
  rw [if_neg (by omega), if_neg (by omega)] at h
  exact h
theorem BlksIn.take {w : World} {A : Option Addr} {l : List Blk} (h : BlksIn w A l) (n : Nat) : BlksIn w A (l.take n) := fun hne => by
  obtain ⟨g, off, ha, hx⟩ := h (by rintro rfl; simp at hne)
  refine ⟨g, off, ha, fun i b hi => hx i b ?_⟩
  rw [List.getElem?_take] at hi
  split at hi
  · exact hi
  · cases hi
theorem any_snoc {l : List Blk} {f : Blk → Bool} {i : Nat} (hi : i < l.length) : (l.take (i + 1)).any f = ((l.take i).any f || f l[i]) := by
  rw [List.take_add_one, List.getElem?_eq_getElem hi, List.any_append]
  simp
set_option maxHeartbeats 4000000 in
set_option maxRecDepth 100000 in
theorem ProgramCut_walk (A : Option Addr) (l : List Blk) (c : Nat) (n : Int) (w : World) (hl : BlksIn w A l) (hw : ∀ b ∈ l, b.wf) (hc : l.length ≤ c) (hmx : c ≤ 1954687340000) :
    Calls Try.prog 10 #[.agg #[.slice A l.length c], .int .i64 n] w fun e w' => e = .returned (.bool true) ∧ Below w.heap.size w w' := by
  have CW := hid (fun w => wakes04_any w)
  have HL := hid hl
  by_cases h1 : n < 1
  · clear hl hw hc hmx
    go_enter Try.func10, Try.ntmps10
    go_wp2_with fail
    with_reducible refine (CW.out _).mono ?_
    rintro e w1 ⟨rfl, hb⟩
    go_wp2_with fail
    go_ret
    exact ⟨rfl, btrans (a := w) (by ((with_reducible (repeat (first | assumption | exact Below.refl _ _ | refine bset ?_ (Nat.le_refl _) _ | refine balloc ?_ _ | refine bdrew ?_ | refine bdrewN ?_ _))); done)) hb⟩
  by_cases h2 : (l.length : Int) < n
  · clear hl hw hc hmx
    go_enter Try.func10, Try.ntmps10
    go_wp2_with fail
    with_reducible refine (CW.out _).mono ?_
    rintro e w1 ⟨rfl, hb⟩
    go_wp2_with fail
    go_ret
    exact ⟨rfl, btrans (a := w) (by ((with_reducible (repeat (first | assumption | exact Below.refl _ _ | refine bset ?_ (Nat.le_refl _) _ | refine balloc ?_ _ | refine bdrew ?_ | refine bdrewN ?_ _))); done)) hb⟩
  have C1 := hid (fun (w : World) (h : BlksIn w A l) => prg_check_any A l c w h hw (by omega))
  have h1b : 1 ≤ n := by omega
  have h2b : n ≤ (l.length : Int) := by omega
  have h1c : decide (n < 1) = false := decide_eq_false h1
  have h2c : decide ((l.length : Int) < n) = false := decide_eq_false h2
  by_cases hP : prgE l = 0
  case neg =>
    clear hl hw hc hmx h1 h2
    go_enter Try.func10, Try.ntmps10
    go_wp2_with fail
    with_reducible refine (C1.out _ (BlksIn.keep (w := w) HL.out ?_)).mono ?_
    · ((with_reducible (repeat (first | assumption | exact Below.refl _ _ | refine bset ?_ (Nat.le_refl _) _ | refine balloc ?_ _ | refine bdrew ?_ | refine bdrewN ?_ _))); done)
    rintro e w1 ⟨rfl, hb⟩
    go_wp2_with fail
    with_reducible refine (CW.out _).mono ?_
    rintro e w2 ⟨rfl, hb2⟩
    go_wp2_with fail
    go_ret
    exact ⟨rfl, btrans (btrans (a := w) (by ((with_reducible (repeat (first | assumption | exact Below.refl _ _ | refine bset ?_ (Nat.le_refl _) _ | refine balloc ?_ _ | refine bdrew ?_ | refine bdrewN ?_ _))); done)) hb) hb2⟩
  obtain ⟨m, rfl⟩ : ∃ m : Nat, n = m := ⟨n.toNat, by omega⟩
  rw [hP] at C1
  have hz := prgE_len hP
  have hml : m ≤ l.length := by omega
  have hlt0 : (l.take m).length = m := by simp; omega
  have hcut := prgE_cut hP (by omega) hml
  have hmono := sumB_mono m hml
  have C2 : Hid (∀ w : World, BlksIn w A (l.take m) → Calls Try.prog 35 #[.agg #[.slice A m c]] w fun e w' => e = .returned (.int .i64 (prgE (l.take m))) ∧ Below w.heap.size w w') := hid fun w h => by
    have := prg_check_any A (l.take m) c w h (fun b hb => hw b (List.mem_of_mem_take hb)) (by omega)
    rw [hlt0] at this
    exact this
  have C3 := hid (fun (w : World) (h : BlksIn w A l) => pops_any A l c w h hw (by omega))
  have C4 : Hid (∀ w : World, BlksIn w A (l.take m) → Calls Try.prog 40 #[.agg #[.slice A m c]] w fun e w' => e = .returned (.int .i64 ((m : Int) + (sumB (l.take m) : Nat))) ∧ Below w.heap.size w w') := hid fun w h => by
    have := pops_any A (l.take m) c w h (fun b hb => hw b (List.mem_of_mem_take hb)) (by omega)
    rw [hlt0] at this
    exact this
  rw [hcut] at C2
  have HW := hid hw
  have hq1 : (1 : Int) ≤ (l.length : Int) + (sumB l : Nat) := by omega
  have hq2 : (l.length : Int) + (sumB l : Nat) ≤ 1024 := by omega
  have hq3 : (m : Int) + (sumB (l.take m) : Nat) ≤ (l.length : Int) + (sumB l : Nat) := by omega
  have hq4 : (0 : Int) ≤ (m : Int) + (sumB (l.take m) : Nat) := by omega
  generalize (l.length : Int) + ((sumB l : Nat) : Int) = q at C3 hq1 hq2 hq3
  generalize (m : Int) + ((sumB (l.take m) : Nat) : Int) = p at C4 hq3 hq4
  have HM := hid hml
  have hmc : m ≤ c := by omega
  have hmi : (m : Int) ≤ (c : Int) := by omega
  have hcl : (l.length : Int) ≤ (c : Int) := by omega
  clear hl hw h1 h2 hP hz hcut hmono hlt0 hml
  have hl8 : (l.length : Int) ≤ 1954687340000 := by omega
  go_enter Try.func10, Try.ntmps10
  go_wp2_with fail
  with_reducible refine (C1.out _ (BlksIn.keep (w := w) HL.out ?_)).mono ?_
  · ((with_reducible (repeat (first | assumption | exact Below.refl _ _ | refine bset ?_ (Nat.le_refl _) _ | refine balloc ?_ _ | refine bdrew ?_ | refine bdrewN ?_ _))); done)
  rintro e w1 ⟨rfl, hb⟩
  have B1 := hid (btrans (a := w) (by ((with_reducible (repeat (first | assumption | exact Below.refl _ _ | refine bset ?_ (Nat.le_refl _) _ | refine balloc ?_ _ | refine bdrew ?_ | refine bdrewN ?_ _))); done)) hb)
  have kA : w1.cell? ⟨w.heap.size, 0, none⟩ = some (.slice A l.length c) := cell_keep (by simp) hb
  have hz1 := World.block_lt_of_cell? w1 _ kA
  clear hb
  go_wp2_with fail
  go_loopg [6, 7] m (fun g v6 v wr => ∃ i : Nat, i ≤ m ∧ v = .int .i64 i ∧ v6 = .bool ((l.take i).any (beyB m)) ∧ Hid (g + i = m) ∧ wr.cell? ⟨w.heap.size, 0, none⟩ = some (.slice A l.length c) ∧ wr.cell? ⟨w1.heap.size, 0, none⟩ = some (.slice A m c) ∧ Below w.heap.size w wr)
  case atStart =>
    refine ⟨0, by omega, rfl, by simp, by exact Nat.add_zero _, ?_, ?_, btrans B1.out (balloc (Below.refl _ _) _)⟩
    · exact cell_keep kA (balloc (Below.refl _ _) _)
    · simp
  case round =>
    obtain ⟨i, hi, rfl, rfl, hg, hcA, hcM, hbw⟩ := hrel
    have hgw : w.heap.size < wr.heap.size := World.block_lt_of_cell? wr _ hcA
    have hgw1 : w1.heap.size < wr.heap.size := World.block_lt_of_cell? wr _ hcM
    by_cases hlt : i < m
    · have hil : i < l.length := by have := HM.out; omega
      obtain ⟨g, off, rfl, hop⟩ := (BlksIn.keep HL.out hbw).get i hil
      obtain ⟨B, c1, B2, c2, k0, k1, k2, k3, k4, k5, o1, o2, _, _⟩ := hop
      clear o1 o2
      have hwf := HW.out l[i] (List.getElem_mem hil)
      have m0 := hwf.m0
      have m1 := hwf.m1
      have hgs : g < wr.heap.size := World.block_lt_of_cell? wr _ k0
      have hb0 := hid hbw
      clear hbw hwf
      have hij : (i : Int) < (l.length : Int) := by omega
      have him : (i : Int) < (m : Int) := by omega
      have hi0 : (0 : Int) ≤ (i : Int) := by omega
      have hst := any_snoc (f := beyB m) hil
      unfold beyB at hst
      cases h0 : (l.take i).any (beyB m)
      · unfold beyB at h0
        cases h1 : decide ((m : Int) ≤ l[i].th)
        · cases h2 : decide ((m : Int) ≤ l[i].el)
          · rw [h0, h1, h2] at hst
            replace hst := hid hst
            go_wp2
            go_roundg (m - (i + 1))
            case measure => have := hg.out; omega
            case rel =>
              refine ⟨i + 1, by omega, by go_num, by unfold beyB; rw [hst.out]; rfl, by show _ + _ = _; omega, cell_keep hcA (balloc (Below.refl _ _) _), cell_keep hcM (balloc (Below.refl _ _) _), ?_⟩
              exact btrans hb0.out (balloc (Below.refl _ _) _)
          · rw [h0, h1, h2] at hst
            replace hst := hid hst
            go_wp2
            go_roundg (m - (i + 1))
            case measure => have := hg.out; omega
            case rel =>
              refine ⟨i + 1, by omega, by go_num, by unfold beyB; rw [hst.out]; rfl, by show _ + _ = _; omega, cell_keep hcA (balloc (Below.refl _ _) _), cell_keep hcM (balloc (Below.refl _ _) _), ?_⟩
              exact btrans hb0.out (balloc (Below.refl _ _) _)
        · rw [h0, h1] at hst
          replace hst := hid hst
          go_wp2
          go_roundg (m - (i + 1))
          case measure => have := hg.out; omega
          case rel =>
            refine ⟨i + 1, by omega, by go_num, by unfold beyB; rw [hst.out]; rfl, by show _ + _ = _; omega, cell_keep hcA (balloc (Below.refl _ _) _), cell_keep hcM (balloc (Below.refl _ _) _), ?_⟩
            exact btrans hb0.out (balloc (Below.refl _ _) _)
      · unfold beyB at h0
        rw [h0] at hst
        replace hst := hid hst
        go_wp2
        go_roundg (m - (i + 1))
        case measure => have := hg.out; omega
        case rel =>
          refine ⟨i + 1, by omega, by go_num, by unfold beyB; rw [hst.out]; rfl, by show _ + _ = _; omega, cell_keep hcA (balloc (Below.refl _ _) _), cell_keep hcM (balloc (Below.refl _ _) _), ?_⟩
          exact btrans hb0.out (balloc (Below.refl _ _) _)
    · obtain rfl : i = m := by omega
      have hb0 := hid hbw
      have L0 := hid (BlksIn.keep HL.out hbw)
      clear hbw
      cases hB : (l.take i).any (beyB i)
      all_goals
        rw [hB] at C2
        simp only [if_true, Bool.false_eq_true, if_false] at C2
        go_wp2_with fail
        with_reducible refine (C3.out _ L0.out).mono ?_
        rintro e w3 ⟨rfl, hb⟩
        have B3 := hid (btrans hb0.out hb)
        have L3 := hid (L0.out.keep hb)
        have M3 := hid (L0.out.take i |>.keep hb)
        have kM := cell_keep hcM hb
        clear hb
        go_wp2_with fail
        with_reducible refine (C2.out _ M3.out).mono ?_
        rintro e w4 ⟨rfl, hb⟩
        have B4 := hid (btrans B3.out hb)
        have M4 := hid (M3.out.keep hb)
        have kM4 := cell_keep kM hb
        clear hb
        go_wp2_with fail
        with_reducible refine (C4.out _ M4.out).mono ?_
        rintro e w5 ⟨rfl, hb⟩
        have B5 := hid (btrans B4.out hb)
        clear hb
        go_wp2_with fail
        with_reducible refine (CW.out _).mono ?_
        rintro e w6 ⟨rfl, hb⟩
        go_wp2_with fail
        go_ret
        exact ⟨rfl, btrans B5.out hb⟩
end Go.Proofs.Ytcibkoodnfkogaa
