/- The document's machine: the trail. -/
import Derived.Test.YtpiagggnjppkhaaZ29
import Derived.Test.YtpiagggnjppkhaaZ27
namespace Go.Proofs.Ytpiagggnjppkhaa
open Go.RowKit
set_option linter.unusedVariables false
set_option linter.unusedSimpArgs false
section
open Go.RowKit
set_option maxHeartbeats 4000000 in
set_option maxRecDepth 100000 in
theorem rtrail_yes (A : Option Addr) (l : List Blk) (cap : Nat) (A1 A2 : Option Addr) (r mm : List Int) (c1 c2 : Nat) (w : World) (hl : BlksIn w A l) (hw : ∀ b ∈ l, b.wf) (hcl0 : l.length ≤ cap) (hr : NumsIn w A1 r) (hmm : NumsIn w A2 mm) (he : newE l r mm = 0) (hp : PrgOk l) (hok : (newM r mm).ok l) (n : Int) :
    Calls Try.prog 24 #[.agg #[.slice A l.length cap], .agg #[.slice A1 r.length c1, .slice A2 mm.length c2], .int .i64 n] w (TrailS l (newM r mm) n w) := by
  have C0 := hid (fun w hl hr hm => rnew_yes (fun b => b < w.heap.size) A l cap A1 A2 r mm c1 c2 w hl (blks_old hl) (fun _ h => h) hw hcl0 hr hm he)
  have C1 := hid (fun (w' : World) (g B : Nat) (S : Nat → Prop) (pv' : Value) (m' : Mc) (x' : Nat → Value) (h : Mach w' g 108 302 B S A l cap 2 pv' m' x') (hok : m'.ok l) (hst : m'.steps ≤ 10000000000000) => rstep_any h hp hok hst)
  obtain ⟨m, hm⟩ : ∃ m, m = newM r mm := ⟨_, rfl⟩
  rw [← hm] at hok ⊢
  have hm0 : Hid (m.steps = 0) := hid (by rw [hm]; rfl)
  replace hm := hid hm
  have HL := hid hl
  have HR := hid hr
  have HM := hid hmm
  have HO := hid hok
  have HP := hid hp
  obtain ⟨N, hN⟩ : ∃ N, N = clampT n := ⟨_, rfl⟩
  have hcl : (N : Int) = min (max n 0) 65536 := by rw [hN]; unfold clampT; omega
  have hcl2 : N ≤ 65536 := by rw [hN]; unfold clampT; omega
  have hif : (if 65536 < if n < 0 then 0 else n then (65536 : Int) else if n < 0 then 0 else n) = (N : Int) := by
    rw [hcl]
    repeat' split
    all_goals omega
  have hif2 : min (max n 0) 65536 = (N : Int) := hcl.symm
  have HN := hid hN
  clear hl hr hmm hw he hok hp hcl hN hcl0
  go_enter Try.func24, Try.ntmps24
  go_wp2_with fail
  with_reducible refine (C0.out _ (HL.out.keep ?_) (HR.out.keep ?_) (HM.out.keep ?_)).mono ?_
  · ((with_reducible (repeat (first | assumption | exact Below.refl _ _ | refine bset ?_ (Nat.le_refl _) _ | refine balloc ?_ _ | refine bdrew ?_ | refine bdrewN ?_ _))); done)
  · ((with_reducible (repeat (first | assumption | exact Below.refl _ _ | refine bset ?_ (Nat.le_refl _) _ | refine balloc ?_ _ | refine bdrew ?_ | refine bdrewN ?_ _))); done)
  · ((with_reducible (repeat (first | assumption | exact Below.refl _ _ | refine bset ?_ (Nat.le_refl _) _ | refine balloc ?_ _ | refine bdrew ?_ | refine bdrewN ?_ _))); done)
  rintro e w1 ⟨g, rfl, hM, hb, hwg⟩
  have B1 := hid (btrans (a := w) (by ((with_reducible (repeat (first | assumption | exact Below.refl _ _ | refine bset ?_ (Nat.le_refl _) _ | refine balloc ?_ _ | refine bdrew ?_ | refine bdrewN ?_ _))); done)) hb)
  rw [← hm.out] at hM
  have hwg2 : w.heap.size ≤ g := by (try simp at hwg); omega
  obtain ⟨S, hM⟩ : ∃ S, Mach w1 g 108 302 w1.heap.size S A l cap 2 (.slice none 0 0) m (lastX ⟨0, false, 0⟩) := ⟨_, hM⟩
  have hgl : g < w1.heap.size := hM.cells.lt
  obtain ⟨B, hB⟩ : ∃ B, B = w1.heap.size := ⟨_, rfl⟩
  rw [← hB] at hM
  have hBa : B ≤ w1.heap.size := by omega
  have hBb : w1.heap.size ≤ B := by omega
  clear hB
  have W2 := hid hM.went
  obtain ⟨ii, z, hii, hzz, h4, h32, hz4⟩ := tag_info
  have HI := hid hii
  have HZ := hid hzz
  have HU := hid (Try.underlying57)
  replace h4 := hid h4
  replace h32 := hid h32
  replace hz4 := hid hz4
  have hgB : g < B := by omega
  have hws := B1.out.size
  clear hM hb hii hzz
  go_upto_block 0 with (fail)
  (try rw [hif])
  (try rw [hif2])
  clear hif hif2
  go_cut [10] (fun v10 wx => ∃ (tv : Value) (n' : Nat) (mf : Mc) (pvf : Value) (xf : Nat → Value), tv = v10 ∧ n' = (tagsS l N m).length ∧ Hid (wx.ownsRow B 61 4 tv n' (tagCells (tagsS l N m))) ∧ Hid (Went w1 none wx g 108 302 B S A l cap 2 pvf mf xf))
  case first =>
    go_wp2_with fail
    go_loopg [10, 11] N (fun gk v10 v11 wr => ∃ (tv : Value) (i : Nat) (pvi : Value) (mi : Mc) (xi : Nat → Value) (xs : List Value), tv = v10 ∧ i ≤ N ∧ v11 = .int .i64 i ∧ Hid (gk + i = N) ∧ Hid (Went w1 none wr g 108 302 B S A l cap 2 pvi mi xi) ∧ Hid (mi.ok l) ∧ Hid (mi.steps ≤ i) ∧ Hid (wr.ownsRow B 61 4 tv i xs) ∧ Hid (tagCells (tagsS l N m) = xs ++ tagCells (tagsS l (N - i) mi) ∧ (tagsS l N m).length = i + (tagsS l (N - i) mi).length) ∧ Hid (∀ k, tv.ownBlock = some k → pvi.ownBlock ≠ some k))
    case atStart => exact ⟨.slice none 0 0, 0, .slice none 0 0, m, _, [], rfl, by omega, rfl, by exact Nat.add_zero _, W2, HO, hid (by rw [hm0.out]; exact Nat.le_refl _), hid (World.ownsRow_nil _ _ _ _), hid ⟨rfl, by simp⟩, hid (fun k e => by cases e)⟩
    case round =>
      obtain ⟨tv, i, pvi, mi, xi, xs, rfl, hi, rfl, hg, hW, hoki, hsti, hrow, hdone, hne⟩ := hrel
      have hown := own_ge hrow.out
      have hon : Hid (∀ (pv2 : Value) (w3 : World), OwnNew wr pvi.ownBlock pv2.ownBlock → ∀ k, tv.ownBlock = some k → pv2.ownBlock ≠ some k) := hid fun pv2 w3 ho k e e2 => by
        rcases ho with h | ⟨b, h, hb⟩
        · exact hne.out k e (by rw [← h]; exact e2)
        · rw [h] at e2
          injection e2 with e2
          have := (hown k e).2
          omega
      have hno := hid hown
      clear hown
      by_cases hlt : i < N
      · have hij : (i : Int) < (N : Int) := by omega
        go_wp2_with fail
        with_reducible refine (C1.out _ _ _ _ _ _ _ hW.out.mach hoki.out (by have := hsti.out; omega)).mono ?_
        rintro e w3 ⟨rfl, pv2, hw⟩
        have row3 : Hid (w3.ownsRow B 61 4 tv i xs) := hid (own_moved hrow.out fun k e => hw.trn.block k (hno.out k e).2 (by have := (hno.out k e).1; omega) (fun e2 => hne.out k e e2.symm))
        have hne2 := hid (hon.out pv2 w3 hw.own)
        have W3 := hid (hW.out.trans hw)
        clear hw
        cases hD : stepD l mi with
        | true =>
          rw [hD, if_pos rfl] at W3
          have hdone2 : Hid (tagCells (tagsS l N m) = (xs ++ (stepT l mi).cells) ++ tagCells (tagsS l (N - (i + 1)) (stepM l mi)) ∧ (tagsS l N m).length = (i + 1) + (tagsS l (N - (i + 1)) (stepM l mi)).length) := hid (by
            have htg : tagsS l (N - i) mi = stepT l mi :: tagsS l (N - (i + 1)) (stepM l mi) := by
              rw [show N - i = (N - (i + 1)) + 1 by omega]
              show (if stepD l mi = true then _ else _) = _
              rw [if_pos hD]
            obtain ⟨e1, e2⟩ := hdone.out
            rw [htg] at e1 e2
            rw [tagCells_cons, ← List.append_assoc] at e1
            rw [List.length_cons] at e2
            exact ⟨e1, by omega⟩)
          have hB3 : B ≤ w3.heap.size := by have := W3.out.trn.size; omega
          generalize stepT l mi = tg at *
          obtain ⟨tb, tl, tp⟩ := tg
          have q8 : w3.cell? ⟨g, 298, none⟩ = some (.int .i64 tb) := W3.out.mach.cells.cell 298 (by decide)
          have q9 : w3.cell? ⟨g, 299, none⟩ = some (.bool tl) := W3.out.mach.cells.cell 299 (by decide)
          have q10 : w3.cell? ⟨g, 300, none⟩ = some (.int .i64 tp) := W3.out.mach.cells.cell 300 (by decide)
          have q11 : w3.cell? ⟨g, 301, none⟩ = some (.bool false) := W3.out.mach.cells.cell 301 (by decide)
          have hg3 : g < w3.heap.size := by omega
          go_wp2_with (at_builtin; refine wpList_append_lies _ (by rfl) _ _ _ (by rfl) B 61 ii z 4 32 HU.out HI.out HZ.out h4.out h32.out hz4.out (by omega) tv i xs (by rfl) (own_below row3.out (by ((with_reducible (repeat (first | assumption | exact Below.refl _ _ | refine bset ?_ (Nat.le_refl _) _ | refine balloc ?_ _ | refine bdrew ?_ | refine bdrewN ?_ _))); done))) ⟨w3.heap.size, 0, none⟩ 1 1 (Tg.cells ⟨tb, tl, tp⟩) (by rfl) (by rfl) (World.news_of_block (heap_new_at _ _ _ (by simp))) (by intro u hu; simp only [Tg.cells, List.mem_cons, List.not_mem_nil, or_false] at hu; rcases hu with rfl | rfl | rfl | rfl <;> rfl) (by omega) (by unfold maxLen; omega) (by omega) (by simp; omega) _ rfl ?_)
          intro g3 d3 w4 hown4 hgrow4 hat4 hlt4
          have W4 := hid ((W3.out.alloc _).far hgrow4 fun k e => ⟨(own_ge row3.out k e).1, by have := (own_ge row3.out k e).1; omega, hne2.out k e⟩)
          have hne4 : Hid (∀ k, Value.ownBlock (.slice (some ⟨g3, 0, none⟩) (i + 1) d3) = some k → pv2.ownBlock ≠ some k) := hid fun k e e2 => by
            injection e with e
            have e : g3 = k := e
            subst e
            rcases hat4 with h | h
            · exact hne2.out _ h e2
            · have := (own_ge W3.out.mach.own _ e2).2
              (try simp at h)
              omega
          have R4 := hid hown4
          clear hown4 hgrow4 hat4 hlt4
          go_wp2
          go_roundg (N - (i + 1))
          case measure => have := hg.out; omega
          case rel => exact ⟨_, i + 1, pv2, stepM l mi, _, _, rfl, by omega, by go_num, by show _ + _ = _; omega, W4, hid (stepM_ok HP.out hoki.out), hid (by have := stepM_steps l mi; have := hsti.out; omega), R4, hdone2, hne4⟩
        | false =>
          have hdone2 : Hid (tagCells (tagsS l N m) = xs ∧ i = (tagsS l N m).length) := hid (by
            have htg : tagsS l (N - i) mi = [] := by
              rw [show N - i = (N - (i + 1)) + 1 by omega]
              unfold tagsS
              rw [hD]
              rfl
            obtain ⟨e1, e2⟩ := hdone.out
            rw [htg] at e1 e2
            exact ⟨by rw [e1]; exact List.append_nil _, by rw [e2]; simp⟩)
          go_wp2
          go_meet
          case rel => exact ⟨tv, i, stepM l mi, pv2, _, rfl, hdone2.out.2, hid (by rw [hdone2.out.1]; exact row3.out), W3⟩
      · obtain rfl : i = N := by omega
        have hdone2 : Hid (tagCells (tagsS l i m) = xs ∧ i = (tagsS l i m).length) := hid (by
          obtain ⟨e1, e2⟩ := hdone.out
          rw [Nat.sub_self] at e1 e2
          exact ⟨by rw [e1]; exact List.append_nil _, by rw [e2]; rfl⟩)
        go_wp2
        go_meet
        case rel => exact ⟨tv, i, mi, pvi, _, rfl, hdone2.out.2, hid (by rw [hdone2.out.1]; exact hrow.out), hW⟩
  case rest =>
    clear C1
    obtain ⟨tv, n', mf, pvf, xf, rfl, hn', row, hW⟩ := hcut
    replace hn' := hid hn'
    have BQ : Hid (Below w.heap.size w wc) := hid ⟨hW.out.trn.os.trans B1.out.os, hW.out.trn.tape.trans B1.out.tape, hW.out.trn.output.trans B1.out.output, by have := hW.out.trn.size; omega, fun k hk => (hW.out.trn.block k (by omega) (by omega) (by intro e; cases e)).trans (B1.out.block k hk)⟩
    have row0 := hid (own_base row.out (show w.heap.size ≤ B by omega))
    have hlast : Hid (TrailS l m n w (.returned (.tuple #[tv, .int .i64 0])) wc) := hid ⟨_, rfl, by rw [← HN.out, ← hn'.out]; exact row0.out, BQ.out⟩
    go_wp2
    go_ret2
    exact hlast.out
end
/- What was done is told step by step, as the document says, for every program, every state and every number of steps; no condition. -/
section
open Go.RowKit
theorem hid_drew {w w' : World} (h : Hid (Below w.heap.size w w')) : Hid (Below w.heap.size w w'.drew) := hid (bdrew h.out)
theorem below_hid {w w' w2 : World} (h : Hid (Below w.heap.size w w')) (hb : Below w'.heap.size w' w2) : Hid (Below w.heap.size w w2) := hid (btrans h.out hb)
set_option maxHeartbeats 4000000 in
set_option maxRecDepth 100000 in
theorem trail_no (A : Option Addr) (l : List Blk) (cap : Nat) (A1 A2 : Option Addr) (r mm : List Int) (c1 c2 : Nat) (w : World) (hl : BlksIn w A l) (hw : ∀ b ∈ l, b.wf) (hm : l.length ≤ 9223372036854775807) (hr : r.length ≤ 17592186043904) (hmm : mm.length ≤ 17592186043904) (he : newE l r mm ≠ 0) (n : Int) :
    Calls Try.prog 23 #[.agg #[.slice A l.length cap], .agg #[.slice A1 r.length c1, .slice A2 mm.length c2], .int .i64 n] w fun e w' => e = .returned (.tuple #[.slice none 0 0, .int .i64 (newE l r mm)]) ∧ Below w.heap.size w w' := by
  have C0 := hid (fun w hl => new_no A l cap A1 A2 r mm c1 c2 w hl hw hm hr hmm he)
  have hE : (newE l r mm != 0) = true := by simpa using he
  generalize newE l r mm = E at *
  have HL := hid hl
  clear hl hw hm hr hmm he
  go_enter Try.func23, Try.ntmps23
  go_wp2_with fail
  with_reducible refine (C0.out _ (HL.out.keep ?_)).mono ?_
  · ((with_reducible (repeat (first | assumption | exact Below.refl _ _ | refine bset ?_ (Nat.le_refl _) _ | refine balloc ?_ _ | refine bdrew ?_ | refine bdrewN ?_ _))); done)
  rintro e w1 ⟨rfl, hb⟩
  have B1 := hid (btrans (a := w) (by ((with_reducible (repeat (first | assumption | exact Below.refl _ _ | refine bset ?_ (Nat.le_refl _) _ | refine balloc ?_ _ | refine bdrew ?_ | refine bdrewN ?_ _))); done)) hb)
  clear hb
  go_wp2
  go_ret2
  exact ⟨rfl, B1.out⟩
set_option maxHeartbeats 4000000 in
set_option maxRecDepth 100000 in
theorem rtrail_no (A : Option Addr) (l : List Blk) (cap : Nat) (A1 A2 : Option Addr) (r mm : List Int) (c1 c2 : Nat) (w : World) (hl : BlksIn w A l) (hw : ∀ b ∈ l, b.wf) (hm : l.length ≤ 9223372036854775807) (hr : r.length ≤ 17592186043904) (hmm : mm.length ≤ 17592186043904) (he : newE l r mm ≠ 0) (n : Int) :
    Calls Try.prog 24 #[.agg #[.slice A l.length cap], .agg #[.slice A1 r.length c1, .slice A2 mm.length c2], .int .i64 n] w fun e w' => e = .returned (.tuple #[.slice none 0 0, .int .i64 (newE l r mm)]) ∧ Below w.heap.size w w' := by
  have C0 := hid (fun w hl => rnew_no A l cap A1 A2 r mm c1 c2 w hl hw hm hr hmm he)
  have hE : (newE l r mm != 0) = true := by simpa using he
  generalize newE l r mm = E at *
  have HL := hid hl
  clear hl hw hm hr hmm he
  go_enter Try.func24, Try.ntmps24
  go_wp2_with fail
  with_reducible refine (C0.out _ (HL.out.keep ?_)).mono ?_
  · ((with_reducible (repeat (first | assumption | exact Below.refl _ _ | refine bset ?_ (Nat.le_refl _) _ | refine balloc ?_ _ | refine bdrew ?_ | refine bdrewN ?_ _))); done)
  rintro e w1 ⟨rfl, hb⟩
  have B1 := hid (btrans (a := w) (by ((with_reducible (repeat (first | assumption | exact Below.refl _ _ | refine bset ?_ (Nat.le_refl _) _ | refine balloc ?_ _ | refine bdrew ?_ | refine bdrewN ?_ _))); done)) hb)
  clear hb
  go_wp2
  go_ret2
  exact ⟨rfl, B1.out⟩
/-- Tags in memory. -/
def TagsIn (w : World) (P : Option Addr) (l : List Tg) : Prop :=
  l ≠ [] → ∃ g off, P = some ⟨g, off, none⟩ ∧ ∀ i t, l[i]? = some t → w.cell? ⟨g, off + i * 4, none⟩ = some (.int .i64 t.blk) ∧ w.cell? ⟨g, off + i * 4 + 1, none⟩ = some (.bool t.loop) ∧ w.cell? ⟨g, off + i * 4 + 2, none⟩ = some (.int .i64 t.op) ∧ w.cell? ⟨g, off + i * 4 + 3, none⟩ = some (.bool false)
theorem TagsIn.keep {w w' : World} {P : Option Addr} {l : List Tg} (h : TagsIn w P l) (hb : Below w.heap.size w w') : TagsIn w' P l := fun hne => by
  obtain ⟨g, o, ha, hx⟩ := h hne
  exact ⟨g, o, ha, fun i t hi => ⟨cell_keep (hx i t hi).1 hb, cell_keep (hx i t hi).2.1 hb, cell_keep (hx i t hi).2.2.1 hb, cell_keep (hx i t hi).2.2.2 hb⟩⟩
theorem TagsIn.get {w : World} {P : Option Addr} {l : List Tg} (h : TagsIn w P l) (i : Nat) (hi : i < l.length) : ∃ g off, P = some ⟨g, off, none⟩ ∧ w.cell? ⟨g, off + i * 4, none⟩ = some (.int .i64 l[i].blk) ∧ w.cell? ⟨g, off + i * 4 + 1, none⟩ = some (.bool l[i].loop) ∧ w.cell? ⟨g, off + i * 4 + 2, none⟩ = some (.int .i64 l[i].op) ∧ w.cell? ⟨g, off + i * 4 + 3, none⟩ = some (.bool false) := by
  obtain ⟨g, o, ha, hx⟩ := h (by rintro rfl; simp at hi)
  exact ⟨g, o, ha, hx i _ (List.getElem?_eq_getElem hi)⟩
theorem tagCells_len (l : List Tg) : (tagCells l).length = l.length * 4 := by
  induction l with
  | nil => rfl
  | cons t r ih => rw [tagCells_cons, List.length_append, ih, List.length_cons]; simp [Tg.cells]; omega
theorem tagCells_get : ∀ {l : List Tg} {i : Nat} {t : Tg}, l[i]? = some t → ∀ j, j < 4 → (tagCells l)[i * 4 + j]? = t.cells[j]?
  | [], i, t, h, _, _ => by simp at h
  | a :: r, 0, t, h, j, hj => by
    simp only [List.getElem?_cons_zero, Option.some.injEq] at h
    subst h
    rw [tagCells_cons, Nat.zero_mul, Nat.zero_add, List.getElem?_append_left (by simp [Tg.cells]; omega)]
  | a :: r, i + 1, t, h, j, hj => by
    rw [List.getElem?_cons_succ] at h
    have e : (Tg.cells a).length = 4 := rfl
    rw [tagCells_cons, List.getElem?_append_right (by rw [e]; omega), e, show (i + 1) * 4 + j - 4 = i * 4 + j by omega]
    exact tagCells_get h j hj
theorem tags_in {w : World} {B : Nat} {v : Value} {n : Nat} {l : List Tg} (h : w.ownsRow B 61 4 v n (tagCells l)) (hn : n = l.length) : ∃ P c, v = .slice P l.length c ∧ TagsIn w P l := by
  subst hn
  by_cases h0 : l.length = 0
  · obtain rfl := List.eq_nil_of_length_eq_zero h0
    obtain ⟨P, c, rfl⟩ := own_slice h
    exact ⟨P, c, rfl, fun hne => absurd rfl hne⟩
  · obtain ⟨g, c, rfl, hb, hg⟩ := h.form (by omega)
    refine ⟨_, c, rfl, fun _ => ⟨g, 0, rfl, fun i t hi => ?_⟩⟩
    have hil := (List.getElem?_eq_some_iff.1 hi).1
    have hc : ∀ j, j < 4 → w.cell? ⟨g, 0 + i * 4 + j, none⟩ = t.cells[j]? := fun j hj => by
      rw [Nat.zero_add, h.cellAt _ (by omega)]
      exact tagCells_get hi j hj
    exact ⟨hc 0 (by omega), hc 1 (by omega), hc 2 (by omega), hc 3 (by omega)⟩
end
end Go.Proofs.Ytpiagggnjppkhaa
