/- Trail: what was done, step by step. -/
import Derived.Test.YtpiagggnjppkhaaZ24
import Derived.Test.YtpiagggnjppkhaaZ19
import Derived.Test.YtpiagggnjppkhaaZ5
namespace Go.Proofs.Ytpiagggnjppkhaa
open Go.RowKit
set_option linter.unusedVariables false
set_option linter.unusedSimpArgs false
section
open Go.RowKit
def tagCells (t : List Tg) : List Value := t.flatMap Tg.cells
theorem tagCells_cons (t : Tg) (r : List Tg) : tagCells (t :: r) = t.cells ++ tagCells r := rfl
theorem tag_info : ∃ i z, Try.prog.info? 61 = some i ∧ i.zero = some z ∧ i.size = 4 ∧ i.bytes = 32 ∧ z.cells.size = 4 := by
  have h : (Try.prog.info? 61).map (fun i => (i.zero.map (·.cells.size), i.size, i.bytes)) = some (some 4, 4, 32) := by kernel_rfl
  cases hi : Try.prog.info? 61 with
  | none => rw [hi] at h; cases h
  | some i =>
    rw [hi] at h
    cases hz : i.zero with
    | none => rw [Option.map_some, hz] at h; cases h
    | some z =>
      rw [Option.map_some, hz] at h
      injection h with h
      injection h with h1 h2
      injection h1 with h1
      injection h2 with h2 h3
      exact ⟨i, z, rfl, hz, h2, h3, h1⟩
def clampT (n : Int) : Nat := (min (max n 0) 65536).toNat
/-- Another row grows: the machine stays. -/
theorem Went.far {w0 w w' : World} {r0 r : Option Nat} {g : Nat} {T : TypeId} {n B : Nat} {S : Nat → Prop} {A : Option Addr} {l : List Blk} {cap : Nat} {I : TypeId} {pv : Value} {m : Mc} {x : Nat → Value}
    (h : Went w0 r0 w g T n B S A l cap I pv m x) (hg : w.grownBy w' r) (hr : ∀ k, r = some k → B ≤ k ∧ w0.heap.size ≤ k ∧ pv.ownBlock ≠ some k) : Went w0 r0 w' g T n B S A l cap I pv m x := by
  have hB := h.mach.gB
  have hbw := h.mach.bw
  refine ⟨⟨h.mach.cells.grow hg fun e => by have := (hr _ e.symm).1; omega, h.mach.blks.same fun b hb => hg.block b (by have := (h.mach.sb b hb).1; omega) fun e => by have := (hr _ e.symm).1; have := (h.mach.sb b hb).1; omega, own_moved h.mach.own fun b e => hg.block b (own_ge h.mach.own b e).2 fun e2 => (hr b e2.symm).2.2 e, h.mach.sb, hB, Nat.le_trans hbw hg.size, h.mach.cl, h.mach.pn⟩, ?_, h.own⟩
  exact ⟨hg.os.trans h.trn.os, hg.tape.trans h.trn.tape, hg.output.trans h.trn.output, Nat.le_trans h.trn.size hg.size, fun k hk h1 h2 => (hg.block k (by have := h.trn.size; omega) fun e => by have := (hr k e.symm).2.1; omega).trans (h.trn.block k hk h1 h2)⟩
theorem own_base {w : World} {B B' : Nat} {e : TypeId} {s : Nat} {v : Value} {n : Nat} {xs : List Value} (h : w.ownsRow B e s v n xs) (hB : B' ≤ B) : w.ownsRow B' e s v n xs := by
  refine ⟨h.1, ?_⟩
  rcases h.2 with h | ⟨g, cap, cur, h1, h2, h3⟩
  · exact .inl h
  · exact .inr ⟨g, cap, cur, h1, Nat.le_trans hB h2, h3⟩
theorem own_slice {w : World} {B : Nat} {e : TypeId} {s : Nat} {v : Value} {n : Nat} {xs : List Value} (h : w.ownsRow B e s v n xs) : ∃ P c, v = .slice P n c := by
  rcases h.2 with ⟨h, h0⟩ | ⟨g, cap, cur, h, _⟩
  · exact ⟨_, _, by rw [h, h0]⟩
  · exact ⟨_, _, h⟩
def TrailS (l : List Blk) (m : Mc) (n : Int) (w : World) (e : Ending) (w' : World) : Prop :=
  ∃ v, e = .returned (.tuple #[v, .int .i64 0]) ∧ w'.ownsRow w.heap.size 61 4 v (tagsS l (clampT n) m).length (tagCells (tagsS l (clampT n) m)) ∧ Below w.heap.size w w'
set_option maxHeartbeats 4000000 in
set_option maxRecDepth 100000 in
theorem trail_yes (A0 : Option Addr) (l : List Blk) (cap0 : Nat) (A1 A2 : Option Addr) (r mm : List Int) (c1 c2 : Nat) (w : World) (hl : BlksIn w A0 l) (hw : ∀ b ∈ l, b.wf) (hr : NumsIn w A1 r) (hmm : NumsIn w A2 mm) (he : newE l r mm = 0) (hp : PrgOk l) (hok : (newM r mm).ok l) (n : Int) :
    Calls Try.prog 23 #[.agg #[.slice A0 l.length cap0], .agg #[.slice A1 r.length c1, .slice A2 mm.length c2], .int .i64 n] w (TrailS l (newM r mm) n w) := by
  have C0 := hid (fun w hl hr hm => new_yes A0 l cap0 A1 A2 r mm c1 c2 w hl hw hr hm he)
  have C1 := hid (fun (w' : World) (g B : Nat) (S : Nat → Prop) (A : Option Addr) (cap : Nat) (pv' : Value) (m' : Mc) (h : Mach w' g 106 322 B S A l cap 2 pv' m' doX) (hok : m'.ok l) (hst : m'.steps ≤ 10000000000000) => step_any h hp hok hst)
  obtain ⟨m, hm⟩ : ∃ m, m = newM r mm := ⟨_, rfl⟩
  rw [← hm] at hok ⊢
  have hm0 : Hid (m.blk = 0 ∧ m.body = false ∧ m.pos = 0 ∧ m.steps = 0) := hid (by rw [hm]; exact ⟨rfl, rfl, rfl, rfl⟩)
  replace hm := hid hm
  have HL := hid hl
  have HR := hid hr
  have HM := hid hmm
  have HO := hid hok
  have HP := hid hp
  obtain ⟨N, hN⟩ : ∃ N, N = clampT n := ⟨_, rfl⟩
  have hcl : (N : Int) = min (max n 0) 65536 := by rw [hN]; unfold clampT; omega
  have hcl2 : N ≤ 65536 := by rw [hN]; unfold clampT; omega
  have hif : min (max n 0) 65536 = (N : Int) := hcl.symm
  have HN := hid hN
  clear hl hr hmm hw he hok hp hcl hN
  go_enter Try.func23, Try.ntmps23
  go_wp2_with fail
  with_reducible refine (C0.out _ (HL.out.keep ?_) (HR.out.keep ?_) (HM.out.keep ?_)).mono ?_
  · ((with_reducible (repeat (first | assumption | exact Below.refl _ _ | refine bset ?_ (Nat.le_refl _) _ | refine balloc ?_ _ | refine bdrew ?_ | refine bdrewN ?_ _))); done)
  · ((with_reducible (repeat (first | assumption | exact Below.refl _ _ | refine bset ?_ (Nat.le_refl _) _ | refine balloc ?_ _ | refine bdrew ?_ | refine bdrewN ?_ _))); done)
  · ((with_reducible (repeat (first | assumption | exact Below.refl _ _ | refine bset ?_ (Nat.le_refl _) _ | refine balloc ?_ _ | refine bdrew ?_ | refine bdrewN ?_ _))); done)
  rintro e w1 ⟨g, A, cap, rfl, hM, hb, hwg⟩
  rw [← hm.out] at hM
  have hwg2 : w.heap.size ≤ g := by (try simp at hwg); omega
  have p0 : w1.cell? ⟨g, 289, none⟩ = some (.int .i64 0) := by rw [hm.out] at hM; exact hM.cells.cell 289 (by decide)
  have p1 : w1.cell? ⟨g, 290, none⟩ = some (.bool false) := by rw [hm.out] at hM; exact hM.cells.cell 290 (by decide)
  have p2 : w1.cell? ⟨g, 291, none⟩ = some (.int .i64 0) := by rw [hm.out] at hM; exact hM.cells.cell 291 (by decide)
  obtain ⟨S, hM⟩ : ∃ S, Mach w1 g 106 322 w1.heap.size S A l cap 2 (.slice none 0 0) m doX := ⟨_, hM⟩
  have B1 := hid (btrans (a := w) (by ((with_reducible (repeat (first | assumption | exact Below.refl _ _ | refine bset ?_ (Nat.le_refl _) _ | refine balloc ?_ _ | refine bdrew ?_ | refine bdrewN ?_ _))); done)) hb)
  have M1 := hid hM
  have hgl : g < w1.heap.size := hM.cells.lt
  clear hM hb
  go_upto_block 0 with (fail)
  (try rw [hif])
  obtain ⟨w2, hw2⟩ : ∃ w2 : World, w2 = w1.alloc (.cells #[.int .i64 0, .bool false, .int .i64 0] 104 (0, 0)) := ⟨_, rfl⟩
  rw [← hw2]
  have hb2 : Below w1.heap.size w1 w2 := by rw [hw2]; exact balloc (Below.refl _ _) _
  have hs2 : w2.heap.size = w1.heap.size + 1 := by rw [hw2]; simp
  have s0 : w2.cell? ⟨w1.heap.size, 0, none⟩ = some (.int .i64 0) := by rw [hw2]; go_simp
  have s1 : w2.cell? ⟨w1.heap.size, 1, none⟩ = some (.bool false) := by rw [hw2]; go_simp
  have s2 : w2.cell? ⟨w1.heap.size, 2, none⟩ = some (.int .i64 0) := by rw [hw2]; go_simp
  have B2 := hid (btrans B1.out hb2)
  obtain ⟨B, hB⟩ : ∃ B, B = w2.heap.size := ⟨_, rfl⟩
  have hBa : B ≤ w2.heap.size := by omega
  have hBb : w2.heap.size ≤ B := by omega
  clear hB
  have M2 := hid ((M1.out.below hb2).raise (B' := B) (by omega) (by omega))
  have W2 := hid M2.out.went
  obtain ⟨ii, z, hii, hzz, h4, h32, hz4⟩ := tag_info
  have HI := hid hii
  have HZ := hid hzz
  have HU := hid (Try.underlying57)
  replace h4 := hid h4
  replace h32 := hid h32
  replace hz4 := hid hz4
  replace hw2 := hid hw2
  have hgB : g < B := by omega
  have hw1B : w1.heap.size < B := by omega
  have hb2s := hid hs2
  clear p0 p1 p2 M1 hb2 hii hzz hif B1 hs2
  go_cut [10] (fun v10 wx => ∃ (tv : Value) (n' : Nat) (mf : Mc) (pvf : Value), tv = v10 ∧ n' = (tagsS l N m).length ∧ Hid (wx.ownsRow B 61 4 tv n' (tagCells (tagsS l N m))) ∧ Hid (Went w2 none wx g 106 322 B S A l cap 2 pvf mf doX) ∧ Hid (n' = 0 → mf.blk = 0 ∧ mf.body = false ∧ mf.pos = 0))
  case first =>
    go_wp2_with fail
    go_loopg [10, 30] N (fun gk v10 v30 wr => ∃ (tv : Value) (i : Nat) (pvi : Value) (mi : Mc) (xs : List Value), tv = v10 ∧ i ≤ N ∧ v30 = .int .i64 i ∧ Hid (gk + i = N) ∧ Hid (Went w2 none wr g 106 322 B S A l cap 2 pvi mi doX) ∧ Hid (mi.ok l) ∧ Hid (mi.steps ≤ i) ∧ Hid (wr.ownsRow B 61 4 tv i xs) ∧ Hid (tagCells (tagsS l N m) = xs ++ tagCells (tagsS l (N - i) mi) ∧ (tagsS l N m).length = i + (tagsS l (N - i) mi).length) ∧ Hid (∀ k, tv.ownBlock = some k → pvi.ownBlock ≠ some k) ∧ Hid (i = 0 → mi = m))
    case atStart => exact ⟨.slice none 0 0, 0, .slice none 0 0, m, [], rfl, by omega, rfl, by exact Nat.add_zero _, W2, HO, hid (by rw [hm0.out.2.2.2]; exact Nat.le_refl _), hid (World.ownsRow_nil _ _ _ _), hid ⟨rfl, by simp⟩, hid (fun k e => by cases e), hid fun _ => rfl⟩
    case round =>
      obtain ⟨tv, i, pvi, mi, xs, rfl, hi, rfl, hg, hW, hoki, hsti, hrow, hdone, hne, hfirst⟩ := hrel
      have hown := own_ge hrow.out
      have hon : Hid (∀ (pv2 : Value) (w3 : World), OwnNew wr pvi.ownBlock pv2.ownBlock → ∀ k, tv.ownBlock = some k → pv2.ownBlock ≠ some k) := hid fun pv2 w3 ho k e e2 => by
        rcases ho with h | ⟨b, h, hb⟩
        · exact hne.out k e (by rw [← h]; exact e2)
        · rw [h] at e2
          injection e2 with e2
          have := (hown k e).2
          omega
      have hno := hid hown
      clear hown
      by_cases hlt : i < N
      · have hij : (i : Int) < (N : Int) := by omega
        cases hD : stepD l mi with
        | true =>
          have hdone2 : Hid (tagCells (tagsS l N m) = (xs ++ (stepT l mi).cells) ++ tagCells (tagsS l (N - (i + 1)) (stepM l mi)) ∧ (tagsS l N m).length = (i + 1) + (tagsS l (N - (i + 1)) (stepM l mi)).length) := hid (by
            have htg : tagsS l (N - i) mi = stepT l mi :: tagsS l (N - (i + 1)) (stepM l mi) := by
              rw [show N - i = (N - (i + 1)) + 1 by omega]
              show (if stepD l mi = true then _ else _) = _
              rw [if_pos hD]
            obtain ⟨e1, e2⟩ := hdone.out
            rw [htg] at e1 e2
            rw [tagCells_cons, ← List.append_assoc] at e1
            rw [List.length_cons] at e2
            exact ⟨e1, by omega⟩)
          go_wp2_with fail
          with_reducible refine (C1.out _ _ _ _ _ _ _ _ hW.out.mach hoki.out (by have := hsti.out; omega)).mono ?_
          rintro e w3 ⟨rfl, pv2, hw⟩
          rw [hD]
          have W3 := hid (hW.out.trans hw)
          have hne2 := hid (hon.out pv2 w3 hw.own)
          have row3 : Hid (w3.ownsRow B 61 4 tv i xs) := hid (own_moved hrow.out fun k e => hw.trn.block k (hno.out k e).2 (by have := (hno.out k e).1; omega) (fun e2 => hne.out k e e2.symm))
          have hB3 : B ≤ w3.heap.size := by have := W3.out.trn.size; omega
          generalize stepT l mi = tg at *
          obtain ⟨tb, tl, tp⟩ := tg
          unfold Tg.val
          clear hw
          go_wp2_with (at_builtin; go_loud (refine wpList_append_lies _ (by rfl) _ _ _ (by rfl) B 61 ii z 4 32 HU.out HI.out HZ.out h4.out h32.out hz4.out (by omega) tv i xs (by rfl) (own_below row3.out (by ((with_reducible (repeat (first | assumption | exact Below.refl _ _ | refine bset ?_ (Nat.le_refl _) _ | refine balloc ?_ _ | refine bdrew ?_ | refine bdrewN ?_ _))); done))) ⟨w3.heap.size + 1, 0, none⟩ 1 1 (Tg.cells ⟨tb, tl, tp⟩) (by rfl) (by rfl) (World.news_of_block (heap_new_at _ _ _ (by simp))) (by intro u hu; simp only [Tg.cells, List.mem_cons, List.not_mem_nil, or_false] at hu; rcases hu with rfl | rfl | rfl | rfl <;> rfl) (by omega) (by unfold maxLen; omega) (by omega) (by simp; omega) _ rfl ?_))
          intro g3 d3 w4 hown4 hgrow4 hat4 hlt4
          have W4 := hid (((W3.out.alloc _).alloc _).far hgrow4 fun k e => ⟨(own_ge row3.out k e).1, by have := (own_ge row3.out k e).1; omega, hne2.out k e⟩)
          have hne4 : Hid (∀ k, Value.ownBlock (.slice (some ⟨g3, 0, none⟩) (i + 1) d3) = some k → pv2.ownBlock ≠ some k) := hid fun k e e2 => by
            injection e with e
            have e : g3 = k := e
            subst e
            rcases hat4 with h | h
            · exact hne2.out _ h e2
            · have := (own_ge W3.out.mach.own _ e2).2
              (try simp at h)
              omega
          have R4 := hid hown4
          clear hown4 hgrow4 hat4 hlt4
          go_wp2
          go_roundg (N - (i + 1))
          case measure => have := hg.out; omega
          case rel => exact ⟨_, i + 1, pv2, stepM l mi, _, rfl, by omega, by go_num, by show _ + _ = _; omega, W4, hid (stepM_ok HP.out hoki.out), hid (by have := stepM_steps l mi; have := hsti.out; omega), R4, hdone2, hne4, hid (fun e => by omega)⟩
        | false =>
          have hdone2 : Hid (tagCells (tagsS l N m) = xs ∧ i = (tagsS l N m).length) := hid (by
            have htg : tagsS l (N - i) mi = [] := by
              rw [show N - i = (N - (i + 1)) + 1 by omega]
              unfold tagsS
              rw [hD]
              rfl
            obtain ⟨e1, e2⟩ := hdone.out
            rw [htg] at e1 e2
            exact ⟨by rw [e1]; exact List.append_nil _, by rw [e2]; simp⟩)
          have hpl : Hid (i = 0 → (stepM l mi).blk = 0 ∧ (stepM l mi).body = false ∧ (stepM l mi).pos = 0) := hid fun e => by
            obtain ⟨a, b, c⟩ := step_no_place hD
            have hmm0 := hm0.out
            rw [a, b, c, hfirst.out e]
            exact ⟨hmm0.1, hmm0.2.1, hmm0.2.2.1⟩
          go_wp2_with fail
          with_reducible refine (C1.out _ _ _ _ _ _ _ _ hW.out.mach hoki.out (by have := hsti.out; omega)).mono ?_
          rintro e w3 ⟨rfl, pv2, hw⟩
          rw [hD]
          have W3 := hid (hW.out.trans hw)
          have row3 : Hid (w3.ownsRow B 61 4 tv i (tagCells (tagsS l N m))) := hid (by rw [hdone2.out.1]; exact own_moved hrow.out fun k e => hw.trn.block k (hno.out k e).2 (by have := (hno.out k e).1; omega) (fun e2 => hne.out k e e2.symm))
          generalize stepT l mi = tg at *
          obtain ⟨tb, tl, tp⟩ := tg
          unfold Tg.val
          clear hw
          go_wp2
          go_meet
          case rel => exact ⟨tv, i, stepM l mi, pv2, rfl, hdone2.out.2, hid (own_below row3.out (balloc (Below.refl _ _) _)), hid (W3.out.alloc _), hpl⟩
      · obtain rfl : i = N := by omega
        have hdone2 : Hid (tagCells (tagsS l i m) = xs ∧ i = (tagsS l i m).length) := hid (by
          obtain ⟨e1, e2⟩ := hdone.out
          rw [Nat.sub_self] at e1 e2
          exact ⟨by rw [e1]; exact List.append_nil _, by rw [e2]; rfl⟩)
        go_wp2
        go_meet
        case rel => exact ⟨tv, i, mi, pvi, rfl, hdone2.out.2, hid (by rw [hdone2.out.1]; exact hrow.out), hW, hid fun e => by rw [hfirst.out e]; have := hm0.out; exact ⟨this.1, this.2.1, this.2.2.1⟩⟩
  case rest =>
    clear C1
    obtain ⟨tv, n', mf, pvf, rfl, hn', row, hW, hpl⟩ := hcut
    obtain ⟨wq, rfl⟩ : ∃ x : World, x = wc := ⟨_, rfl⟩
    have t0 : wq.cell? ⟨w1.heap.size, 0, none⟩ = some (.int .i64 0) := (World.cell?_of_block (hW.out.trn.block w1.heap.size (by omega) (by omega) (by intro e; cases e))).trans s0
    have t1 : wq.cell? ⟨w1.heap.size, 1, none⟩ = some (.bool false) := (World.cell?_of_block (hW.out.trn.block w1.heap.size (by omega) (by omega) (by intro e; cases e))).trans s1
    have t2 : wq.cell? ⟨w1.heap.size, 2, none⟩ = some (.int .i64 0) := (World.cell?_of_block (hW.out.trn.block w1.heap.size (by omega) (by omega) (by intro e; cases e))).trans s2
    have hgq : g < wq.heap.size := by have := hW.out.trn.size; omega
    have hsq : w1.heap.size < wq.heap.size := by have := hW.out.trn.size; omega
    have hws := B2.out.size
    have hBe : w2.heap.size ≤ B := by omega
    have BQ : Hid (Below w.heap.size w wq) := hid ⟨hW.out.trn.os.trans B2.out.os, hW.out.trn.tape.trans B2.out.tape, hW.out.trn.output.trans B2.out.output, by have := hW.out.trn.size; omega, fun k hk => (hW.out.trn.block k (by omega) (by omega) (by intro e; cases e)).trans (B2.out.block k hk)⟩
    replace hn' := hid hn'
    obtain ⟨P, c, rfl⟩ := own_slice row.out
    have row0 := hid (own_base row.out (show w.heap.size ≤ B by omega))
    have hlast : Hid (TrailS l m n w (.returned (.tuple #[.slice P n' c, .int .i64 0])) wq.drew) := hid ⟨_, rfl, by rw [← HN.out, ← hn'.out]; exact own_below row0.out (bdrew (Below.refl _ _)), bdrew BQ.out⟩
    by_cases h0 : n' = 0
    · subst h0
      obtain ⟨b1, b2, b3⟩ := hpl.out rfl
      have q0 : wq.cell? ⟨g, 289, none⟩ = some (.int .i64 0) := by have := hW.out.mach.cells.cell 289 (by decide); unfold mcell at this; rw [b1] at this; exact this
      have q1 : wq.cell? ⟨g, 290, none⟩ = some (.bool false) := by have := hW.out.mach.cells.cell 290 (by decide); unfold mcell at this; rw [b2] at this; exact this
      have q2 : wq.cell? ⟨g, 291, none⟩ = some (.int .i64 0) := by have := hW.out.mach.cells.cell 291 (by decide); unfold mcell at this; rw [b3] at this; exact this
      clear hn' b1 b2 b3 row
      go_upto_region 12 with (fail)
      go_region
      all_goals
        go_wp2
        go_ret2
        exact hlast.out
    · have hn0 : ((n' : Int) == 0) = false := by simpa using h0
      have hn0' : ¬ ((n' : Int) = 0) := by omega
      go_upto_region 12 with (fail)
      go_region
      all_goals
        go_wp2
        go_ret2
        exact hlast.out
end
/- Two lists of numbers that are the same; Steps. -/
section
open Go.RowKit
set_option maxHeartbeats 4000000 in
set_option maxRecDepth 100000 in
theorem nums_same (A1 A2 : Option Addr) (l : List Int) (c1 c2 : Nat) (w : World) (h1 : NumsIn w A1 l) (h2 : NumsIn w A2 l) (hm : l.length ≤ 1000000000000000000) :
    Calls Try.prog 21 #[.slice A1 l.length c1, .slice A2 l.length c2] w fun e w' => e = .returned (.bool true) ∧ Below w.heap.size w w' := by
  have H1 := hid h1
  have H2 := hid h2
  clear h1 h2
  go_enter Try.func21, Try.ntmps21
  go_wp2
  go_loopg [13] l.length (fun g v wr => ∃ i : Nat, i ≤ l.length ∧ v = .int .i64 i ∧ Hid (g + i = l.length) ∧ Below w.heap.size w wr)
  case atStart => exact ⟨0, by omega, rfl, by exact Nat.add_zero _, Below.refl _ _⟩
  case round =>
    obtain ⟨i, hi, rfl, hg, hbw⟩ := hrel
    by_cases hlt : i < l.length
    · obtain ⟨g1, o1, rfl, k1⟩ := (H1.out.keep hbw).get i hlt
      obtain ⟨g2, o2, rfl, k2⟩ := (H2.out.keep hbw).get i hlt
      have hij : (i : Int) < (l.length : Int) := by omega
      have hi0 : (0 : Int) ≤ (i : Int) := by omega
      have B0 := hid hbw
      generalize l[i] = x at *
      clear hbw
      go_wp2
      go_quiet (fail)
      go_wp2
      go_roundg (l.length - (i + 1))
      case measure => have := hg.out; omega
      case rel => exact ⟨i + 1, by omega, by go_num, by show _ + _ = _; omega, bdrewN B0.out _⟩
    · obtain rfl : i = l.length := by omega
      go_wp2
      go_ret
      exact ⟨rfl, hbw⟩
/-- Steps that are counted round. -/
def stepsN (n : Int) : Int := if 5000 < n then n % 5000 else n
theorem stepsN_le (n : Int) : stepsN n ≤ 5000 := by unfold stepsN; split <;> omega
theorem stepsN_ge (n : Int) (h : -9223372036854775808 ≤ n) : -9223372036854775808 ≤ stepsN n := by unfold stepsN; split <;> omega
set_option maxHeartbeats 4000000 in
set_option maxRecDepth 100000 in
theorem steps_any (n : Int) (w : World) (h0 : -9223372036854775808 ≤ n) (h1 : n ≤ 9223372036854775807) :
    Calls Try.prog 17 #[.int .i64 n] w fun e w' => e = .returned (.int .i64 (stepsN n)) ∧ w' = w := by
  by_cases h : 5000 < n
  · have e : stepsN n = n % 5000 := by unfold stepsN; rw [if_pos h]
    have e2 : n.tmod 5000 = n % 5000 := Int.tmod_eq_emod_of_nonneg (by omega)
    rw [e]
    go_enter Try.func17, Try.ntmps17
    go_wp2
    go_ret
    refine ⟨?_, rfl⟩
    first
      | rfl
      | (rw [e2]; done)
      | (rw [e2]; rfl)
  · have e : stepsN n = n := by unfold stepsN; rw [if_neg h]
    rw [e]
    go_enter Try.func17, Try.ntmps17
    go_wp2
    go_ret
    exact ⟨rfl, rfl⟩
/-- An outcome, by value. -/
def outV3 (e v : Int) (pr mem : Value) (st : Int) : Value := .agg #[.int .i64 e, .int .i64 v, pr, mem, .int .i64 st]
set_option maxHeartbeats 4000000 in
set_option maxRecDepth 100000 in
theorem like_same (A1 A2 A3 A4 : Option Addr) (p q : List Int) (c1 c2 c3 c4 : Nat) (e v st : Int) (w : World) (h1 : NumsIn w A1 p) (h2 : NumsIn w A2 p) (h3 : NumsIn w A3 q) (h4 : NumsIn w A4 q) (hp : p.length ≤ 1000000000000000000) (hq : q.length ≤ 1000000000000000000) :
    Calls Try.prog 15 #[.agg #[.int .i64 e, .int .i64 v, .slice A1 p.length c1, .slice A3 q.length c3, .int .i64 st], .agg #[.int .i64 e, .int .i64 v, .slice A2 p.length c2, .slice A4 q.length c4, .int .i64 st]] w fun e w' => e = .returned (.bool true) ∧ Below w.heap.size w w' := by
  have C1 := hid (fun w (h1 : NumsIn w A1 p) (h2 : NumsIn w A2 p) => nums_same A1 A2 p c1 c2 w h1 h2 hp)
  have C2 := hid (fun w (h1 : NumsIn w A3 q) (h2 : NumsIn w A4 q) => nums_same A3 A4 q c3 c4 w h1 h2 hq)
  have H1 := hid h1
  have H2 := hid h2
  have H3 := hid h3
  have H4 := hid h4
  have e1 : (e == e) = true := by simp
  have e2 : (v == v) = true := by simp
  have e3 : (st == st) = true := by simp
  clear h1 h2 h3 h4
  go_enter Try.func15, Try.ntmps15
  go_wp2_with fail
  with_reducible refine (C1.out _ (H1.out.keep ?_) (H2.out.keep ?_)).mono ?_
  · ((with_reducible (repeat (first | assumption | exact Below.refl _ _ | refine bset ?_ (Nat.le_refl _) _ | refine balloc ?_ _ | refine bdrew ?_ | refine bdrewN ?_ _))); done)
  · ((with_reducible (repeat (first | assumption | exact Below.refl _ _ | refine bset ?_ (Nat.le_refl _) _ | refine balloc ?_ _ | refine bdrew ?_ | refine bdrewN ?_ _))); done)
  rintro e w1 ⟨rfl, hb⟩
  have B1 := hid (btrans (a := w) (by ((with_reducible (repeat (first | assumption | exact Below.refl _ _ | refine bset ?_ (Nat.le_refl _) _ | refine balloc ?_ _ | refine bdrew ?_ | refine bdrewN ?_ _))); done)) hb)
  obtain ⟨hc, hf⟩ := bcell hb
  have hz := hb.size
  clear hb
  simp at hz
  have hz0 : w.heap.size < w1.heap.size := by omega
  have hz1 : w.heap.size + 1 < w1.heap.size := by omega
  go_wp2_with fail
  with_reducible refine (C2.out _ (H3.out.keep ?_) (H4.out.keep ?_)).mono ?_
  · exact B1.out
  · exact B1.out
  rintro e w2 ⟨rfl, hb⟩
  have B2 := hid (btrans B1.out hb)
  go_wp2
  go_ret
  exact ⟨rfl, B2.out⟩
end
end Go.Proofs.Ytpiagggnjppkhaa
