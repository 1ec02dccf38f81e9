/- A new machine. -/
import Derived.Test.YtcibkoodnfkogaaY21
import Derived.Test.YtcibkoodnfkogaaY20
import Derived.Deep.RegionHeld3
namespace Go.Proofs.Ytcibkoodnfkogaa
open Go.RowKit
set_option linter.unusedVariables false
set_option linter.unusedSimpArgs false
def NewS (l : List Blk) (r mm : List Int) (w : World) (e : Ending) (w' : World) : Prop :=
  ∃ (g : Nat) (A : Option Addr) (cap : Nat), e = .returned (.tuple #[.pointer (some ⟨g, 0, none⟩), .int .i64 0]) ∧
    Mach w' g 158 322 w'.heap.size (fun b => g + 1 ≤ b ∧ b < w'.heap.size) A l cap 2 (.slice none 0 0) (newM r mm) doX ∧ Below w.heap.size w w' ∧ w.heap.size ≤ g
set_option maxHeartbeats 4000000 in
set_option maxRecDepth 100000 in
theorem new_yes (A : Option Addr) (l : List Blk) (cap : Nat) (A1 A2 : Option Addr) (r mm : List Int) (c1 c2 : Nat) (w : World) (hl : BlksIn w A l) (hw : ∀ b ∈ l, b.wf) (hr : NumsIn w A1 r) (hmm : NumsIn w A2 mm) (he : newE l r mm = 0) :
    Calls Try.prog 61 #[.agg #[.slice A l.length cap], .agg #[.slice A1 r.length c1, .slice A2 mm.length c2]] w (NewS l r mm w) := by
  have hp : prgE l = 0 := by
    unfold newE at he
    by_cases h : prgE l = 0
    · exact h
    · rw [if_neg h] at he; exact absurd he h
  have hlen : ¬ (32 < r.length ∨ 256 < mm.length) := fun h => by
    unfold newE at he
    rw [if_pos hp, if_pos h] at he
    omega
  have hok := prgE_ok hw hp
  have hl128 := hok.n1
  have C1 := hid (fun (w' : World) (h : BlksIn w' A l) => prg_check_any A l cap w' h hw (by omega))
  rw [hp] at C1
  have C2 := hid (fun w => doers_any w)
  have HL := hid hl
  have HR := hid hr
  have HM := hid hmm
  have HW := hid hok
  have h4 : ¬ (32 : Int) < (r.length : Int) := by omega
  have h5 : ¬ (256 : Int) < (mm.length : Int) := by omega
  have hr32 : r.length ≤ 32 := by omega
  have hm256 : mm.length ≤ 256 := by omega
  obtain ⟨DV, hDV⟩ : ∃ DV, DV = ((List.range 24).map doV).toArray := ⟨_, rfl⟩
  obtain ⟨MC, hMC⟩ : ∃ MC, MC = ((List.range 322).map (mcell (.slice none 0 0) (.slice none 0 0) zeroMc doX)).toArray := ⟨_, rfl⟩
  have hb0 := new_cells
  rw [← hDV, ← hMC] at hb0
  rw [← hDV] at C2
  clear hl hw hr hmm hok hp hlen he hDV
  replace hMC := hid hMC
  go_enter Try.func61, Try.ntmps61
  go_wp2_with fail
  with_reducible refine (C1.out _ (HL.out.keep ?_)).mono ?_
  · ((with_reducible (repeat (first | assumption | exact Below.refl _ _ | refine bset ?_ (Nat.le_refl _) _ | refine balloc ?_ _ | refine bdrew ?_ | refine bdrewN ?_ _))); done)
  rintro e w1 ⟨rfl, hb⟩
  have B1 := hid (btrans (a := w) (by ((with_reducible (repeat (first | assumption | exact Below.refl _ _ | refine bset ?_ (Nat.le_refl _) _ | refine balloc ?_ _ | refine bdrew ?_ | refine bdrewN ?_ _))); done)) hb)
  have p0 : w1.cell? ⟨w.heap.size, 0, none⟩ = some (.slice A l.length cap) := cell_keep (by go_simp) hb
  have z0 : w1.cell? ⟨w.heap.size + 1, 0, none⟩ = some (.slice A1 r.length c1) := cell_keep (by go_simp) hb
  have z1 : w1.cell? ⟨w.heap.size + 1, 1, none⟩ = some (.slice A2 mm.length c2) := cell_keep (by go_simp) hb
  have hz : w.heap.size + 1 < w1.heap.size := by have := hb.size; simp at this; omega
  have hz0 : w.heap.size < w1.heap.size := by omega
  clear hb
  go_wp2_with fail
  with_reducible refine (C2.out _).mono ?_
  rintro e w2 ⟨rfl, hb⟩
  have B2 := hid (btrans B1.out hb)
  replace p0 := cell_keep p0 hb
  replace z0 := cell_keep z0 hb
  replace z1 := cell_keep z1 hb
  have hs2 := hb.size
  replace hz : w.heap.size + 1 < w2.heap.size := by omega
  replace hz0 : w.heap.size < w2.heap.size := by omega
  clear hb C1 C2 B1 hs2
  go_upto_region 7 with (first | (with_reducible refine wpList_buildTo rfl 158 _ rfl _ rfl MC ?hf ?_) | (with_reducible refine wpList_boxTo rfl 158 _ rfl _ rfl w2.heap.size rfl MC ?hx ?_))
  obtain ⟨w3, hw3⟩ : ∃ w3 : World, w3 = w2.alloc (.cells MC 158) := ⟨_, rfl⟩
  obtain ⟨g, hg⟩ : ∃ g, g = w2.heap.size := ⟨_, rfl⟩
  have F3 : Hid (FnAt w3 g 158 322 (mcell (.slice none 0 0) (.slice none 0 0) zeroMc doX)) := hid (by
    unfold FnAt
    rw [hw3, ← hMC.out]
    exact heap_new_at _ _ _ hg)
  have K3 : Hid (Below w2.heap.size w2 w3) := hid (by rw [hw3]; exact balloc (Below.refl _ _) _)
  have hs3 : w3.heap.size = g + 1 := by rw [hw3, hg]; simp
  replace p0 := cell_keep p0 K3.out
  replace z0 := cell_keep z0 K3.out
  replace z1 := cell_keep z1 K3.out
  rw [← hg] at hz hz0 ⊢
  rw [← hw3]
  replace hg := hid hg
  clear hw3 hMC hb0
  have hz3 : w.heap.size < w3.heap.size := by omega
  go_wp2
  go_loopg [31] l.length (fun gk v wr => ∃ (i : Nat) (rv : Value) (xs : List Value), i ≤ l.length ∧ v = .int .i64 i ∧ Hid (gk + i = l.length) ∧ Hid (FnAt wr g 158 322 (mcell rv (.slice none 0 0) zeroMc doX)) ∧ Hid (wr.ownsRow (g + 1) 70 6 rv i xs) ∧ Hid (Rows6 wr (g + 1) rv.ownBlock (l.take i) xs) ∧ Hid (Below w2.heap.size w2 wr) ∧ Hid (g < wr.heap.size))
  case atStart => exact ⟨0, .slice none 0 0, [], by omega, rfl, by exact Nat.add_zero _, F3, hid (World.ownsRow_nil _ _ _ _), hid (fun j b hj => by simp at hj), K3, hid (by omega)⟩
  case round =>
    obtain ⟨i, rv, xs, hi, rfl, hgk, FG, hown, hrows, KB, hgs⟩ := hrel
    by_cases hlt : i < l.length
    · obtain ⟨q, off, rfl, hop⟩ := (BlksIn.keep HL.out (btrans B2.out (by exact KB.out))).get i hlt
      obtain ⟨Ba, ca, Bb, cb, k0, k1, k2, k3, k4, k5, o1, o2, lc, lc2, n1, n2⟩ := hop
      have hqs : q < wr.heap.size := World.block_lt_of_cell? wr _ k0
      have hij : (i : Int) < (l.length : Int) := by omega
      have hi0 : (0 : Int) ≤ (i : Int) := by omega
      have hgw := hgs.out
      have O1 := hid o1
      have O2 := hid o2
      have N1 := hid n1
      have N2 := hid n2
      have ml := HW.out.m0 _ (List.getElem_mem hlt)
      have ml2 := HW.out.m1 _ (List.getElem_mem hlt)
      clear o1 o2 n1 n2 lc lc2
      go_wp2_with (at_builtin; refine wpList_app_ops rfl _ _ rfl (g + 1) (wr.heap.size + 1) l[i].ops Ba ca rfl rfl (O1.out.keep (by ((with_reducible (repeat (first | assumption | exact Below.refl _ _ | refine bset ?_ (Nat.le_refl _) _ | refine balloc ?_ _ | refine bdrew ?_ | refine bdrewN ?_ _))); done))) N1.out (heap_new_at _ _ _ (by simp)) (by omega) (by simp; omega) (by omega) ?_)
      intro g1 d1 wa ho1 hl1 hg1 hs1 hb1 hk1 hat1
      have hw9 := hk1 wr.heap.size (by first | omega | (simp; done) | (simp; omega)) (by omega)
      have q0 : wa.cell? ⟨wr.heap.size, 0, none⟩ = some (.slice Ba l[i].ops.length ca) := (World.cell?_of_block (a := ⟨wr.heap.size, 0, none⟩) hw9).trans (by go_simp)
      have q1 : wa.cell? ⟨wr.heap.size, 1, none⟩ = some (.int .i8 l[i].en) := (World.cell?_of_block (a := ⟨wr.heap.size, 1, none⟩) hw9).trans (by go_simp)
      have q2 : wa.cell? ⟨wr.heap.size, 2, none⟩ = some (.int .u8 l[i].a) := (World.cell?_of_block (a := ⟨wr.heap.size, 2, none⟩) hw9).trans (by go_simp)
      have q3 : wa.cell? ⟨wr.heap.size, 3, none⟩ = some (.slice Bb l[i].body.length cb) := (World.cell?_of_block (a := ⟨wr.heap.size, 3, none⟩) hw9).trans (by go_simp)
      have q4 : wa.cell? ⟨wr.heap.size, 4, none⟩ = some (.int .i64 l[i].th) := (World.cell?_of_block (a := ⟨wr.heap.size, 4, none⟩) hw9).trans (by go_simp)
      have q5 : wa.cell? ⟨wr.heap.size, 5, none⟩ = some (.int .i64 l[i].el) := (World.cell?_of_block (a := ⟨wr.heap.size, 5, none⟩) hw9).trans (by go_simp)
      have f9 : ∀ j, wa.frozen? ⟨wr.heap.size, j, none⟩ = false := fun j => (World.frozen?_of_block (a := ⟨wr.heap.size, j, none⟩) hw9).trans (by go_simp)
      have hsa : wr.heap.size + 1 < wa.heap.size := by have := hb1.size; (try simp at this); omega
      have hsa0 : wr.heap.size < wa.heap.size := by omega
      have BR1 : Below wr.heap.size wr wa := ⟨hb1.os, hb1.tape, hb1.output, by omega, fun b hb => (hk1 b (by first | omega | (simp; done) | (simp; omega)) (by omega)).trans ((alloc_old _ _ (by first | omega | (simp; done) | (simp; omega))).trans (alloc_old _ _ hb))⟩
      have HO1 := hid ho1
      have HG1 := hid (⟨hl1, hg1, hs1, hat1⟩ : l[i].ops.length ≤ d1 ∧ g + 1 ≤ g1 ∧ g1 < wa.heap.size ∧ (g1 = wr.heap.size + 1 ∨ _))
      clear ho1 hl1 hat1 hk1 hb1 hw9
      go_wp2_with (at_builtin; refine wpList_app_ops rfl _ _ rfl (g + 1) wa.heap.size l[i].body Bb cb rfl rfl (O2.out.keep (by ((with_reducible (repeat (first | assumption | exact Below.refl _ _ | refine bset ?_ (Nat.le_refl _) _ | refine balloc ?_ _ | refine bdrew ?_ | refine bdrewN ?_ _))); done))) N2.out (heap_new_at _ _ _ (by simp)) (by omega) (by simp; omega) (by omega) ?_)
      intro g2 d2 wb ho2 hl2 hg2 hs2 hb2 hk2 hat2
      have hw9 := hk2 wr.heap.size (by first | omega | (simp; done) | (simp; omega)) (by first | omega | (simp; done) | (simp; omega))
      have r0 : wb.cell? ⟨wr.heap.size, 0, none⟩ = some (.slice (some ⟨g1, 0, none⟩) l[i].ops.length d1) := (World.cell?_of_block (a := ⟨wr.heap.size, 0, none⟩) hw9).trans (by go_simp)
      have r1 : wb.cell? ⟨wr.heap.size, 1, none⟩ = some (.int .i8 l[i].en) := (World.cell?_of_block (a := ⟨wr.heap.size, 1, none⟩) hw9).trans (by go_simp)
      have r2 : wb.cell? ⟨wr.heap.size, 2, none⟩ = some (.int .u8 l[i].a) := (World.cell?_of_block (a := ⟨wr.heap.size, 2, none⟩) hw9).trans (by go_simp)
      have r3 : wb.cell? ⟨wr.heap.size, 3, none⟩ = some (.slice Bb l[i].body.length cb) := (World.cell?_of_block (a := ⟨wr.heap.size, 3, none⟩) hw9).trans (by go_simp)
      have r4 : wb.cell? ⟨wr.heap.size, 4, none⟩ = some (.int .i64 l[i].th) := (World.cell?_of_block (a := ⟨wr.heap.size, 4, none⟩) hw9).trans (by go_simp)
      have r5 : wb.cell? ⟨wr.heap.size, 5, none⟩ = some (.int .i64 l[i].el) := (World.cell?_of_block (a := ⟨wr.heap.size, 5, none⟩) hw9).trans (by go_simp)
      have e9 : ∀ j, wb.frozen? ⟨wr.heap.size, j, none⟩ = false := fun j => (World.frozen?_of_block (a := ⟨wr.heap.size, j, none⟩) hw9).trans (by go_simp)
      have hsb : wa.heap.size < wb.heap.size := by have := hb2.size; (try simp at this); omega
      have hsb0 : wr.heap.size < wb.heap.size := by omega
      have hgb : g < wb.heap.size := by omega
      have hg1w : g1 ≠ wr.heap.size := by
        have h1 := HG1.out.2.2.2
        (try simp at h1)
        omega
      have HO1b : Hid (OpsIn wb (some ⟨g1, 0, none⟩) l[i].ops) := hid (HO1.out.far fun o => World.cell?_of_block (a := ⟨g1, o, none⟩) ((hk2 g1 (by have := HG1.out.2.2.1; first | omega | (simp; omega)) (by have := HG1.out.2.2.1; omega)).trans ((alloc_old _ _ (by have := HG1.out.2.2.1; simp; omega)).trans (heap_setCell_other _ _ _ _ (by show g1 ≠ wr.heap.size; exact hg1w)))))
      have BR2 : Below wr.heap.size wr wb := ⟨hb2.os.trans BR1.os, hb2.tape.trans BR1.tape, hb2.output.trans BR1.output, by omega, fun b hb => (hk2 b (by first | omega | (simp; done) | (simp; omega)) (by omega)).trans ((alloc_old _ _ (by simp; omega)).trans ((heap_setCell_other _ _ _ _ (by show b ≠ wr.heap.size; omega)).trans (BR1.block b hb)))⟩
      have HO2 := hid ho2
      have FB := hid (FG.out.same (BR2.block g hgw))
      have c0 : wb.cell? ⟨g, 0, none⟩ = some rv := FB.out.cell 0 (by decide)
      have fc0 := FB.out.frozen 0
      have OWb := hid (own_below hown.out BR2)
      have RWb := hid (hrows.out.below BR2)
      have HG2 := hid (And.intro hl2 (And.intro hg2 hs2))
      obtain ⟨ii, z, hii, hzz, h6, h72, hz6⟩ := blk_info
      have HI := hid hii
      have HZ := hid hzz
      have HU := hid (Try.underlying59)
      replace h6 := hid h6
      replace h72 := hid h72
      replace hz6 := hid hz6
      have hg2m : Hid (wr.heap.size ≤ g2) := hid (by
        have h1 := hat2
        (try simp at h1)
        omega)
      have hg2n : Hid (g2 ≠ wr.heap.size) := hid (by
        have h1 := hat2
        (try simp at h1)
        omega)
      clear hii hzz q0 q1 q2 q3 q4 q5 f9 hw9 ho2 hl2 hb2 hk2 hat2 k0 k1 k2 k3 k4 k5
      go_upto_region 12 with (fail)
      obtain ⟨w6, hw6⟩ : ∃ w6 : World, w6 = wb.setCell ⟨wr.heap.size, 3, none⟩ (.slice (some ⟨g2, 0, none⟩) l[i].body.length d2) := ⟨_, rfl⟩
      have s0 : w6.cell? ⟨wr.heap.size, 0, none⟩ = some (.slice (some ⟨g1, 0, none⟩) l[i].ops.length d1) := by rw [hw6]; exact set_other r0 (by simp)
      have s1 : w6.cell? ⟨wr.heap.size, 1, none⟩ = some (.int .i8 l[i].en) := by rw [hw6]; exact set_other r1 (by simp)
      have s2 : w6.cell? ⟨wr.heap.size, 2, none⟩ = some (.int .u8 l[i].a) := by rw [hw6]; exact set_other r2 (by simp)
      have s3 : w6.cell? ⟨wr.heap.size, 3, none⟩ = some (.slice (some ⟨g2, 0, none⟩) l[i].body.length d2) := by rw [hw6]; exact set_same r3
      have s4 : w6.cell? ⟨wr.heap.size, 4, none⟩ = some (.int .i64 l[i].th) := by rw [hw6]; exact set_other r4 (by simp)
      have s5 : w6.cell? ⟨wr.heap.size, 5, none⟩ = some (.int .i64 l[i].el) := by rw [hw6]; exact set_other r5 (by simp)
      have hs6 : w6.heap.size = wb.heap.size := by rw [hw6]; simp
      have hgr : wr.heap.size ≠ g := by omega
      have c6 : w6.cell? ⟨g, 0, none⟩ = some rv := by rw [hw6]; exact set_other c0 (by intro e; injection e with e; exact hgr e)
      have f6 : w6.frozen? ⟨g, 0, none⟩ = false := by rw [hw6]; exact set_frozen fc0
      have F6 := hid (show FnAt w6 g 158 322 (mcell rv (.slice none 0 0) zeroMc doX) by rw [hw6]; exact FB.out.other (by show g ≠ wr.heap.size; omega) _)
      have OW6 : Hid (w6.ownsRow (g + 1) 70 6 rv i xs) := hid (by
        rw [hw6]
        exact own_moved OWb.out fun b e => heap_setCell_other _ _ _ _ (by have := (own_ge hown.out b e).2; show b ≠ wr.heap.size; omega))
      have HNE : Hid (some g ≠ rv.ownBlock) := hid fun e => by
        have := (own_ge hown.out g e.symm).1
        omega
      rw [← hw6]
      rw [← hs6] at hsb hsb0 hgb
      clear r0 r1 r2 r3 r4 r5 e9 c0 fc0
      have hs6' := hid hs6
      clear hs6
      replace hw6 := hid hw6
      go_region_law ((refine step_append_lies _ (by rfl) _ _ _ (by rfl) (g + 1) 70 ii z 6 72 HU.out HI.out HZ.out h6.out h72.out hz6.out (by omega) rv i xs (by rfl) (own_below OW6.out (by ((with_reducible (repeat (first | assumption | exact Below.refl _ _ | refine bset ?_ (Nat.le_refl _) _ | refine balloc ?_ _ | refine bdrew ?_ | refine bdrewN ?_ _))); done))) ⟨w6.heap.size, 0, none⟩ 1 1 [.slice (some ⟨g1, 0, none⟩) l[i].ops.length d1, .int .i8 l[i].en, .int .u8 l[i].a, .slice (some ⟨g2, 0, none⟩) l[i].body.length d2, .int .i64 l[i].th, .int .i64 l[i].el] (by rfl) (by rfl) (World.news_of_block (heap_new_at _ _ _ (by simp))) (by intro u hu; simp only [List.mem_cons, List.not_mem_nil, or_false] at hu; rcases hu with rfl | rfl | rfl | rfl | rfl | rfl <;> rfl) (by omega) (by unfold maxLen; omega) (by omega) (by simp; omega) _ rfl ?_); intro g3 d3 w7 hown7 hgrow7 hat7 hlt7; have r7 := hgrow7.cell (cell_keep c6 (by ((with_reducible (repeat (first | assumption | exact Below.refl _ _ | refine bset ?_ (Nat.le_refl _) _ | refine balloc ?_ _ | refine bdrew ?_ | refine bdrewN ?_ _))); done))) HNE.out; have f7 := (hgrow7.frozen_far ⟨g, 0, none⟩ (by simp; omega) HNE.out).trans (frozen_keep f6 hgb (by ((with_reducible (repeat (first | assumption | exact Below.refl _ _ | refine bset ?_ (Nat.le_refl _) _ | refine balloc ?_ _ | refine bdrew ?_ | refine bdrewN ?_ _))); done))))
      all_goals
        have hown4 := own_ge hown.out
        have hk7 : ∀ b, b < w6.heap.size → some b ≠ rv.ownBlock → w7.heap[b]? = w6.heap[b]? := fun b hb hn => (hgrow7.block b (by simp; omega) hn).trans (alloc_old _ _ hb)
        have hk6 : ∀ b, b ≠ wr.heap.size → w6.heap[b]? = wb.heap[b]? := fun b hn => by rw [hw6.out]; exact heap_setCell_other _ _ _ _ hn
        have hs7 : w6.heap.size ≤ w7.heap.size := by have := hgrow7.size; (try simp at this); omega
        have hsb6 := hs6'.out
        have hnw : ∀ b, wr.heap.size ≤ b → some b ≠ rv.ownBlock := fun b hb e => by have := (hown4 b e.symm).2; omega
        have hg2b := HG2.out.2.2
        have hg1b := HG1.out.2.2.1
        have hg2w : g2 ≠ wr.heap.size := hg2n.out
        have hg1r : wr.heap.size ≤ g1 := by have h1 := HG1.out.2.2.2; (try simp at h1); omega
        have hg2r : wr.heap.size ≤ g2 := hg2m.out
        have O17 : OpsIn w7 (some ⟨g1, 0, none⟩) l[i].ops := HO1b.out.far fun o => World.cell?_of_block (a := ⟨g1, o, none⟩) ((hk7 g1 (by omega) (hnw g1 hg1r)).trans (hk6 g1 hg1w))
        have O27 : OpsIn w7 (some ⟨g2, 0, none⟩) l[i].body := HO2.out.far fun o => World.cell?_of_block (a := ⟨g2, o, none⟩) ((hk7 g2 (by omega) (hnw g2 hg2r)).trans (hk6 g2 hg2w))
        have hg3 : ∀ b, b < wb.heap.size → some b ≠ rv.ownBlock → some b ≠ some g3 := fun b hb hn e => by
          injection e with e
          subst e
          rcases hat7 with h | h
          · exact hn h.symm
          · simp at h
            omega
        have hrow7 : RowOf w7 (g + 1) (some g3) l[i] [.slice (some ⟨g1, 0, none⟩) l[i].ops.length d1, .int .i8 l[i].en, .int .u8 l[i].a, .slice (some ⟨g2, 0, none⟩) l[i].body.length d2, .int .i64 l[i].th, .int .i64 l[i].el] := ⟨g1, d1, g2, d2, rfl, O17, O27, HG1.out.1, HG2.out.1, HG1.out.2.1, HG2.out.2.1, by omega, by omega, hg3 g1 (by omega) (hnw g1 hg1r), hg3 g2 (by omega) (hnw g2 hg2r)⟩
        have hrows7 : Rows6 w7 (g + 1) (some g3) (l.take i) xs := hrows.out.far (by omega) (fun k o hk1 hk2 hk3 => World.cell?_of_block (a := ⟨k, o, none⟩) ((hk7 k (by omega) hk3).trans ((hk6 k (by omega)).trans (BR2.block k hk2)))) (fun k hk1 hk2 => hg3 k (by omega) hk2)
        have F7 : FnAt w7 g 158 322 (mcell rv (.slice none 0 0) zeroMc doX) := F6.out.same (hk7 g hgb HNE.out)
        have hgE := hg.out
        have w6os : w6.os = wb.os ∧ w6.tape = wb.tape ∧ w6.output = wb.output := by rw [hw6.out]; exact ⟨rfl, rfl, rfl⟩
        have KB2 : Hid (Below w2.heap.size w2 (w7.setCell ⟨g, 0, none⟩ (.slice (some ⟨g3, 0, none⟩) (i + 1) d3))) := hid ⟨hgrow7.os.trans (w6os.1.trans (BR2.os.trans KB.out.os)), hgrow7.tape.trans (w6os.2.1.trans (BR2.tape.trans KB.out.tape)), hgrow7.output.trans (w6os.2.2.trans (BR2.output.trans KB.out.output)), by rw [World.size_setCell]; have := KB.out.size; omega, fun b hb => (heap_setCell_other _ _ _ _ (by show b ≠ g; omega)).trans ((hk7 b (by omega) (fun e => by have := (hown4 b e.symm).1; omega)).trans ((hk6 b (by omega)).trans ((BR2.block b (by have := KB.out.size; omega)).trans (KB.out.block b hb))))⟩
        have RW2 : Hid (Rows6 (w7.setCell ⟨g, 0, none⟩ (.slice (some ⟨g3, 0, none⟩) (i + 1) d3)) (g + 1) (some g3) (l.take (i + 1)) (xs ++ [.slice (some ⟨g1, 0, none⟩) l[i].ops.length d1, .int .i8 l[i].en, .int .u8 l[i].a, .slice (some ⟨g2, 0, none⟩) l[i].body.length d2, .int .i64 l[i].th, .int .i64 l[i].el])) := hid (Rows6.snoc hlt (hrows7.far (by simp) (fun k o hk1 hk2 hk3 => World.cell?_setCell_far _ _ _ _ (by show g ≠ k; omega)) (fun _ _ h => h)) hown.out.1 (hrow7.far (by simp) (fun k o hk1 hk2 hk3 => World.cell?_setCell_far _ _ _ _ (by show g ≠ k; omega)) (fun _ _ h => h)))
        have OWN2 : Hid ((w7.setCell ⟨g, 0, none⟩ (.slice (some ⟨g3, 0, none⟩) (i + 1) d3)).ownsRow (g + 1) 70 6 (.slice (some ⟨g3, 0, none⟩) (i + 1) d3) (i + 1) (xs ++ [.slice (some ⟨g1, 0, none⟩) l[i].ops.length d1, .int .i8 l[i].en, .int .u8 l[i].a, .slice (some ⟨g2, 0, none⟩) l[i].body.length d2, .int .i64 l[i].th, .int .i64 l[i].el])) := hid (ownsRow_setCell_below hown7 (by show g < g + 1; omega) _)
        have FG2 : Hid (FnAt (w7.setCell ⟨g, 0, none⟩ (.slice (some ⟨g3, 0, none⟩) (i + 1) d3)) g 158 322 (mcell (.slice (some ⟨g3, 0, none⟩) (i + 1) d3) (.slice none 0 0) zeroMc doX)) := hid ((F7.set 0 _).congr fun k hk => by
          unfold mcell
          by_cases h0 : k = 0
          · subst h0; rfl
          · simp only [h0, if_false])
        have hgs7 : g < w7.heap.size := by omega
        clear hown4 hk7 hk6 hnw hg3 hrow7 hrows7 F7 O17 O27 w6os hown7 hgrow7 hat7 hgE
        go_wp2
        go_roundg (l.length - (i + 1))
        case measure => have := hgk.out; omega
        case rel => exact ⟨i + 1, .slice (some ⟨g3, 0, none⟩) (i + 1) d3, _, by omega, by go_num, by show _ + _ = _; omega, FG2, OWN2, hid RW2.out, KB2, hid (by simp; omega)⟩
    · obtain rfl : i = l.length := by omega
      have hgE := hg.out
      have z0r : wr.cell? ⟨w.heap.size + 1, 0, none⟩ = some (.slice A1 r.length c1) := (KB.out.cell (p := ⟨w.heap.size + 1, 0, none⟩) (by show w.heap.size + 1 < _; omega)).trans ((K3.out.cell (p := ⟨w.heap.size + 1, 0, none⟩) (by show w.heap.size + 1 < _; omega)).symm.trans z0)
      have z1r : wr.cell? ⟨w.heap.size + 1, 1, none⟩ = some (.slice A2 mm.length c2) := (KB.out.cell (p := ⟨w.heap.size + 1, 1, none⟩) (by show w.heap.size + 1 < _; omega)).trans ((K3.out.cell (p := ⟨w.heap.size + 1, 1, none⟩) (by show w.heap.size + 1 < _; omega)).symm.trans z1)
      have hgw := hgs.out
      have hw1r : w.heap.size + 1 < wr.heap.size := by omega
      clear hgE
      have BW : Hid (Below w.heap.size w wr) := hid (btrans B2.out (by exact KB.out))
      have hn1 : (r.map (Value.int .i64)).length = Nat.min r.length 32 := by rw [List.length_map]; exact (Nat.min_eq_left hr32).symm
      have hn2 : (mm.map (Value.int .i64)).length = Nat.min mm.length 256 := by rw [List.length_map]; exact (Nat.min_eq_left hm256).symm
      obtain ⟨CL, hCL⟩ : ∃ CL, CL = (List.range 322).map (mcell rv (.slice none 0 0) zeroMc doX) := ⟨_, rfl⟩
      have HC1 : Hid (wr.heap[g]? = some (.cells CL.toArray 158 (0, 0))) := hid (by rw [hCL]; exact FG.out)
      have HCL : Hid (CL.length = 322) := hid (by rw [hCL]; simp)
      obtain ⟨CR, hCR⟩ : ∃ CR, CR = r.map (Value.int .i64) := ⟨_, rfl⟩
      obtain ⟨CM, hCM⟩ : ∃ CM, CM = mm.map (Value.int .i64) := ⟨_, rfl⟩
      have HS1 := hid (nums_src (HR.out.keep BW.out))
      have HO1 : Hid (∀ v ∈ CR, v.oneCell' = true) := hid (by rw [hCR]; exact ints_one r)
      have HO2 : Hid (∀ v ∈ CM, v.oneCell' = true) := hid (by rw [hCM]; exact ints_one mm)
      rw [← hCR] at hn1 HS1
      rw [← hCM] at hn2
      have HN1 := hid hn1
      have HN2 := hid hn2
      have HF1 : Hid (1 + CR.length ≤ CL.length) := hid (by rw [HCL.out, hCR, List.length_map]; omega)
      obtain ⟨ii, z, hii, hzz, h61, h68, hz6⟩ := int_info
      have HU := hid (Try.underlying42)
      have HZ1 : Hid ((Try.prog.info? 2).map (·.size) = some 1) := hid (by rw [hii]; exact congrArg some h61)
      replace hCL := hid hCL
      replace hCR := hid hCR
      replace hCM := hid hCM
      clear hii hzz h61 h68 hz6 hn1 hn2
      have hlen0 : Hid (l.length ≠ 0) := hid (by have := HW.out.n0; omega)
      have FGk := FG
      clear FG
      go_upto_region 14 with (fail)
      go_region_law (refine step_copy_trn (by rfl) _ _ _ _ (by rfl) 2 HU.out HZ1.out _ _ _ _ _ _ (by rfl) (by rfl) g 1 CL 158 HC1.out CR HN1.out (fun h => ⟨rfl, HS1.out h⟩) HF1.out HO1.out ?_; intro w4 hg4 ht4)
      all_goals
        have T4 : Hid (Trn g none wr w4) := hid ⟨ht4.out.os, ht4.out.tape, ht4.out.output, ht4.out.size, ht4.out.block⟩
        have hgE := hg.out
        have hwg : w.heap.size + 1 < g := hz
        have BW4 := hid (below_trn BW.out T4.out (Nat.le_refl _) (by omega))
        have F4 : Hid (FnAt w4 g 158 322 (mcell rv (.slice none 0 0) { zeroMc with R := fillS 32 r } doX)) := hid (by unfold FnAt; rw [hg4.out, hCL.out, hCR.out, splice_R hr32 rfl])
        have z1w : w4.cell? ⟨w.heap.size + 1, 1, none⟩ = some (.slice A2 mm.length c2) := (World.cell?_of_block (T4.out.block (w.heap.size + 1) hw1r (by omega) (by intro e; cases e))).trans z1r
        have hgw4 : g < w4.heap.size := by have := T4.out.size; omega
        have hw14 : w.heap.size + 1 < w4.heap.size := by omega
        obtain ⟨CQ, hCQ⟩ : ∃ CQ, CQ = (List.range 322).map (mcell rv (.slice none 0 0) { zeroMc with R := fillS 32 r } doX) := ⟨_, rfl⟩
        have HC2 : Hid (w4.heap[g]? = some (.cells CQ.toArray 158 (0, 0))) := hid (by rw [hCQ]; exact F4.out)
        have HCQ : Hid (CQ.length = 322) := hid (by rw [hCQ]; simp)
        have HS2 := hid (nums_src (HM.out.keep BW4.out))
        rw [← hCM.out] at HS2
        have HF2 : Hid (33 + CM.length ≤ CQ.length) := hid (by rw [HCQ.out, hCM.out, List.length_map]; omega)
        replace hCQ := hid hCQ
        clear hg4 ht4 hgE F4 z0r z1r
        go_upto_region 15 with (fail)
        go_region_law (refine step_copy_trn (by rfl) _ _ _ _ (by rfl) 2 HU.out HZ1.out _ _ _ _ _ _ (by rfl) (by rfl) g 33 CQ 158 HC2.out CM HN2.out (fun h => ⟨rfl, HS2.out h⟩) HF2.out HO2.out ?_; intro w5 hg5 ht5)
      all_goals
        have T5 : Hid (Trn g none w4 w5) := hid ⟨ht5.out.os, ht5.out.tape, ht5.out.output, ht5.out.size, ht5.out.block⟩
        have BW5 := hid (below_trn BW4.out T5.out (by omega) (by omega))
        have F5 : Hid (FnAt w5 g 158 322 (mcell rv (.slice none 0 0) (newM r mm) doX)) := hid (by unfold FnAt; rw [hg5.out, hCQ.out, hCM.out, splice_M hm256 rfl]; rfl)
        have RW : Hid (Rows6 wr (g + 1) rv.ownBlock l xs) := hid (by have := hrows.out; rw [List.take_length] at this; exact this)
        have HX := hid (new_mach (by have := hlen0.out; omega) hown.out RW.out (T4.out.trans T5.out (.inl rfl)) hgs.out F5.out)
        have hgw : w.heap.size ≤ g := by omega
        clear hg5 ht5
        go_wp2
        go_ret2
        obtain ⟨Aq, cq, hq⟩ := HX.out
        exact ⟨g, Aq, cq, rfl, hq, BW5.out, hgw⟩
end Go.Proofs.Ytcibkoodnfkogaa
