/- The contracts of alias.meet, Meet, Round. -/
import Derived.Test.YtcibkoodnfkogaaAli
namespace Go.Proofs.Ytcibkoodnfkogaa
open Go.RowKit
set_option linter.unusedVariables false
set_option linter.unusedSimpArgs false
/-- May two operations meet, as far as a stretch tells? -/
def meetB (a b : Op) (st : List Op) : Bool :=
  memB a && memB b && !(a.k == 15 && b.k == 15) && (a.a != b.a || (a.n % 256 == b.n % 256) || written st a.a)
theorem cell_first (w : World) (v : Value) (T : TypeId) (o1 o2 : Obj) : ((((w.alloc (.cells #[v] T)).alloc o1).alloc o2).drew).cell? ⟨w.heap.size, 0, none⟩ = some v := by
  show (((w.alloc (.cells #[v] T)).alloc o1).alloc o2).cell? ⟨w.heap.size, 0, none⟩ = some v
  rw [World.cell?_alloc_lt _ _ _ (by simp; omega), World.cell?_alloc_lt _ _ _ (by simp), cell_of_row _ _ _ _ _ _ (heap_alloc_new _ _)]
  rfl
set_option maxHeartbeats 4000000 in
set_option maxRecDepth 100000 in
theorem meet_any (A A2 : Option Addr) (l st : List Op) (i j cap cap2 : Nat) (w : World) (hi : i < l.length) (hj : j < l.length) (hl : OpsIn w A l) (hs : OpsIn w A2 st) (hw : ∀ o ∈ l, o.wf) (hw2 : ∀ o ∈ st, o.wf)
    (_hm : l.length ≤ 1000000000000000000) (hm2 : st.length ≤ 1000000000000000000) :
    Calls Try.prog 69 #[.slice A l.length cap, .int .i64 i, .int .i64 j, .slice A2 st.length cap2] w fun e w' => e = .returned (.bool (meetB l[i] l[j] st)) ∧ Below w.heap.size w w' := by
  obtain ⟨g, off, rfl, hop⟩ := hl.get i hi
  obtain ⟨g', off', he, hop2⟩ := hl.get j hj
  obtain ⟨rfl, rfl⟩ : g' = g ∧ off' = off := by injection he with h; injection h with h1 h2; exact ⟨h1.symm, h2.symm⟩
  obtain ⟨c0, c1, c2, c3, c4⟩ := hop
  obtain ⟨d0, d1, d2, d3, d4⟩ := hop2
  have hgs : g' < w.heap.size := World.block_lt_of_cell? w _ c0
  have hgs1 : g' < w.heap.size + 1 := by omega
  have hgs2 : g' < w.heap.size + 1 + 1 := by omega
  have hgs3 : g' < w.heap.size + 2 := by omega
  have hwa := hid (hw l[i] (List.getElem_mem hi))
  have hwb := hid (hw l[j] (List.getElem_mem hj))
  have HS := hid hs
  have HW2 := hid hw2
  clear he hl hs hw hw2
  have hB0 : ∀ X : World, Below w.heap.size w X → Hid (Below w.heap.size w X) := fun _ h => h
  cases h1 : memB l[i]
  · have e := hid (show meetB l[i] l[j] st = false by unfold meetB; rw [h1]; rfl)
    go_enter Try.func69, Try.ntmps69
    go_wp2
    go_region
    all_goals
      go_wp2_with (go_at_call 101; (with_reducible refine (memory_any l[i] _ hwa.out).mono ?_); rintro e w1 ⟨rfl, hb⟩; obtain ⟨hc, hf⟩ := bcell hb; have hz := hb.size; simp at hz; have hz0 : w.heap.size < w1.heap.size := (by omega); have hz1 : w.heap.size + 1 < w1.heap.size := (by omega); have hz2 : w.heap.size + 1 + 1 < w1.heap.size := (by omega))
      go_ret
      refine ⟨ret_bool e.out.symm, btrans (a := w) ?_ hb⟩
      ((with_reducible (repeat (first | assumption | exact Below.refl _ _ | refine bset ?_ (Nat.le_refl _) _ | refine balloc ?_ _ | refine bdrew ?_ | refine bdrewN ?_ _))); done)
  cases h2 : memB l[j]
  · have e := hid (show meetB l[i] l[j] st = false by unfold meetB; rw [h2, Bool.and_false]; rfl)
    go_enter Try.func69, Try.ntmps69
    go_wp2
    go_region
    all_goals
      go_wp2_with (first | (go_at_call 101; (with_reducible refine (memory_any l[i] _ hwa.out).mono ?_); rintro e w1 ⟨rfl, hb⟩; obtain ⟨hc, hf⟩ := bcell hb; have hz := hb.size; simp at hz; have hz0 : w.heap.size < w1.heap.size := (by omega); have hz1 : w.heap.size + 1 < w1.heap.size := (by omega); have hz2 : w.heap.size + 1 + 1 < w1.heap.size := (by omega)) | (go_at_call 101; (with_reducible refine (memory_any l[j] _ hwb.out).mono ?_); rintro e w2 ⟨rfl, hb2⟩; obtain ⟨hc2, hf2⟩ := bcell hb2))
      go_ret
      refine ⟨ret_bool e.out.symm, btrans (btrans (a := w) ?_ hb) hb2⟩
      ((with_reducible (repeat (first | assumption | exact Below.refl _ _ | refine bset ?_ (Nat.le_refl _) _ | refine balloc ?_ _ | refine bdrew ?_ | refine bdrewN ?_ _))); done)
  cases h3 : (l[i].k == 15) && (l[j].k == 15)
  · have e0 : meetB l[i] l[j] st = (l[i].a != l[j].a || (l[i].n % 256 == l[j].n % 256) || written st l[i].a) := by
      unfold meetB
      rw [h1, h2, h3]
      rfl
    replace h3 : (l[i].k == 15) = false ∨ (l[i].k == 15) = true ∧ (l[j].k == 15) = false := by
      cases h : (l[i].k == 15)
      · exact .inl rfl
      · rw [h] at h3
        exact .inr ⟨rfl, h3⟩
    cases h5 : (l[i].a != l[j].a)
    · cases h6 : (l[i].n % 256 == l[j].n % 256)
      · rw [h5, h6] at e0
        replace e0 := hid e0
        rcases h3 with h3 | ⟨h3, h4⟩
        all_goals
          go_enter Try.func69, Try.ntmps69
          go_wp2
          go_region
          all_goals
            go_wp2_with (first | (go_at_call 101; (with_reducible refine (memory_any l[i] _ hwa.out).mono ?_); rintro e w1 ⟨rfl, hb⟩; obtain ⟨hc, hf⟩ := bcell hb; have hz := hb.size; simp at hz; have hz0 : w.heap.size < w1.heap.size := (by omega); have hz1 : w.heap.size + 1 < w1.heap.size := (by omega); have hz2 : w.heap.size + 1 + 1 < w1.heap.size := (by omega)) | (go_at_call 101; (with_reducible refine (memory_any l[j] _ hwb.out).mono ?_); rintro e w2 ⟨rfl, hb2⟩; obtain ⟨hc2, hf2⟩ := bcell hb2))
            have hX := btrans (btrans (a := w) (by ((with_reducible (repeat (first | assumption | exact Below.refl _ _ | refine bset ?_ (Nat.le_refl _) _ | refine balloc ?_ _ | refine bdrew ?_ | refine bdrewN ?_ _))); done)) hb) hb2
            refine (written_any _ _ A2 st cap2 _ (cell_keep (cell_keep (cell_first _ _ _ _ _) hb) hb2) (HS.out.keep hX) HW2.out hm2).mono ?_
            rintro e w3 ⟨rfl, hb3⟩
            go_wp2
            go_ret
            exact ⟨ret_bool e0.out.symm, btrans (a := w) hX hb3⟩
      · rw [h6, Bool.or_true, Bool.true_or] at e0
        replace e0 := hid e0
        rcases h3 with h3 | ⟨h3, h4⟩
        all_goals
          go_enter Try.func69, Try.ntmps69
          go_wp2
          go_region
          all_goals
            go_wp2_with (first | (go_at_call 101; (with_reducible refine (memory_any l[i] _ hwa.out).mono ?_); rintro e w1 ⟨rfl, hb⟩; obtain ⟨hc, hf⟩ := bcell hb; have hz := hb.size; simp at hz; have hz0 : w.heap.size < w1.heap.size := (by omega); have hz1 : w.heap.size + 1 < w1.heap.size := (by omega); have hz2 : w.heap.size + 1 + 1 < w1.heap.size := (by omega)) | (go_at_call 101; (with_reducible refine (memory_any l[j] _ hwb.out).mono ?_); rintro e w2 ⟨rfl, hb2⟩; obtain ⟨hc2, hf2⟩ := bcell hb2))
            go_ret
            refine ⟨ret_bool e0.out.symm, btrans (btrans (a := w) ?_ hb) hb2⟩
            ((with_reducible (repeat (first | assumption | exact Below.refl _ _ | refine bset ?_ (Nat.le_refl _) _ | refine balloc ?_ _ | refine bdrew ?_ | refine bdrewN ?_ _))); done)
    · rw [h5, Bool.true_or, Bool.true_or] at e0
      replace e0 := hid e0
      rcases h3 with h3 | ⟨h3, h4⟩
      all_goals
        go_enter Try.func69, Try.ntmps69
        go_wp2
        go_region
        all_goals
          go_wp2_with (first | (go_at_call 101; (with_reducible refine (memory_any l[i] _ hwa.out).mono ?_); rintro e w1 ⟨rfl, hb⟩; obtain ⟨hc, hf⟩ := bcell hb; have hz := hb.size; simp at hz; have hz0 : w.heap.size < w1.heap.size := (by omega); have hz1 : w.heap.size + 1 < w1.heap.size := (by omega); have hz2 : w.heap.size + 1 + 1 < w1.heap.size := (by omega)) | (go_at_call 101; (with_reducible refine (memory_any l[j] _ hwb.out).mono ?_); rintro e w2 ⟨rfl, hb2⟩; obtain ⟨hc2, hf2⟩ := bcell hb2))
          go_ret
          refine ⟨ret_bool e0.out.symm, btrans (btrans (a := w) ?_ hb) hb2⟩
          ((with_reducible (repeat (first | assumption | exact Below.refl _ _ | refine bset ?_ (Nat.le_refl _) _ | refine balloc ?_ _ | refine bdrew ?_ | refine bdrewN ?_ _))); done)
  · have e := hid (show meetB l[i] l[j] st = false by unfold meetB; rw [h3, Bool.not_true, Bool.and_false]; rfl)
    obtain ⟨h4, h5⟩ : (l[i].k == 15) = true ∧ (l[j].k == 15) = true := by simpa using h3
    clear h3
    go_enter Try.func69, Try.ntmps69
    go_wp2
    go_region
    all_goals
      go_wp2_with (first | (go_at_call 101; (with_reducible refine (memory_any l[i] _ hwa.out).mono ?_); rintro e w1 ⟨rfl, hb⟩; obtain ⟨hc, hf⟩ := bcell hb; have hz := hb.size; simp at hz; have hz0 : w.heap.size < w1.heap.size := (by omega); have hz1 : w.heap.size + 1 < w1.heap.size := (by omega); have hz2 : w.heap.size + 1 + 1 < w1.heap.size := (by omega)) | (go_at_call 101; (with_reducible refine (memory_any l[j] _ hwb.out).mono ?_); rintro e w2 ⟨rfl, hb2⟩; obtain ⟨hc2, hf2⟩ := bcell hb2))
      go_ret
      refine ⟨ret_bool e.out.symm, btrans (btrans (a := w) ?_ hb) hb2⟩
      ((with_reducible (repeat (first | assumption | exact Below.refl _ _ | refine bset ?_ (Nat.le_refl _) _ | refine balloc ?_ _ | refine bdrew ?_ | refine bdrewN ?_ _))); done)
end Go.Proofs.Ytcibkoodnfkogaa
