/- The contracts of ops.Class, ops.Writes, ops.Reads. -/
import Derived.Test.YtcibkoodnfkogaaY1
namespace Go.Proofs.Ytcibkoodnfkogaa
open Go.RowKit
set_option linter.unusedVariables false
set_option linter.unusedSimpArgs false
section
open Go.RowKit

theorem shp_cls (k : Int) : -1 ≤ (shp k).cls ∧ (shp k).cls ≤ 3 := by
  by_cases h0 : 0 ≤ k ∧ k < 24
  · have h : k = 0 ∨ k = 1 ∨ k = 2 ∨ k = 3 ∨ k = 4 ∨ k = 5 ∨ k = 6 ∨ k = 7 ∨ k = 8 ∨ k = 9 ∨ k = 10 ∨ k = 11 ∨ k = 12 ∨ k = 13 ∨ k = 14 ∨ k = 15 ∨ k = 16 ∨ k = 17 ∨ k = 18 ∨ k = 19 ∨ k = 20 ∨ k = 21 ∨ k = 22 ∨ k = 23 := by omega
    rcases h with rfl | rfl | rfl | rfl | rfl | rfl | rfl | rfl | rfl | rfl | rfl | rfl | rfl | rfl | rfl | rfl | rfl | rfl | rfl | rfl | rfl | rfl | rfl | rfl <;> decide
  · rw [shp_none k h0]; decide
/-- Has a kind a class? Which? -/
def clsB (k : Int) : Bool := isK k && decide (0 ≤ (shp k).cls)
def clsN (k : Int) : Int := if clsB k then (shp k).cls else 0
set_option maxHeartbeats 4000000 in
set_option maxRecDepth 100000 in
theorem class_any (k : Int) (w : World) :
    Calls Try.prog 76 #[.int .i8 k] w fun e w' => e = .returned (.tuple #[.int .i64 (clsN k), .bool (clsB k)]) ∧ Below w.heap.size w w' := by
  have hs := shp_cls k
  cases hk : isK k
  · have e1 : clsB k = false := by unfold clsB; rw [hk]; rfl
    have e2 : clsN k = 0 := by unfold clsN; rw [e1]; rfl
    rw [e1, e2]
    clear e1 e2
    go_enter Try.func76, Try.ntmps76
    go_wp2_with (go_at_call 105; refine (of_any _ _).mono ?_; rintro e w' ⟨rfl, hb⟩; obtain ⟨hc, hf⟩ := bcell hb; have hz := hb.size)
    go_ret2
    refine ⟨rfl, ?_⟩
    ((with_reducible (repeat (first | assumption | exact Below.refl _ _ | refine bset ?_ (Nat.le_refl _) _ | refine balloc ?_ _ | refine bdrew ?_ | refine bdrewN ?_ _))); done)
  by_cases h0 : (shp k).cls < 0
  · have e1 : clsB k = false := by unfold clsB; rw [decide_eq_false (by omega), Bool.and_false]
    have e2 : clsN k = 0 := by unfold clsN; rw [e1]; rfl
    rw [e1, e2]
    clear e1 e2
    go_enter Try.func76, Try.ntmps76
    go_wp2_with (go_at_call 105; refine (of_any _ _).mono ?_; rintro e w' ⟨rfl, hb⟩; obtain ⟨hc, hf⟩ := bcell hb; have hz := hb.size)
    go_ret2
    refine ⟨rfl, ?_⟩
    ((with_reducible (repeat (first | assumption | exact Below.refl _ _ | refine bset ?_ (Nat.le_refl _) _ | refine balloc ?_ _ | refine bdrew ?_ | refine bdrewN ?_ _))); done)
  · have e1 : clsB k = true := by unfold clsB; rw [hk, decide_eq_true (by omega)]; rfl
    have e2 : clsN k = (shp k).cls := by unfold clsN; rw [e1]; rfl
    rw [e1, e2]
    clear e1 e2
    have h1 := hs.2
    clear hs
    go_enter Try.func76, Try.ntmps76
    go_wp2_with (go_at_call 105; refine (of_any _ _).mono ?_; rintro e w' ⟨rfl, hb⟩; obtain ⟨hc, hf⟩ := bcell hb; have hz := hb.size)
    go_ret2
    refine ⟨rfl, ?_⟩
    ((with_reducible (repeat (first | assumption | exact Below.refl _ _ | refine bset ?_ (Nat.le_refl _) _ | refine balloc ?_ _ | refine bdrew ?_ | refine bdrewN ?_ _))); done)

/-- Does an operation write a register? -/
def wrB (o : Op) : Bool := (shp o.k).d && chk o
def wrN (o : Op) : Int := if wrB o then o.d else 0
set_option maxHeartbeats 4000000 in
set_option maxRecDepth 100000 in
theorem writes_any (o : Op) (w : World) (ho : o.wf) :
    Calls Try.prog 103 #[o.val] w fun e w' => e = .returned (.tuple #[.int .u8 (wrN o), .bool (wrB o)]) ∧ Below w.heap.size w w' := by
  have hck := fun w => check_any o w ho
  obtain ⟨k, d, a, b, n⟩ := o
  simp only [Op.val] at *
  cases hd : (shp k).d
  · have e1 : wrB ⟨k, d, a, b, n⟩ = false := by unfold wrB; rw [hd]; rfl
    have e2 : wrN ⟨k, d, a, b, n⟩ = 0 := by unfold wrN; rw [e1]; rfl
    rw [e1, e2]
    clear e1 e2 hck ho
    go_enter Try.func103, Try.ntmps103
    go_wp2_with (go_at_call 105; refine (of_any _ _).mono ?_; rintro e w' ⟨rfl, hb⟩; obtain ⟨hc, hf⟩ := bcell hb; have hz := bsize hb)
    go_ret2
    refine ⟨rfl, ?_⟩
    have hB := below_old hb
    ((with_reducible (repeat (first | assumption | exact Below.refl _ _ | refine bset ?_ (Nat.le_refl _) _ | refine balloc ?_ _ | refine bdrew ?_ | refine bdrewN ?_ _))); done)
  cases hk : chk ⟨k, d, a, b, n⟩
  · have e1 : wrB ⟨k, d, a, b, n⟩ = false := by unfold wrB; rw [hk, Bool.and_false]
    have e2 : wrN ⟨k, d, a, b, n⟩ = 0 := by unfold wrN; rw [e1]; rfl
    have e3 : chkE ⟨k, d, a, b, n⟩ = 30 := by unfold chkE; rw [hk]; rfl
    rw [e1, e2]
    rw [e3] at hck
    have HC := hid hck
    clear e1 e2 e3 hck ho hk
    go_enter Try.func103, Try.ntmps103
    go_wp2_with (first | (go_at_call 105; refine (of_any _ _).mono ?_; rintro e w' ⟨rfl, hb⟩; obtain ⟨hc, hf⟩ := bcell hb; have hz := bsize hb) | (go_at_call 72; refine (HC.out _).mono ?_; rintro e w' ⟨rfl, hb2⟩; obtain ⟨hc2, hf2⟩ := bcell hb2; have hz2 := bsize hb2))
    go_ret2
    refine ⟨rfl, ?_⟩
    have hB := below_old hb
    have hB := below_step hB hb2
    ((with_reducible (repeat (first | assumption | exact Below.refl _ _ | refine bset ?_ (Nat.le_refl _) _ | refine balloc ?_ _ | refine bdrew ?_ | refine bdrewN ?_ _))); done)
  · have e1 : wrB ⟨k, d, a, b, n⟩ = true := by unfold wrB; rw [hd, hk]; rfl
    have e2 : wrN ⟨k, d, a, b, n⟩ = d := by unfold wrN; rw [e1]; rfl
    have e3 : chkE ⟨k, d, a, b, n⟩ = 0 := by unfold chkE; rw [hk]; rfl
    rw [e1, e2]
    rw [e3] at hck
    have HC := hid hck
    clear e1 e2 e3 hck ho hk
    go_enter Try.func103, Try.ntmps103
    go_wp2_with (first | (go_at_call 105; refine (of_any _ _).mono ?_; rintro e w' ⟨rfl, hb⟩; obtain ⟨hc, hf⟩ := bcell hb; have hz := bsize hb) | (go_at_call 72; refine (HC.out _).mono ?_; rintro e w' ⟨rfl, hb2⟩; obtain ⟨hc2, hf2⟩ := bcell hb2; have hz2 := bsize hb2))
    go_ret2
    refine ⟨rfl, ?_⟩
    have hB := below_old hb
    have hB := below_step hB hb2
    ((with_reducible (repeat (first | assumption | exact Below.refl _ _ | refine bset ?_ (Nat.le_refl _) _ | refine balloc ?_ _ | refine bdrew ?_ | refine bdrewN ?_ _))); done)

/-- The registers that an operation reads. -/
def rds (o : Op) : List Int :=
  if chk o then (if (shp o.k).a && (shp o.k).b && o.a != o.b then [o.a, o.b] else if (shp o.k).a then [o.a] else if (shp o.k).b then [o.b] else []) else []
set_option maxHeartbeats 4000000 in
set_option maxRecDepth 100000 in
theorem reads_none (o : Op) (w : World) (ho : o.wf) (hk : chk o = false) :
    Calls Try.prog 115 #[o.val] w fun e w' => e = .returned (.slice none 0 0) ∧ Below w.heap.size w w' := by
  have hck := fun w => check_any o w ho
  obtain ⟨k, d, a, b, n⟩ := o
  simp only [Op.val] at *
  have e3 : chkE ⟨k, d, a, b, n⟩ = 30 := by unfold chkE; rw [hk]; rfl
  rw [e3] at hck
  have HC := hid hck
  clear e3 hck ho hk
  go_enter Try.func115, Try.ntmps115
  go_wp2_with (first | (go_at_call 105; refine (of_any _ _).mono ?_; rintro e w' ⟨rfl, hb⟩; obtain ⟨hc, hf⟩ := bcell hb; have hz := bsize hb) | (go_at_call 72; refine (HC.out _).mono ?_; rintro e w' ⟨rfl, hb2⟩; obtain ⟨hc2, hf2⟩ := bcell hb2; have hz2 := bsize hb2))
  go_ret
  refine ⟨rfl, ?_⟩
  have hB := below_old hb
  have hB := below_step hB hb2
  ((with_reducible (repeat (first | assumption | exact Below.refl _ _ | refine bset ?_ (Nat.le_refl _) _ | refine balloc ?_ _ | refine bdrew ?_ | refine bdrewN ?_ _))); done)
end
/- The contracts of alias.memory and of the closure 'written' of alias.meet. -/
section
open Go.RowKit
/-- Is it an operation on memory? -/
def memB (o : Op) : Bool := (o.k == 15 || o.k == 16) && chk o
set_option maxHeartbeats 4000000 in
set_option maxRecDepth 100000 in
theorem memory_any (o : Op) (w : World) (ho : o.wf) :
    Calls Try.prog 101 #[o.val] w fun e w' => e = .returned (.bool (memB o)) ∧ Below w.heap.size w w' := by
  have hck := fun w => check_any o w ho
  obtain ⟨k, d, a, b, n⟩ := o
  simp only [Op.val] at *
  cases hk : chk ⟨k, d, a, b, n⟩
  all_goals cases h1 : (k == 15)
  all_goals cases h2 : (k == 16)
  all_goals
    have e : memB ⟨k, d, a, b, n⟩ = ((k == 15 || k == 16) && chk ⟨k, d, a, b, n⟩) := rfl
    rw [h1, h2, hk] at e
    replace e := hid e
    have e3 : chkE ⟨k, d, a, b, n⟩ = if chk ⟨k, d, a, b, n⟩ then 0 else 30 := rfl
    rw [hk] at e3
    simp only [if_true, Bool.false_eq_true, if_false] at e3
    rw [e3] at hck
    have HC := hid hck
    clear e3 hck ho hk
    go_enter Try.func101, Try.ntmps101
    go_wp2_with (go_at_call 72; refine (HC.out _).mono ?_; rintro e w' ⟨rfl, hb2⟩)
    go_ret
    refine ⟨ret_bool e.out.symm, ?_⟩
    first | ((with_reducible (repeat (first | assumption | exact Below.refl _ _ | refine bset ?_ (Nat.le_refl _) _ | refine balloc ?_ _ | refine bdrew ?_ | refine bdrewN ?_ _))); done) | (have hB := below_old hb2; ((with_reducible (repeat (first | assumption | exact Below.refl _ _ | refine bset ?_ (Nat.le_refl _) _ | refine balloc ?_ _ | refine bdrew ?_ | refine bdrewN ?_ _))); done))
/-- Is a register written in a stretch? -/
def written (l : List Op) (r : Int) : Bool := l.any fun o => wrB o && wrN o == r
theorem written_yes {l : List Op} {r : Int} {i : Nat} (hi : i < l.length) (h1 : wrB l[i] = true) (h2 : (wrN l[i] == r) = true) : written l r = true :=
  List.any_eq_true.2 ⟨l[i], List.getElem_mem hi, by simp only [h1, h2, Bool.and_self]⟩
theorem written_no {l : List Op} {r : Int} (h : ∀ j (hj : j < l.length), (wrB l[j] && wrN l[j] == r) = false) : written l r = false := by
  rw [Bool.eq_false_iff]
  intro hw
  obtain ⟨o, hm, ho⟩ := List.any_eq_true.1 hw
  obtain ⟨j, hj, rfl⟩ := List.getElem_of_mem hm
  rw [h j hj] at ho
  cases ho
set_option maxHeartbeats 4000000 in
set_option maxRecDepth 100000 in
theorem written_any (r : Int) (a : Addr) (A : Option Addr) (l : List Op) (cap : Nat) (w : World) (ha : w.cell? a = some (.slice A l.length cap)) (hl : OpsIn w A l) (hw : ∀ o ∈ l, o.wf) (hm : l.length ≤ 1000000000000000000) :
    Calls Try.prog 102 #[.int .u8 r, .pointer (some a)] w fun e w' => e = .returned (.bool (written l r)) ∧ Below w.heap.size w w' := by
  have HL := hid hl
  have HW := hid hw
  have HA := hid ha
  clear hl hw
  go_enter Try.func102, Try.ntmps102
  go_wp2
  clear ha
  go_loopg [10] l.length (fun g v wr => ∃ i : Nat, i ≤ l.length ∧ v = .int .i64 i ∧ Hid (g + i = l.length) ∧ Hid (∀ j (hj : j < i) (hj2 : j < l.length), (wrB l[j] && wrN l[j] == r) = false) ∧ Below w.heap.size w wr)
  case atStart => exact ⟨0, by omega, rfl, by exact Nat.add_zero _, fun j hj => by omega, Below.refl _ _⟩
  case round =>
    obtain ⟨i, hi, rfl, hg, hall, hbw⟩ := hrel
    by_cases hlt : i < l.length
    · obtain ⟨g, off, rfl, hop⟩ := (OpsIn.keep HL.out hbw).get i hlt
      obtain ⟨c0, c1, c2, c3, c4⟩ := hop
      have hwf := hid (HW.out l[i] (List.getElem_mem hlt))
      have hb0 := hbw
      cases h1 : wrB l[i]
      · go_wp2_with (go_at_call 103; refine (writes_any l[i] _ hwf.out).mono ?_; rintro e w' ⟨rfl, hb⟩)
        go_roundg (l.length - (i + 1))
        case measure => have := hg.out; omega
        case rel =>
          refine ⟨i + 1, by omega, by go_num, by show _ + _ = _; omega, fun j hj hj2 => ?_, below_step hb0 hb⟩
          by_cases h : j < i
          · exact hall.out j h hj2
          · obtain rfl : j = i := by omega
            rw [h1]; rfl
      cases h2 : (wrN l[i] == r)
      · go_wp2_with (go_at_call 103; refine (writes_any l[i] _ hwf.out).mono ?_; rintro e w' ⟨rfl, hb⟩)
        go_roundg (l.length - (i + 1))
        case measure => have := hg.out; omega
        case rel =>
          refine ⟨i + 1, by omega, by go_num, by show _ + _ = _; omega, fun j hj hj2 => ?_, below_step hb0 hb⟩
          by_cases h : j < i
          · exact hall.out j h hj2
          · obtain rfl : j = i := by omega
            rw [h2, Bool.and_false]
      · have e := hid (written_yes hlt h1 h2)
        go_wp2_with (go_at_call 103; refine (writes_any l[i] _ hwf.out).mono ?_; rintro e w' ⟨rfl, hb⟩)
        go_ret
        exact ⟨ret_bool e.out.symm, below_step hb0 hb⟩
    · obtain rfl : i = l.length := by omega
      have e := hid (written_no (r := r) (l := l) fun j hj => hall.out j hj hj)
      go_wp2
      go_ret
      exact ⟨ret_bool e.out.symm, hbw⟩
end
/- The contracts of alias.meet, Meet, Round. -/
section
open Go.RowKit
/-- May two operations meet, as far as a stretch tells? -/
def meetB (a b : Op) (st : List Op) : Bool :=
  memB a && memB b && !(a.k == 15 && b.k == 15) && (a.a != b.a || (a.n % 256 == b.n % 256) || written st a.a)
theorem cell_first (w : World) (v : Value) (T : TypeId) (o1 o2 : Obj) : ((((w.alloc (.cells #[v] T)).alloc o1).alloc o2).drew).cell? ⟨w.heap.size, 0, none⟩ = some v := by
  show (((w.alloc (.cells #[v] T)).alloc o1).alloc o2).cell? ⟨w.heap.size, 0, none⟩ = some v
  rw [World.cell?_alloc_lt _ _ _ (by simp; omega), World.cell?_alloc_lt _ _ _ (by simp), cell_of_row _ _ _ _ _ _ (heap_alloc_new _ _)]
  rfl
set_option maxHeartbeats 4000000 in
set_option maxRecDepth 100000 in
theorem meet_any (A A2 : Option Addr) (l st : List Op) (i j cap cap2 : Nat) (w : World) (hi : i < l.length) (hj : j < l.length) (hl : OpsIn w A l) (hs : OpsIn w A2 st) (hw : ∀ o ∈ l, o.wf) (hw2 : ∀ o ∈ st, o.wf)
    (_hm : l.length ≤ 1000000000000000000) (hm2 : st.length ≤ 1000000000000000000) :
    Calls Try.prog 69 #[.slice A l.length cap, .int .i64 i, .int .i64 j, .slice A2 st.length cap2] w fun e w' => e = .returned (.bool (meetB l[i] l[j] st)) ∧ Below w.heap.size w w' := by
  obtain ⟨g, off, rfl, hop⟩ := hl.get i hi
  obtain ⟨g', off', he, hop2⟩ := hl.get j hj
  obtain ⟨rfl, rfl⟩ : g' = g ∧ off' = off := by injection he with h; injection h with h1 h2; exact ⟨h1.symm, h2.symm⟩
  obtain ⟨c0, c1, c2, c3, c4⟩ := hop
  obtain ⟨d0, d1, d2, d3, d4⟩ := hop2
  have hgs : g' < w.heap.size := World.block_lt_of_cell? w _ c0
  have hgs1 : g' < w.heap.size + 1 := by omega
  have hgs2 : g' < w.heap.size + 1 + 1 := by omega
  have hgs3 : g' < w.heap.size + 2 := by omega
  have hwa := hid (hw l[i] (List.getElem_mem hi))
  have hwb := hid (hw l[j] (List.getElem_mem hj))
  have HS := hid hs
  have HW2 := hid hw2
  clear he hl hs hw hw2
  have hB0 : ∀ X : World, Below w.heap.size w X → Hid (Below w.heap.size w X) := fun _ h => h
  cases h1 : memB l[i]
  · have e := hid (show meetB l[i] l[j] st = false by unfold meetB; rw [h1]; rfl)
    go_enter Try.func69, Try.ntmps69
    go_wp2
    go_region
    all_goals
      go_wp2_with (go_at_call 101; (with_reducible refine (memory_any l[i] _ hwa.out).mono ?_); rintro e w1 ⟨rfl, hb⟩; obtain ⟨hc, hf⟩ := bcell hb; have hz := hb.size; simp at hz; have hz0 : w.heap.size < w1.heap.size := (by omega); have hz1 : w.heap.size + 1 < w1.heap.size := (by omega); have hz2 : w.heap.size + 1 + 1 < w1.heap.size := (by omega))
      go_ret
      refine ⟨ret_bool e.out.symm, btrans (a := w) ?_ hb⟩
      ((with_reducible (repeat (first | assumption | exact Below.refl _ _ | refine bset ?_ (Nat.le_refl _) _ | refine balloc ?_ _ | refine bdrew ?_ | refine bdrewN ?_ _))); done)
  cases h2 : memB l[j]
  · have e := hid (show meetB l[i] l[j] st = false by unfold meetB; rw [h2, Bool.and_false]; rfl)
    go_enter Try.func69, Try.ntmps69
    go_wp2
    go_region
    all_goals
      go_wp2_with (first | (go_at_call 101; (with_reducible refine (memory_any l[i] _ hwa.out).mono ?_); rintro e w1 ⟨rfl, hb⟩; obtain ⟨hc, hf⟩ := bcell hb; have hz := hb.size; simp at hz; have hz0 : w.heap.size < w1.heap.size := (by omega); have hz1 : w.heap.size + 1 < w1.heap.size := (by omega); have hz2 : w.heap.size + 1 + 1 < w1.heap.size := (by omega)) | (go_at_call 101; (with_reducible refine (memory_any l[j] _ hwb.out).mono ?_); rintro e w2 ⟨rfl, hb2⟩; obtain ⟨hc2, hf2⟩ := bcell hb2))
      go_ret
      refine ⟨ret_bool e.out.symm, btrans (btrans (a := w) ?_ hb) hb2⟩
      ((with_reducible (repeat (first | assumption | exact Below.refl _ _ | refine bset ?_ (Nat.le_refl _) _ | refine balloc ?_ _ | refine bdrew ?_ | refine bdrewN ?_ _))); done)
  cases h3 : (l[i].k == 15) && (l[j].k == 15)
  · have e0 : meetB l[i] l[j] st = (l[i].a != l[j].a || (l[i].n % 256 == l[j].n % 256) || written st l[i].a) := by
      unfold meetB
      rw [h1, h2, h3]
      rfl
    replace h3 : (l[i].k == 15) = false ∨ (l[i].k == 15) = true ∧ (l[j].k == 15) = false := by
      cases h : (l[i].k == 15)
      · exact .inl rfl
      · rw [h] at h3
        exact .inr ⟨rfl, h3⟩
    cases h5 : (l[i].a != l[j].a)
    · cases h6 : (l[i].n % 256 == l[j].n % 256)
      · rw [h5, h6] at e0
        replace e0 := hid e0
        rcases h3 with h3 | ⟨h3, h4⟩
        all_goals
          go_enter Try.func69, Try.ntmps69
          go_wp2
          go_region
          all_goals
            go_wp2_with (first | (go_at_call 101; (with_reducible refine (memory_any l[i] _ hwa.out).mono ?_); rintro e w1 ⟨rfl, hb⟩; obtain ⟨hc, hf⟩ := bcell hb; have hz := hb.size; simp at hz; have hz0 : w.heap.size < w1.heap.size := (by omega); have hz1 : w.heap.size + 1 < w1.heap.size := (by omega); have hz2 : w.heap.size + 1 + 1 < w1.heap.size := (by omega)) | (go_at_call 101; (with_reducible refine (memory_any l[j] _ hwb.out).mono ?_); rintro e w2 ⟨rfl, hb2⟩; obtain ⟨hc2, hf2⟩ := bcell hb2))
            have hX := btrans (btrans (a := w) (by ((with_reducible (repeat (first | assumption | exact Below.refl _ _ | refine bset ?_ (Nat.le_refl _) _ | refine balloc ?_ _ | refine bdrew ?_ | refine bdrewN ?_ _))); done)) hb) hb2
            refine (written_any _ _ A2 st cap2 _ (cell_keep (cell_keep (cell_first _ _ _ _ _) hb) hb2) (HS.out.keep hX) HW2.out hm2).mono ?_
            rintro e w3 ⟨rfl, hb3⟩
            go_wp2
            go_ret
            exact ⟨ret_bool e0.out.symm, btrans (a := w) hX hb3⟩
      · rw [h6, Bool.or_true, Bool.true_or] at e0
        replace e0 := hid e0
        rcases h3 with h3 | ⟨h3, h4⟩
        all_goals
          go_enter Try.func69, Try.ntmps69
          go_wp2
          go_region
          all_goals
            go_wp2_with (first | (go_at_call 101; (with_reducible refine (memory_any l[i] _ hwa.out).mono ?_); rintro e w1 ⟨rfl, hb⟩; obtain ⟨hc, hf⟩ := bcell hb; have hz := hb.size; simp at hz; have hz0 : w.heap.size < w1.heap.size := (by omega); have hz1 : w.heap.size + 1 < w1.heap.size := (by omega); have hz2 : w.heap.size + 1 + 1 < w1.heap.size := (by omega)) | (go_at_call 101; (with_reducible refine (memory_any l[j] _ hwb.out).mono ?_); rintro e w2 ⟨rfl, hb2⟩; obtain ⟨hc2, hf2⟩ := bcell hb2))
            go_ret
            refine ⟨ret_bool e0.out.symm, btrans (btrans (a := w) ?_ hb) hb2⟩
            ((with_reducible (repeat (first | assumption | exact Below.refl _ _ | refine bset ?_ (Nat.le_refl _) _ | refine balloc ?_ _ | refine bdrew ?_ | refine bdrewN ?_ _))); done)
    · rw [h5, Bool.true_or, Bool.true_or] at e0
      replace e0 := hid e0
      rcases h3 with h3 | ⟨h3, h4⟩
      all_goals
        go_enter Try.func69, Try.ntmps69
        go_wp2
        go_region
        all_goals
          go_wp2_with (first | (go_at_call 101; (with_reducible refine (memory_any l[i] _ hwa.out).mono ?_); rintro e w1 ⟨rfl, hb⟩; obtain ⟨hc, hf⟩ := bcell hb; have hz := hb.size; simp at hz; have hz0 : w.heap.size < w1.heap.size := (by omega); have hz1 : w.heap.size + 1 < w1.heap.size := (by omega); have hz2 : w.heap.size + 1 + 1 < w1.heap.size := (by omega)) | (go_at_call 101; (with_reducible refine (memory_any l[j] _ hwb.out).mono ?_); rintro e w2 ⟨rfl, hb2⟩; obtain ⟨hc2, hf2⟩ := bcell hb2))
          go_ret
          refine ⟨ret_bool e0.out.symm, btrans (btrans (a := w) ?_ hb) hb2⟩
          ((with_reducible (repeat (first | assumption | exact Below.refl _ _ | refine bset ?_ (Nat.le_refl _) _ | refine balloc ?_ _ | refine bdrew ?_ | refine bdrewN ?_ _))); done)
  · have e := hid (show meetB l[i] l[j] st = false by unfold meetB; rw [h3, Bool.not_true, Bool.and_false]; rfl)
    obtain ⟨h4, h5⟩ : (l[i].k == 15) = true ∧ (l[j].k == 15) = true := by simpa using h3
    clear h3
    go_enter Try.func69, Try.ntmps69
    go_wp2
    go_region
    all_goals
      go_wp2_with (first | (go_at_call 101; (with_reducible refine (memory_any l[i] _ hwa.out).mono ?_); rintro e w1 ⟨rfl, hb⟩; obtain ⟨hc, hf⟩ := bcell hb; have hz := hb.size; simp at hz; have hz0 : w.heap.size < w1.heap.size := (by omega); have hz1 : w.heap.size + 1 < w1.heap.size := (by omega); have hz2 : w.heap.size + 1 + 1 < w1.heap.size := (by omega)) | (go_at_call 101; (with_reducible refine (memory_any l[j] _ hwb.out).mono ?_); rintro e w2 ⟨rfl, hb2⟩; obtain ⟨hc2, hf2⟩ := bcell hb2))
      go_ret
      refine ⟨ret_bool e.out.symm, btrans (btrans (a := w) ?_ hb) hb2⟩
      ((with_reducible (repeat (first | assumption | exact Below.refl _ _ | refine bset ?_ (Nat.le_refl _) _ | refine balloc ?_ _ | refine bdrew ?_ | refine bdrewN ?_ _))); done)
end
/- The contracts of alias.Meet and alias.Round. -/
section
open Go.RowKit
theorem meet_at (A A2 : Option Addr) (l st : List Op) (i j cap cap2 n : Nat) (w : World) (hi : i < l.length) (hj : j < l.length) (hl : OpsIn w A l) (hs : OpsIn w A2 st) (hw : ∀ o ∈ l, o.wf) (hw2 : ∀ o ∈ st, o.wf)
    (hm : l.length ≤ 1000000000000000000) (hn : st.length = n) (hm2 : n ≤ 1000000000000000000) (r : Bool) (hr : meetB l[i] l[j] st = r) :
    Calls Try.prog 69 #[.slice A l.length cap, .int .i64 i, .int .i64 j, .slice A2 n cap2] w fun e w' => e = .returned (.bool r) ∧ Below w.heap.size w w' := by
  subst hn hr
  exact meet_any A A2 l st i j cap cap2 w hi hj hl hs hw hw2 hm hm2
/-- A stretch of a list. -/
def cut (l : List Op) (i j : Nat) : List Op := (l.take j).drop i
theorem cut_length (l : List Op) (i j : Nat) (hij : i ≤ j) (hj : j ≤ l.length) : (cut l i j).length = j - i := by
  unfold cut
  rw [List.length_drop, List.length_take]
  omega
theorem cut_in {w : World} {g off : Nat} {l : List Op} (h : OpsIn w (some ⟨g, off, none⟩) l) (i j : Nat) : OpsIn w (some ⟨g, off + i * 5, none⟩) (cut l i j) := fun hne => by
  have hl : l ≠ [] := by rintro rfl; exact hne (by simp [cut])
  obtain ⟨g', off', he, hx⟩ := h hl
  injection he with he
  injection he with h1 h2
  subst h1 h2
  refine ⟨g, off + i * 5, rfl, fun k x hk => ?_⟩
  have hk' : l[i + k]? = some x := by
    unfold cut at hk
    rw [List.getElem?_drop, List.getElem?_take] at hk
    split at hk
    · exact hk
    · cases hk
  have := hx (i + k) x hk'
  rwa [show off + i * 5 + k * 5 = off + (i + k) * 5 by omega]
theorem cut_mem {l : List Op} {i j : Nat} {o : Op} (h : o ∈ cut l i j) : o ∈ l := List.mem_of_mem_take (List.mem_of_mem_drop h)
/-- alias.Meet's answer. -/
def meetL (l : List Op) (i j : Int) : Bool :=
  if h : 0 ≤ i ∧ i < j ∧ j < l.length then meetB (l[i.toNat]'(by omega)) (l[j.toNat]'(by omega)) (cut l i.toNat j.toNat) else false
/-- alias.Round's answer. -/
def roundL (l : List Op) (i j : Int) : Bool :=
  if h : 0 ≤ i ∧ 0 ≤ j ∧ i < l.length ∧ j < l.length then meetB (l[i.toNat]'(by omega)) (l[j.toNat]'(by omega)) l else false
set_option maxHeartbeats 4000000 in
set_option maxRecDepth 100000 in
theorem Meet_any (A : Option Addr) (l : List Op) (cap : Nat) (i j : Int) (w : World) (hl : OpsIn w A l) (hw : ∀ o ∈ l, o.wf) (hm : l.length ≤ 1000000000000000000) (hc : l.length ≤ cap) :
    Calls Try.prog 27 #[.slice A l.length cap, .int .i64 i, .int .i64 j] w fun e w' => e = .returned (.bool (meetL l i j)) ∧ Below w.heap.size w w' := by
  by_cases h : 0 ≤ i ∧ i < j ∧ j < l.length
  · obtain ⟨i, rfl⟩ := Int.eq_ofNat_of_zero_le h.1
    obtain ⟨j, rfl⟩ := Int.eq_ofNat_of_zero_le (show 0 ≤ j by omega)
    have h1 : (i : Int) < j := h.2.1
    have h2 : j < l.length := by omega
    have h3 : i ≤ j := by omega
    have h4 : j ≤ cap := by omega
    have h5 : i < l.length := by omega
    have e : meetB l[i] l[j] (cut l i j) = meetL l i j := by unfold meetL; rw [dif_pos h]; rfl
    generalize meetL l i j = r at e ⊢
    obtain ⟨g, off, rfl, _⟩ := hl.get i h5
    have hcall := fun cap2 => meet_at (some ⟨g, off, none⟩) (some ⟨g, off + i * 5, none⟩) l (cut l i j) i j cap cap2 (j - i) w h5 h2 hl (cut_in hl i j) hw (fun o ho => hw o (cut_mem ho)) hm (cut_length l i j h3 (by omega)) (by omega) r e
    have HC := hid hcall
    clear hcall e hw hl h
    go_enter Try.func27, Try.ntmps27
    go_wp2_with (go_at_call 69; (with_reducible refine (HC.out _).mono ?_); rintro e w' ⟨rfl, hb⟩)
    go_ret
    exact ⟨rfl, hb⟩
  · have e : meetL l i j = false := by unfold meetL; rw [dif_neg h]
    rw [e]
    clear e hl hw
    by_cases h0 : 0 ≤ i
    · by_cases h1 : i < j
      · have h2 : ¬ j < (l.length : Int) := by omega
        clear h
        go_enter Try.func27, Try.ntmps27
        go_wp2
        go_ret
        exact ⟨rfl, Below.refl _ _⟩
      · clear h
        go_enter Try.func27, Try.ntmps27
        go_wp2
        go_ret
        exact ⟨rfl, Below.refl _ _⟩
    · clear h
      go_enter Try.func27, Try.ntmps27
      go_wp2
      go_ret
      exact ⟨rfl, Below.refl _ _⟩
set_option maxHeartbeats 4000000 in
set_option maxRecDepth 100000 in
theorem Round_any (A : Option Addr) (l : List Op) (cap : Nat) (i j : Int) (w : World) (hl : OpsIn w A l) (hw : ∀ o ∈ l, o.wf) (hm : l.length ≤ 1000000000000000000) :
    Calls Try.prog 29 #[.slice A l.length cap, .int .i64 i, .int .i64 j] w fun e w' => e = .returned (.bool (roundL l i j)) ∧ Below w.heap.size w w' := by
  by_cases h : 0 ≤ i ∧ 0 ≤ j ∧ i < l.length ∧ j < l.length
  · obtain ⟨i, rfl⟩ := Int.eq_ofNat_of_zero_le h.1
    obtain ⟨j, rfl⟩ := Int.eq_ofNat_of_zero_le h.2.1
    have h2 : j < l.length := by omega
    have h5 : i < l.length := by omega
    have e : meetB l[i] l[j] l = roundL l i j := by unfold roundL; rw [dif_pos h]; rfl
    generalize roundL l i j = r at e ⊢
    have hcall := fun cap2 => meet_at A A l l i j cap cap2 l.length w h5 h2 hl hl hw hw hm rfl hm r e
    have HC := hid hcall
    clear hcall e hw hl h
    by_cases h6 : (j : Int) < i
    all_goals
      by_cases h7 : (i : Int) < j
      all_goals
        go_enter Try.func29, Try.ntmps29
        go_wp2_with (go_at_call 69; (with_reducible refine (HC.out _).mono ?_); rintro e w' ⟨rfl, hb⟩)
        go_ret
        exact ⟨rfl, hb⟩
  · have e : roundL l i j = false := by unfold roundL; rw [dif_neg h]
    rw [e]
    clear e hl hw
    by_cases h6 : j < i
    · by_cases h0 : 0 ≤ j
      · have h2 : ¬ i < (l.length : Int) := by omega
        have h7 : ¬ i < j := by omega
        clear h
        go_enter Try.func29, Try.ntmps29
        go_wp2
        go_ret
        exact ⟨rfl, Below.refl _ _⟩
      · clear h
        go_enter Try.func29, Try.ntmps29
        go_wp2
        go_ret
        exact ⟨rfl, Below.refl _ _⟩
    · by_cases h0 : 0 ≤ i
      · have h2 : ¬ j < (l.length : Int) := by omega
        by_cases h7 : i < j
        · clear h
          go_enter Try.func29, Try.ntmps29
          go_wp2
          go_ret
          exact ⟨rfl, Below.refl _ _⟩
        · have h8 : ¬ i < (l.length : Int) := by omega
          clear h
          go_enter Try.func29, Try.ntmps29
          go_wp2
          go_ret
          exact ⟨rfl, Below.refl _ _⟩
      · clear h
        go_enter Try.func29, Try.ntmps29
        go_wp2
        go_ret
        exact ⟨rfl, Below.refl _ _⟩
end
end Go.Proofs.Ytcibkoodnfkogaa
