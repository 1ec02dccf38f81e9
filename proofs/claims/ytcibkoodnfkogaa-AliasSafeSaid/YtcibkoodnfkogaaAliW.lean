/- The contract of hayloftlaw10.wakes; the walk of AliasRounds. -/
import Derived.Test.YtcibkoodnfkogaaAli3
namespace Go.Proofs.Ytcibkoodnfkogaa
open Go.RowKit
set_option linter.unusedVariables false
set_option linter.unusedSimpArgs false
theorem wk_flat_get (l : List Op) (i : Nat) (x : Op) (h : l[i]? = some x) (j : Nat) (hj : j < 5) : (l.flatMap Op.cells)[i * 5 + j]? = x.cells[j]? := by
  induction l generalizing i with
  | nil => simp at h
  | cons y l ih =>
    rw [List.flatMap_cons]
    cases i with
    | zero =>
      have hy : y = x := by simpa using h
      subst hy
      rw [List.getElem?_append_left (by simp [Op.cells]; omega), Nat.zero_mul, Nat.zero_add]
    | succ i =>
      rw [List.getElem?_append_right (by simp [Op.cells]; omega), show (i + 1) * 5 + j - y.cells.length = i * 5 + j by simp [Op.cells]; omega]
      exact ih i (by simpa using h)
theorem new_ops (w : World) (l : List Op) (T : TypeId) : OpsIn (w.alloc (.cells (l.flatMap Op.cells).toArray T)) (some ⟨w.heap.size, 0, none⟩) l := fun _ => by
  refine ⟨_, _, rfl, fun i x hx => ?_⟩
  have hc : ∀ j, j < 5 → (w.alloc (.cells (l.flatMap Op.cells).toArray T)).cell? ⟨w.heap.size, 0 + i * 5 + j, none⟩ = x.cells[j]? := fun j hj => by
    rw [cell_of_row _ _ _ _ _ _ (heap_alloc_new _ _), Nat.zero_add]
    simpa using wk_flat_get l i x hx j hj
  exact ⟨hc 0 (by omega), hc 1 (by omega), hc 2 (by omega), hc 3 (by omega), hc 4 (by omega)⟩
def wk : List Op := [⟨15, 1, 2, 0, 8⟩, ⟨16, 0, 2, 3, 9⟩, ⟨16, 0, 2, 3, 264⟩, ⟨2, 2, 2, 4, 0⟩, ⟨16, 0, 2, 3, 9⟩]
theorem wk_wf : ∀ o ∈ wk, o.wf := by
  intro o ho
  simp only [wk, List.mem_cons, List.not_mem_nil, or_false] at ho
  rcases ho with rfl | rfl | rfl | rfl | rfl <;> constructor <;> decide
theorem wk_meet (A : Option Addr) (cap : Nat) (i j : Int) (r : Bool) (w : World) (hl : OpsIn w A wk) (hc : 5 ≤ cap) (hr : meetL wk i j = r) :
    Calls Try.prog 27 #[.slice A 5 cap, .int .i64 i, .int .i64 j] w fun e w' => e = .returned (.bool r) ∧ Below w.heap.size w w' := by
  subst hr
  exact Meet_any A wk cap i j w hl wk_wf (by decide) hc
theorem wk_round (A : Option Addr) (cap : Nat) (i j : Int) (r : Bool) (w : World) (hl : OpsIn w A wk) (hr : roundL wk i j = r) :
    Calls Try.prog 29 #[.slice A 5 cap, .int .i64 i, .int .i64 j] w fun e w' => e = .returned (.bool r) ∧ Below w.heap.size w w' := by
  subst hr
  exact Round_any A wk cap i j w hl wk_wf (by decide)
def wk3 : List Op := [⟨15, 1, 2, 0, 8⟩, ⟨16, 0, 2, 3, 9⟩, ⟨16, 0, 2, 3, 264⟩]
theorem wk3_round (A : Option Addr) (cap : Nat) (i j : Int) (r : Bool) (w : World) (hl : OpsIn w A wk) (hr : roundL wk3 i j = r) :
    Calls Try.prog 29 #[.slice A 3 cap, .int .i64 i, .int .i64 j] w fun e w' => e = .returned (.bool r) ∧ Below w.heap.size w w' := by
  subst hr
  refine Round_any A wk3 cap i j w ?_ (fun o ho => wk_wf o ?_) (by decide)
  · intro _
    obtain ⟨g, off, ha, hx⟩ := hl (by decide)
    refine ⟨g, off, ha, fun k x hk => hx k x ?_⟩
    have : k < 3 := by have := (List.getElem?_eq_some_iff.1 hk).1; simpa [wk3] using this
    obtain rfl | rfl | rfl : k = 0 ∨ k = 1 ∨ k = 2 := by omega
    all_goals simpa [wk, wk3] using hk
  · have := List.mem_of_mem_take (i := 3) (l := wk) (a := o) ho
    exact this
set_option maxHeartbeats 4000000 in
set_option maxRecDepth 100000 in
theorem wakes10_any (w : World) : Calls Try.prog 25 #[] w fun e w' => e = .returned (.bool true) ∧ Below w.heap.size w w' := by
  go_enter Try.func25, Try.ntmps25
  go_wp2_with fail
  have H0 := hid (new_ops w wk 55)
  have B0 := hid (balloc (Below.refl _ w) (.cells (wk.flatMap Op.cells).toArray 55))
  refine (wk_meet _ _ 0 1 false _ H0.out (by decide) (by decide +kernel)).mono ?_
  rintro e w1 ⟨rfl, hb⟩
  have H1 := hid (H0.out.keep hb)
  have B1 := hid (btrans B0.out hb)
  clear hb H0 B0
  go_wp2_with fail
  refine (wk_meet _ _ 0 2 true _ H1.out (by decide) (by decide +kernel)).mono ?_
  rintro e w2 ⟨rfl, hb⟩
  have H2 := hid (H1.out.keep hb)
  have B2 := hid (btrans B1.out hb)
  clear hb H1 B1
  go_wp2_with fail
  refine (wk_meet _ _ 0 4 true _ H2.out (by decide) (by decide +kernel)).mono ?_
  rintro e w3 ⟨rfl, hb⟩
  have H3 := hid (H2.out.keep hb)
  have B3 := hid (btrans B2.out hb)
  clear hb H2 B2
  go_wp2_with fail
  refine (wk_meet _ _ 1 0 false _ H3.out (by decide) (by decide +kernel)).mono ?_
  rintro e w4 ⟨rfl, hb⟩
  have H4 := hid (H3.out.keep hb)
  have B4 := hid (btrans B3.out hb)
  clear hb H3 B3
  go_wp2_with fail
  refine (wk_meet _ _ 0 0 false _ H4.out (by decide) (by decide +kernel)).mono ?_
  rintro e w5 ⟨rfl, hb⟩
  have H5 := hid (H4.out.keep hb)
  have B5 := hid (btrans B4.out hb)
  clear hb H4 B4
  go_wp2_with fail
  refine (wk_round _ _ 0 1 true _ H5.out (by decide +kernel)).mono ?_
  rintro e w6 ⟨rfl, hb⟩
  have H6 := hid (H5.out.keep hb)
  have B6 := hid (btrans B5.out hb)
  clear hb H5 B5
  go_wp2_with fail
  refine (wk3_round _ _ 0 1 false _ H6.out (by decide +kernel)).mono ?_
  rintro e w7 ⟨rfl, hb⟩
  have H7 := hid (H6.out.keep hb)
  have B7 := hid (btrans B6.out hb)
  clear hb H6 B6
  go_wp2_with fail
  refine (wk3_round _ _ 1 1 true _ H7.out (by decide +kernel)).mono ?_
  rintro e w8 ⟨rfl, hb⟩
  have B8 := hid (btrans B7.out hb)
  clear hb H7 B7
  go_wp2
  go_ret
  exact ⟨rfl, B8.out⟩
end Go.Proofs.Ytcibkoodnfkogaa
