/- What the document says of one bundle. -/
import Derived.Test.YtcibkoodnfkogaaBu9
import Derived.Test.YtcibkoodnfkogaaPrg17
namespace Go.Proofs.Ytcibkoodnfkogaa
open Go.RowKit
set_option linter.unusedVariables false
set_option linter.unusedSimpArgs false
theorem TabIn.boxW {t : List Int} (ht : t.length = 13) (w : World) (T : TypeId) : TabIn (w.alloc (.cells #[.int .i64 (t[(0 : Nat)]?.getD 0), .int .i64 (t[(1 : Nat)]?.getD 0), .int .i64 (t[(2 : Nat)]?.getD 0), .int .i64 (t[(3 : Nat)]?.getD 0), .int .i64 (t[(4 : Nat)]?.getD 0), .int .i64 (t[(5 : Nat)]?.getD 0), .int .i64 (t[(6 : Nat)]?.getD 0), .int .i64 (t[(7 : Nat)]?.getD 0), .int .i64 (t[(8 : Nat)]?.getD 0), .int .i64 (t[(9 : Nat)]?.getD 0), .int .i64 (t[(10 : Nat)]?.getD 0), .int .i64 (t[(11 : Nat)]?.getD 0), .int .i64 (t[(12 : Nat)]?.getD 0)] T)) w.heap.size t := by
  obtain ⟨a0, a1, a2, a3, a4, a5, a6, a7, a8, a9, a10, a11, a12, rfl⟩ := thirteen ht
  exact TabIn.box a0 a1 a2 a3 a4 a5 a6 a7 a8 a9 a10 a11 a12 w T
theorem own_words {w : World} {base g n cap : Nat} {l : List Int} (h : OwnW w base (.slice (some ⟨g, 0, none⟩) n cap) l) (hn : n = l.length) : WordsIn w (some ⟨g, 0, none⟩) l := fun _ => by
  subst hn
  refine ⟨_, _, rfl, fun i x hi => ?_⟩
  have hlt : i < l.length := (List.getElem?_eq_some_iff.1 hi).1
  rw [Nat.zero_add, World.ownsRow.cellAt h i (by omega)]
  unfold u64V
  rw [List.getElem?_map, hi]
  rfl
theorem own_slice {w : World} {base : Nat} {v : Value} {l : List Int} (h : OwnW w base v l) : ∃ (A : Option Addr) (cap : Nat), v = .slice A l.length cap ∧ WordsIn w A l ∧ l.length ≤ cap ∧ cap ≤ maxLen ∧ (∀ a, A = some a → a.block < w.heap.size ∧ base ≤ a.block) := by
  rcases h.2 with ⟨hv, h0⟩ | ⟨g, cap, cur, hv, hb, hg, hn, hm, rest⟩
  · have : l = [] := List.eq_nil_of_length_eq_zero h0
    subst this
    exact ⟨none, 0, hv, fun h => absurd rfl h, Nat.le_refl _, Nat.zero_le _, fun a ha => by cases ha⟩
  · subst hv
    exact ⟨_, cap, rfl, own_words h rfl, hn, hm, fun a ha => by injection ha with ha; subst ha; exact ⟨(Array.getElem?_eq_some_iff.1 hg).1, hb⟩⟩
theorem new_words (w : World) (l : List Int) (T : TypeId) : WordsIn (w.alloc (.cells (u64V l).toArray T)) (some ⟨w.heap.size, 0, none⟩) l := fun _ => by
  refine ⟨_, _, rfl, fun i x hi => ?_⟩
  rw [Nat.zero_add, cell_of_row _ _ _ _ _ _ (heap_alloc_new _ _), List.getElem?_toArray]
  unfold u64V
  rw [List.getElem?_map, hi]
  rfl
def bWk : Nat → List Op := fun j => if j = 0 then [⟨2, 1, 2, 3, 0⟩] else if j = 2 then [⟨15, 4, 5, 0, -1⟩] else []
def tWk : List Int := [1, 1, 2, 1, 1, 1, 1, 1, 1, 1, 1, 1, 0]
theorem bWk_wf : ∀ b ∈ [bWk], BunWf b := fun b hb => by
  simp only [List.mem_cons, List.not_mem_nil, or_false] at hb
  subst hb
  intro j hj
  obtain rfl | rfl | rfl | rfl : j = 0 ∨ j = 1 ∨ j = 2 ∨ j = 3 := by omega
  all_goals
    refine ⟨fun o ho => ?_, by decide⟩
    simp [bWk] at ho
    try (subst ho; constructor <;> decide)
theorem one_bun {w : World} {g : Nat} {b : Nat → List Op} (h : BunAt w g 0 b) : BunsIn w (some ⟨g, 0, none⟩) [b] := fun _ => ⟨g, 0, rfl, fun i x hi => by
  cases i with
  | zero => simp only [List.getElem?_cons_zero, Option.some.injEq] at hi; subst hi; simpa using h
  | succ i => simp at hi⟩
set_option maxHeartbeats 4000000 in
set_option maxRecDepth 100000 in
theorem wakes19_any (w : World) : Calls Try.prog 46 #[] w fun e w' => e = .returned (.bool true) ∧ Below w.heap.size w w' := by
  have C1 : Hid (∀ (w : World) (g : Nat), BunsIn w (some ⟨g, 0, none⟩) [bWk] → Calls Try.prog 45 #[.slice (some ⟨g, 0, none⟩) 1 1, tabX 1 1 2 1 1 1 1 1 1 1 1 1 0] w (EncP [bWk] tWk w)) := hid fun w g h => encode_any (some ⟨g, 0, none⟩) [bWk] 1 tWk w h bWk_wf rfl (by decide)
  have C2 : Hid (∀ (w : World) (g : Nat), WordsIn w (some ⟨g, 0, none⟩) [1, 2, 3] → g < w.heap.size → Calls Try.prog 48 #[.slice (some ⟨g, 0, none⟩) 3 3, tabX 1 1 2 1 1 1 1 1 1 1 1 1 0] w (DecP tWk [1, 2, 3] w)) := hid fun w g h hg => decode_any (some ⟨g, 0, none⟩) [1, 2, 3] 3 tWk w h (by decide) (by decide) (by decide) rfl
  have hE : Hid (encE [bWk] tWk = 0) := hid (by decide +kernel)
  have hEL : Hid (encL tWk [bWk] = [200770, 0, 9007199252654351, 0, 0]) := hid (by decide +kernel)
  have hDE : Hid (decE tWk [1, 2, 3] = 210) := hid (by decide +kernel)
  go_enter Try.func46, Try.ntmps46
  go_wp2_with fail
  obtain ⟨W, hW⟩ : ∃ W : World, W = ((((w.alloc (.cells #[.int .i64 1, .int .i64 1, .int .i64 2, .int .i64 1, .int .i64 1, .int .i64 1, .int .i64 1, .int .i64 1, .int .i64 1, .int .i64 1, .int .i64 1, .int .i64 1, .int .i64 0] 28)).alloc (.cells #[.slice (some ⟨w.heap.size + 1 + 1, 0, none⟩) 1 1, .slice none 0 0, .slice (some ⟨w.heap.size + 1 + 1 + 1, 0, none⟩) 1 1, .slice none 0 0] 91)).alloc (.cells #[.int .i8 2, .int .u8 1, .int .u8 2, .int .u8 3, .int .i64 0] 55)).alloc (.cells #[.int .i8 15, .int .u8 4, .int .u8 5, .int .u8 0, .int .i64 (-1)] 55)).alloc (.cells #[.slice (some ⟨w.heap.size + 1 + 1, 0, none⟩) 1 1, .slice none 0 0, .slice (some ⟨w.heap.size + 1 + 1 + 1, 0, none⟩) 1 1, .slice none 0 0] 91) := ⟨_, rfl⟩
  have o0 : OpsIn W (some ⟨w.heap.size + 1 + 1, 0, none⟩) [⟨2, 1, 2, 3, 0⟩] := one_op ⟨by subst hW; go_simp, by subst hW; go_simp, by subst hW; go_simp, by subst hW; go_simp, by subst hW; go_simp⟩
  have o2 : OpsIn W (some ⟨w.heap.size + 1 + 1 + 1, 0, none⟩) [⟨15, 4, 5, 0, -1⟩] := one_op ⟨by subst hW; go_simp, by subst hW; go_simp, by subst hW; go_simp, by subst hW; go_simp, by subst hW; go_simp⟩
  have q0 : W.cell? ⟨w.heap.size + 1 + 1 + 1 + 1, 0, none⟩ = some (.slice (some ⟨w.heap.size + 1 + 1, 0, none⟩) 1 1) := by subst hW; go_simp
  have q1 : W.cell? ⟨w.heap.size + 1 + 1 + 1 + 1, 1, none⟩ = some (.slice none 0 0) := by subst hW; go_simp
  have q2 : W.cell? ⟨w.heap.size + 1 + 1 + 1 + 1, 2, none⟩ = some (.slice (some ⟨w.heap.size + 1 + 1 + 1, 0, none⟩) 1 1) := by subst hW; go_simp
  have q3 : W.cell? ⟨w.heap.size + 1 + 1 + 1 + 1, 3, none⟩ = some (.slice none 0 0) := by subst hW; go_simp
  have bI : Hid (BunsIn W (some ⟨w.heap.size + 1 + 1 + 1 + 1, 0, none⟩) [bWk]) := hid (one_bun ⟨fun j => if j = 0 then some ⟨w.heap.size + 1 + 1, 0, none⟩ else if j = 2 then some ⟨w.heap.size + 1 + 1 + 1, 0, none⟩ else none, fun j => if j = 0 then 1 else if j = 2 then 1 else 0, fun j hj => by
    obtain rfl | rfl | rfl | rfl : j = 0 ∨ j = 1 ∨ j = 2 ∨ j = 3 := by omega
    · exact ⟨q0, o0, by decide, fun h => by cases h⟩
    · exact ⟨q1, fun h => absurd rfl h, by decide, fun _ => rfl⟩
    · exact ⟨q2, o2, by decide, fun h => by cases h⟩
    · exact ⟨q3, fun h => absurd rfl h, by decide, fun _ => rfl⟩⟩)
  have tT : Hid (TabIn W w.heap.size tWk) := by
    intro j hj
    subst hW
    obtain rfl | rfl | rfl | rfl | rfl | rfl | rfl | rfl | rfl | rfl | rfl | rfl | rfl : j = 0 ∨ j = 1 ∨ j = 2 ∨ j = 3 ∨ j = 4 ∨ j = 5 ∨ j = 6 ∨ j = 7 ∨ j = 8 ∨ j = 9 ∨ j = 10 ∨ j = 11 ∨ j = 12 := by omega
    all_goals (go_simp; try rfl)
  have B0 : Hid (Below w.heap.size w W) := hid (by subst hW; ((with_reducible (repeat (first | assumption | exact Below.refl _ _ | refine bset ?_ (Nat.le_refl _) _ | refine balloc ?_ _ | refine bdrew ?_ | refine bdrewN ?_ _))); done))
  rw [← hW]
  clear hW o0 o2 q0 q1 q2 q3
  refine (C1.out _ _ bI.out).mono ?_
  rintro e w1 ⟨v, rfl, hb, _, hown⟩
  have B1 := hid (btrans B0.out hb)
  have T1 := hid (tT.out.keep hb)
  have hown2 := hown hE.out
  rw [hEL.out] at hown2
  rw [hE.out]
  obtain ⟨A, cap, rfl, hwi, _, _, _⟩ := own_slice hown2
  have HWI := hid hwi
  clear hb hown hown2 hwi
  have y0 : w1.cell? ⟨w.heap.size, 0, none⟩ = some (.int .i64 1) := T1.out 0 (by omega)
  have y1 : w1.cell? ⟨w.heap.size, 1, none⟩ = some (.int .i64 1) := T1.out 1 (by omega)
  have y2 : w1.cell? ⟨w.heap.size, 2, none⟩ = some (.int .i64 2) := T1.out 2 (by omega)
  have y3 : w1.cell? ⟨w.heap.size, 3, none⟩ = some (.int .i64 1) := T1.out 3 (by omega)
  have y4 : w1.cell? ⟨w.heap.size, 4, none⟩ = some (.int .i64 1) := T1.out 4 (by omega)
  have y5 : w1.cell? ⟨w.heap.size, 5, none⟩ = some (.int .i64 1) := T1.out 5 (by omega)
  have y6 : w1.cell? ⟨w.heap.size, 6, none⟩ = some (.int .i64 1) := T1.out 6 (by omega)
  have y7 : w1.cell? ⟨w.heap.size, 7, none⟩ = some (.int .i64 1) := T1.out 7 (by omega)
  have y8 : w1.cell? ⟨w.heap.size, 8, none⟩ = some (.int .i64 1) := T1.out 8 (by omega)
  have y9 : w1.cell? ⟨w.heap.size, 9, none⟩ = some (.int .i64 1) := T1.out 9 (by omega)
  have y10 : w1.cell? ⟨w.heap.size, 10, none⟩ = some (.int .i64 1) := T1.out 10 (by omega)
  have y11 : w1.cell? ⟨w.heap.size, 11, none⟩ = some (.int .i64 1) := T1.out 11 (by omega)
  have y12 : w1.cell? ⟨w.heap.size, 12, none⟩ = some (.int .i64 0) := T1.out 12 (by omega)
  have hzz : w.heap.size < w1.heap.size := World.block_lt_of_cell? w1 _ y0
  go_wp2_with fail
  refine (C2.out _ _ (new_words w1 [1, 2, 3] _) (by simp)).mono ?_
  rintro e w2 ⟨A2, n2, c2, rfl, hb, hne, _⟩
  obtain ⟨rfl, rfl, rfl⟩ := hne (by rw [hDE.out]; decide)
  rw [hDE.out]
  have B2 : Hid (Below w.heap.size w w2) := hid (btrans B1.out (below_old hb))
  have W2 : Hid (WordsIn w2 A [200770, 0, 9007199252654351, 0, 0]) := hid (HWI.out.keep (below_old hb))
  clear hb hne y0 y1 y2 y3 y4 y5 y6 y7 y8 y9 y10 y11 y12
  go_wp2_with fail
  refine Calls.mono (show Calls _ _ #[.slice A 5 cap, .slice (some ⟨w2.heap.size, 0, none⟩) 5 5] (w2.alloc (.cells #[.int .u64 200770, .int .u64 0, .int .u64 9007199252654351, .int .u64 0, .int .u64 0] 85)) _ from words_any A (some ⟨w2.heap.size, 0, none⟩) [200770, 0, 9007199252654351, 0, 0] cap 5 _ (W2.out.keep (balloc (Below.refl _ _) _)) (new_words w2 _ _) (by decide)) ?_
  rintro e w3 ⟨rfl, hb⟩
  go_wp2_with fail
  go_ret
  exact ⟨rfl, btrans B2.out (below_old hb)⟩
end Go.Proofs.Ytcibkoodnfkogaa
