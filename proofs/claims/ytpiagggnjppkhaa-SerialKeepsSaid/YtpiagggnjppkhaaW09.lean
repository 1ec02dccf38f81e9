/- What the document says of a short program. -/
import Derived.Test.YtpiagggnjppkhaaM22
import Derived.Test.YtpiagggnjppkhaaN1
namespace Go.Proofs.Ytpiagggnjppkhaa
open Go.RowKit
set_option linter.unusedVariables false
set_option linter.unusedSimpArgs false
def wkP : List Blk := [⟨[⟨1, 1, 0, 0, 3⟩], 3, 1, [⟨2, 2, 2, 1, 0⟩], 1, 0⟩, ⟨[⟨17, 0, 2, 0, 0⟩], 2, 2, [], 0, 0⟩]
theorem wkP_wf : ∀ b ∈ wkP, b.wf := by
  have h : ∀ o : Op, o = ⟨1, 1, 0, 0, 3⟩ ∨ o = ⟨2, 2, 2, 1, 0⟩ ∨ o = ⟨17, 0, 2, 0, 0⟩ → o.wf := fun o ho => by
    rcases ho with rfl | rfl | rfl <;> constructor <;> decide
  intro b hb
  rcases List.mem_cons.1 hb with rfl | hb
  · refine ⟨fun o ho => h o ?_, fun o ho => h o ?_, ?_, ?_, ?_, ?_, ?_, ?_, ?_, ?_, ?_, ?_⟩
    · exact .inl (List.mem_singleton.1 ho)
    · exact .inr (.inl (List.mem_singleton.1 ho))
    all_goals decide
  · rw [List.mem_singleton.1 hb]
    refine ⟨fun o ho => h o ?_, fun o ho => ?_, ?_, ?_, ?_, ?_, ?_, ?_, ?_, ?_, ?_, ?_⟩
    · exact .inr (.inr (List.mem_singleton.1 ho))
    · cases ho
    all_goals decide
theorem wk_new : newE wkP [] [] = 0 := by decide +kernel
theorem wk_run : (fun m : Mc => (outE m, outV m, m.prints, (outM m).length, m.steps)) (runM wkP 100 (newM [] [])) = (0, 9, [9], 256, 10) := by decide +kernel
theorem one_num {w : World} {b : Nat} {x : Int} (h : w.cell? ⟨b, 0, none⟩ = some (.int .i64 x)) : NumsIn w (some ⟨b, 0, none⟩) [x] := fun _ => ⟨b, 0, rfl, fun i y hi => by
  cases i with
  | zero => simp only [List.getElem?_cons_zero, Option.some.injEq] at hi; subst hi; simpa using h
  | succ i => simp at hi⟩
theorem one_op9 {w : World} {g : Nat} {x : Op} (h : OpAt w g 0 x) : OpsIn w (some ⟨g, 0, none⟩) [x] := fun _ => ⟨g, 0, rfl, fun i y hi => by
  cases i with
  | zero => simp only [List.getElem?_cons_zero, Option.some.injEq] at hi; subst hi; simpa using h
  | succ i => simp at hi⟩
theorem two_blk {w : World} {g : Nat} {b c : Blk} (h : BlkAt w g 0 b) (h2 : BlkAt w g 6 c) : BlksIn w (some ⟨g, 0, none⟩) [b, c] := fun _ => ⟨g, 0, rfl, fun i x hi => by
  match i with
  | 0 => simp only [List.getElem?_cons_zero, Option.some.injEq] at hi; subst hi; simpa using h
  | 1 => simp only [List.getElem?_cons_succ, List.getElem?_cons_zero, Option.some.injEq] at hi; subst hi; simpa using h2
  | i + 2 => simp at hi⟩
set_option maxHeartbeats 4000000 in
set_option maxRecDepth 100000 in
theorem wakes09_any (w : World) : Calls Try.prog 14 #[] w fun e w' => e = .returned (.bool true) ∧ Below w.heap.size w w' := by
  have C0 : Hid (∀ (w : World) (k : Nat), BlksIn w (some ⟨k, 0, none⟩) wkP → Calls Try.prog 12 #[.agg #[.slice (some ⟨k, 0, none⟩) 2 2], .agg #[.slice none 0 0, .slice none 0 0]] w (NewS wkP [] [] w)) := hid fun w k h => new_yes (some ⟨k, 0, none⟩) wkP 2 none none [] [] 0 0 w h wkP_wf (fun h => absurd rfl h) (fun h => absurd rfl h) wk_new
  have hp := prgE_ok wkP_wf (show prgE wkP = 0 by decide +kernel)
  have hok := newM_ok (r := []) (m := []) hp (fun x hx => by cases hx) (fun x hx => by cases hx) (by decide) (by decide)
  have C1 : Hid (∀ (w' : World) (g B : Nat) (S : Nat → Prop) (A : Option Addr) (cap : Nat), Mach w' g 106 322 B S A wkP cap 2 (.slice none 0 0) (newM [] []) doX →
      Calls Try.prog 16 #[.pointer (some ⟨g, 0, none⟩), .int .i64 100] w' fun e w'' => ∃ A1 A2 c1 c2, e = .returned (.agg #[.int .i64 0, .int .i64 9, .slice A1 1 c1, .slice A2 256 c2, .int .i64 10]) ∧ NumsIn w'' A1 [9] ∧ Trn g none w' w'') := hid fun w' g B S A cap h => by
    refine (run_loop_any h hp hok (by decide) 100 (by decide) (by decide)).mono ?_
    rintro e w'' ⟨pv', A1, A2, c1, c2, rfl, hW, h1, _⟩
    have hR := wk_run
    generalize runM wkP 100 (newM [] []) = mr at *
    simp only [Prod.mk.injEq] at hR
    obtain ⟨e1, e2, e3, e4, e5⟩ := hR
    rw [e1, e2, e4, e5, e3]
    rw [e3] at h1
    exact ⟨A1, A2, c1, c2, rfl, h1.1, hW.trn⟩
  have C2 : Hid (∀ (w : World) (A1 A2 : Option Addr) (c1 c2 : Nat), NumsIn w A1 [9] → NumsIn w A2 [9] → Calls Try.prog 21 #[.slice A1 1 c1, .slice A2 1 c2] w fun e w' => e = .returned (.bool true) ∧ Below w.heap.size w w') := hid (fun w A1 A2 c1 c2 h1 h2 => nums_same A1 A2 [9] c1 c2 w h1 h2 (by decide))
  clear hp hok
  go_enter Try.func14, Try.ntmps14
  go_wp2_with fail
  obtain ⟨W, hW⟩ : ∃ W : World, W = (((((w.alloc (.cells #[.int .i8 1, .int .u8 1, .int .u8 0, .int .u8 0, .int .i64 3] 53)).alloc (.cells #[.int .i8 2, .int .u8 2, .int .u8 2, .int .u8 1, .int .i64 0] 53)).alloc (.cells #[.int .i8 17, .int .u8 0, .int .u8 2, .int .u8 0, .int .i64 0] 53)).alloc (.cells #[.slice (some ⟨w.heap.size, 0, none⟩) 1 1, .int .i8 3, .int .u8 1, .slice (some ⟨w.heap.size + 1, 0, none⟩) 1 1, .int .i64 1, .int .i64 0, .slice (some ⟨w.heap.size + 1 + 1, 0, none⟩) 1 1, .int .i8 2, .int .u8 2, .slice none 0 0, .int .i64 0, .int .i64 0] 50)).alloc (.cells #[.slice (some ⟨w.heap.size + 1 + 1 + 1, 0, none⟩) 2 2] 24)) := ⟨_, rfl⟩
  rw [← hW]
  have hWs : W.heap.size = w.heap.size + 5 := by rw [hW]; simp
  have B0 : Hid (Below w.heap.size w W) := hid (by rw [hW]; ((with_reducible (repeat (first | assumption | exact Below.refl _ _ | refine bset ?_ (Nat.le_refl _) _ | refine balloc ?_ _ | refine bdrew ?_ | refine bdrewN ?_ _))); done))
  have o1 : OpsIn W (some ⟨w.heap.size, 0, none⟩) [⟨1, 1, 0, 0, 3⟩] := one_op9 ⟨by rw [hW]; go_simp, by rw [hW]; go_simp, by rw [hW]; go_simp, by rw [hW]; go_simp, by rw [hW]; go_simp⟩
  have o2 : OpsIn W (some ⟨w.heap.size + 1, 0, none⟩) [⟨2, 2, 2, 1, 0⟩] := one_op9 ⟨by rw [hW]; go_simp, by rw [hW]; go_simp, by rw [hW]; go_simp, by rw [hW]; go_simp, by rw [hW]; go_simp⟩
  have o3 : OpsIn W (some ⟨w.heap.size + 1 + 1, 0, none⟩) [⟨17, 0, 2, 0, 0⟩] := one_op9 ⟨by rw [hW]; go_simp, by rw [hW]; go_simp, by rw [hW]; go_simp, by rw [hW]; go_simp, by rw [hW]; go_simp⟩
  have bP : Hid (BlksIn W (some ⟨w.heap.size + 1 + 1 + 1, 0, none⟩) wkP) := hid (two_blk ⟨_, 1, _, 1, by rw [hW]; go_simp; try rfl, by rw [hW]; go_simp; try rfl, by rw [hW]; go_simp; try rfl, by rw [hW]; go_simp; try rfl, by rw [hW]; go_simp; try rfl, by rw [hW]; go_simp; try rfl, o1, o2, by decide, by decide, (fun h => by cases h), fun h => by cases h⟩ ⟨_, 1, none, 0, by rw [hW]; go_simp; try rfl, by rw [hW]; go_simp; try rfl, by rw [hW]; go_simp; try rfl, by rw [hW]; go_simp; try rfl, by rw [hW]; go_simp; try rfl, by rw [hW]; go_simp; try rfl, o3, (fun h => absurd rfl h), by decide, by decide, (fun h => by cases h), fun _ => rfl⟩)
  clear hW o1 o2 o3
  with_reducible refine (C0.out _ _ bP.out).mono ?_
  rintro e w1 ⟨g, A, cap, rfl, hM, hb, hwg⟩
  have B1 := hid (btrans B0.out hb)
  have M1 := hid hM
  have hgw : w.heap.size ≤ g := by omega
  clear hM hb C0
  go_wp2_with fail
  with_reducible refine (C1.out _ _ _ _ _ _ M1.out).mono ?_
  rintro e w2 ⟨A1, A2, c1, c2, rfl, h1, ht⟩
  have B2 := hid (below_trn B1.out ht (Nat.le_refl _) hgw)
  have N2 := hid h1
  clear h1 ht C1 M1 B1
  go_wp2_with fail
  with_reducible refine (C2.out _ _ _ _ _ (N2.out.keep ?_) (one_num ?_)).mono ?_
  · ((with_reducible (repeat (first | assumption | exact Below.refl _ _ | refine bset ?_ (Nat.le_refl _) _ | refine balloc ?_ _ | refine bdrew ?_ | refine bdrewN ?_ _))); done)
  · go_simp
  rintro e w3 ⟨rfl, hb⟩
  have B3 := hid (btrans (btrans B2.out (show Below w2.heap.size w2 _ by ((with_reducible (repeat (first | assumption | exact Below.refl _ _ | refine bset ?_ (Nat.le_refl _) _ | refine balloc ?_ _ | refine bdrew ?_ | refine bdrewN ?_ _))); done))) hb)
  obtain ⟨hc, hf⟩ := bcell hb
  have hz := hb.size
  (try simp at hz)
  have hz0 : w2.heap.size < w3.heap.size := by omega
  go_wp2
  go_ret
  exact ⟨rfl, B3.out⟩
end Go.Proofs.Ytpiagggnjppkhaa
