/- What the document says of a short program. -/
import Derived.Test.YtpiagggnjppkhaaZ27
namespace Go.Proofs.Ytpiagggnjppkhaa
open Go.RowKit
set_option linter.unusedVariables false
set_option linter.unusedSimpArgs false
section
open Go.RowKit
def wkP : List Blk := [⟨[⟨1, 1, 0, 0, 3⟩], 3, 1, [⟨2, 2, 2, 1, 0⟩], 1, 0⟩, ⟨[⟨17, 0, 2, 0, 0⟩], 2, 2, [], 0, 0⟩]
theorem wkP_wf : ∀ b ∈ wkP, b.wf := by
  have h : ∀ o : Op, o = ⟨1, 1, 0, 0, 3⟩ ∨ o = ⟨2, 2, 2, 1, 0⟩ ∨ o = ⟨17, 0, 2, 0, 0⟩ → o.wf := fun o ho => by
    rcases ho with rfl | rfl | rfl <;> constructor <;> decide
  intro b hb
  rcases List.mem_cons.1 hb with rfl | hb
  · refine ⟨fun o ho => h o ?_, fun o ho => h o ?_, ?_, ?_, ?_, ?_, ?_, ?_, ?_, ?_, ?_, ?_⟩
    · exact .inl (List.mem_singleton.1 ho)
    · exact .inr (.inl (List.mem_singleton.1 ho))
    all_goals decide
  · rw [List.mem_singleton.1 hb]
    refine ⟨fun o ho => h o ?_, fun o ho => ?_, ?_, ?_, ?_, ?_, ?_, ?_, ?_, ?_, ?_, ?_⟩
    · exact .inr (.inr (List.mem_singleton.1 ho))
    · cases ho
    all_goals decide
theorem wk_new : newE wkP [] [] = 0 := by decide +kernel
theorem wk_run : (fun m : Mc => (outE m, outV m, m.prints, (outM m).length, m.steps)) (runM wkP 100 (newM [] [])) = (0, 9, [9], 256, 10) := by decide +kernel
theorem one_num {w : World} {b : Nat} {x : Int} (h : w.cell? ⟨b, 0, none⟩ = some (.int .i64 x)) : NumsIn w (some ⟨b, 0, none⟩) [x] := fun _ => ⟨b, 0, rfl, fun i y hi => by
  cases i with
  | zero => simp only [List.getElem?_cons_zero, Option.some.injEq] at hi; subst hi; simpa using h
  | succ i => simp at hi⟩
theorem one_op9 {w : World} {g : Nat} {x : Op} (h : OpAt w g 0 x) : OpsIn w (some ⟨g, 0, none⟩) [x] := fun _ => ⟨g, 0, rfl, fun i y hi => by
  cases i with
  | zero => simp only [List.getElem?_cons_zero, Option.some.injEq] at hi; subst hi; simpa using h
  | succ i => simp at hi⟩
theorem two_blk {w : World} {g : Nat} {b c : Blk} (h : BlkAt w g 0 b) (h2 : BlkAt w g 6 c) : BlksIn w (some ⟨g, 0, none⟩) [b, c] := fun _ => ⟨g, 0, rfl, fun i x hi => by
  match i with
  | 0 => simp only [List.getElem?_cons_zero, Option.some.injEq] at hi; subst hi; simpa using h
  | 1 => simp only [List.getElem?_cons_succ, List.getElem?_cons_zero, Option.some.injEq] at hi; subst hi; simpa using h2
  | i + 2 => simp at hi⟩
set_option maxHeartbeats 4000000 in
set_option maxRecDepth 100000 in
theorem wakes09_any (w : World) : Calls Try.prog 14 #[] w fun e w' => e = .returned (.bool true) ∧ Below w.heap.size w w' := by
  have C0 : Hid (∀ (w : World) (k : Nat), BlksIn w (some ⟨k, 0, none⟩) wkP → Calls Try.prog 12 #[.agg #[.slice (some ⟨k, 0, none⟩) 2 2], .agg #[.slice none 0 0, .slice none 0 0]] w (NewS wkP [] [] w)) := hid fun w k h => new_yes (some ⟨k, 0, none⟩) wkP 2 none none [] [] 0 0 w h wkP_wf (fun h => absurd rfl h) (fun h => absurd rfl h) wk_new
  have hp := prgE_ok wkP_wf (show prgE wkP = 0 by decide +kernel)
  have hok := newM_ok (r := []) (m := []) hp (fun x hx => by cases hx) (fun x hx => by cases hx) (by decide) (by decide)
  have C1 : Hid (∀ (w' : World) (g B : Nat) (S : Nat → Prop) (A : Option Addr) (cap : Nat), Mach w' g 106 322 B S A wkP cap 2 (.slice none 0 0) (newM [] []) doX →
      Calls Try.prog 16 #[.pointer (some ⟨g, 0, none⟩), .int .i64 100] w' fun e w'' => ∃ A1 A2 c1 c2, e = .returned (.agg #[.int .i64 0, .int .i64 9, .slice A1 1 c1, .slice A2 256 c2, .int .i64 10]) ∧ NumsIn w'' A1 [9] ∧ Trn g none w' w'') := hid fun w' g B S A cap h => by
    refine (run_loop_any h hp hok (by decide) 100 (by decide) (by decide)).mono ?_
    rintro e w'' ⟨pv', A1, A2, c1, c2, rfl, hW, h1, _⟩
    have hR := wk_run
    generalize runM wkP 100 (newM [] []) = mr at *
    simp only [Prod.mk.injEq] at hR
    obtain ⟨e1, e2, e3, e4, e5⟩ := hR
    rw [e1, e2, e4, e5, e3]
    rw [e3] at h1
    exact ⟨A1, A2, c1, c2, rfl, h1.1, hW.trn⟩
  have C2 : Hid (∀ (w : World) (A1 A2 : Option Addr) (c1 c2 : Nat), NumsIn w A1 [9] → NumsIn w A2 [9] → Calls Try.prog 21 #[.slice A1 1 c1, .slice A2 1 c2] w fun e w' => e = .returned (.bool true) ∧ Below w.heap.size w w') := hid (fun w A1 A2 c1 c2 h1 h2 => nums_same A1 A2 [9] c1 c2 w h1 h2 (by decide))
  clear hp hok
  go_enter Try.func14, Try.ntmps14
  go_wp2_with fail
  obtain ⟨W, hW⟩ : ∃ W : World, W = (((((w.alloc (.cells #[.int .i8 1, .int .u8 1, .int .u8 0, .int .u8 0, .int .i64 3] 53)).alloc (.cells #[.int .i8 2, .int .u8 2, .int .u8 2, .int .u8 1, .int .i64 0] 53)).alloc (.cells #[.int .i8 17, .int .u8 0, .int .u8 2, .int .u8 0, .int .i64 0] 53)).alloc (.cells #[.slice (some ⟨w.heap.size, 0, none⟩) 1 1, .int .i8 3, .int .u8 1, .slice (some ⟨w.heap.size + 1, 0, none⟩) 1 1, .int .i64 1, .int .i64 0, .slice (some ⟨w.heap.size + 1 + 1, 0, none⟩) 1 1, .int .i8 2, .int .u8 2, .slice none 0 0, .int .i64 0, .int .i64 0] 50)).alloc (.cells #[.slice (some ⟨w.heap.size + 1 + 1 + 1, 0, none⟩) 2 2] 24)) := ⟨_, rfl⟩
  rw [← hW]
  have hWs : W.heap.size = w.heap.size + 5 := by rw [hW]; simp
  have B0 : Hid (Below w.heap.size w W) := hid (by rw [hW]; ((with_reducible (repeat (first | assumption | exact Below.refl _ _ | refine bset ?_ (Nat.le_refl _) _ | refine balloc ?_ _ | refine bdrew ?_ | refine bdrewN ?_ _))); done))
  have o1 : OpsIn W (some ⟨w.heap.size, 0, none⟩) [⟨1, 1, 0, 0, 3⟩] := one_op9 ⟨by rw [hW]; go_simp, by rw [hW]; go_simp, by rw [hW]; go_simp, by rw [hW]; go_simp, by rw [hW]; go_simp⟩
  have o2 : OpsIn W (some ⟨w.heap.size + 1, 0, none⟩) [⟨2, 2, 2, 1, 0⟩] := one_op9 ⟨by rw [hW]; go_simp, by rw [hW]; go_simp, by rw [hW]; go_simp, by rw [hW]; go_simp, by rw [hW]; go_simp⟩
  have o3 : OpsIn W (some ⟨w.heap.size + 1 + 1, 0, none⟩) [⟨17, 0, 2, 0, 0⟩] := one_op9 ⟨by rw [hW]; go_simp, by rw [hW]; go_simp, by rw [hW]; go_simp, by rw [hW]; go_simp, by rw [hW]; go_simp⟩
  have bP : Hid (BlksIn W (some ⟨w.heap.size + 1 + 1 + 1, 0, none⟩) wkP) := hid (two_blk ⟨_, 1, _, 1, by rw [hW]; go_simp; try rfl, by rw [hW]; go_simp; try rfl, by rw [hW]; go_simp; try rfl, by rw [hW]; go_simp; try rfl, by rw [hW]; go_simp; try rfl, by rw [hW]; go_simp; try rfl, o1, o2, by decide, by decide, (fun h => by cases h), fun h => by cases h⟩ ⟨_, 1, none, 0, by rw [hW]; go_simp; try rfl, by rw [hW]; go_simp; try rfl, by rw [hW]; go_simp; try rfl, by rw [hW]; go_simp; try rfl, by rw [hW]; go_simp; try rfl, by rw [hW]; go_simp; try rfl, o3, (fun h => absurd rfl h), by decide, by decide, (fun h => by cases h), fun _ => rfl⟩)
  clear hW o1 o2 o3
  with_reducible refine (C0.out _ _ bP.out).mono ?_
  rintro e w1 ⟨g, A, cap, rfl, hM, hb, hwg⟩
  have B1 := hid (btrans B0.out hb)
  have M1 := hid hM
  have hgw : w.heap.size ≤ g := by omega
  clear hM hb C0
  go_wp2_with fail
  with_reducible refine (C1.out _ _ _ _ _ _ M1.out).mono ?_
  rintro e w2 ⟨A1, A2, c1, c2, rfl, h1, ht⟩
  have B2 := hid (below_trn B1.out ht (Nat.le_refl _) hgw)
  have N2 := hid h1
  clear h1 ht C1 M1 B1
  go_wp2_with fail
  with_reducible refine (C2.out _ _ _ _ _ (N2.out.keep ?_) (one_num ?_)).mono ?_
  · ((with_reducible (repeat (first | assumption | exact Below.refl _ _ | refine bset ?_ (Nat.le_refl _) _ | refine balloc ?_ _ | refine bdrew ?_ | refine bdrewN ?_ _))); done)
  · go_simp
  rintro e w3 ⟨rfl, hb⟩
  have B3 := hid (btrans (btrans B2.out (show Below w2.heap.size w2 _ by ((with_reducible (repeat (first | assumption | exact Below.refl _ _ | refine bset ?_ (Nat.le_refl _) _ | refine balloc ?_ _ | refine bdrew ?_ | refine bdrewN ?_ _))); done))) hb)
  obtain ⟨hc, hf⟩ := bcell hb
  have hz := hb.size
  (try simp at hz)
  have hz0 : w2.heap.size < w3.heap.size := by omega
  go_wp2
  go_ret
  exact ⟨rfl, B3.out⟩
end
/- What nothing writes stays: what was seen of the operations. -/
section
open Go.RowKit
theorem trn_below {K g : Nat} {r : Option Nat} {w w' : World} (t : Trn g r w w') (hK : K ≤ w.heap.size) (hg : K ≤ g) (hr : ∀ k, r = some k → K ≤ k) : Below K w w' :=
  ⟨t.os, t.tape, t.output, t.size, fun k hk => t.block k (by omega) (by omega) (fun e => by have := hr k e.symm; omega)⟩
def wrS (W : List Bool) (o : Op) : List Bool := if wrB o then W.set (wrN o).toNat true else W
/-- Of the operations d that were seen: what is not marked is not written. -/
def KK (W : List Bool) (s : Bool) (d : List Op) : Prop :=
  W.length = 32 ∧ (∀ r : Nat, r < 32 → W[r]?.getD false = false → ∀ o ∈ d, o.k ≤ 15 → o.d.toNat ≠ r) ∧ (s = false → ∀ o ∈ d, o.k ≠ 16)
theorem wr_ok {o : Op} (h : opOk o = true) (hw : o.wf) (hk : o.k ≤ 15) : wrB o = true ∧ wrN o = o.d := by
  have h2 : chk o = true := by
    unfold opOk at h
    simp only [Bool.and_eq_true] at h
    exact h.2
  have h1 := (opOk_bd h hw).1
  have hd : (shp o.k).d = true := by
    obtain ⟨k, hk2⟩ : ∃ k : Nat, o.k = k := ⟨o.k.toNat, by omega⟩
    rw [hk2] at hk h1 ⊢
    obtain rfl | rfl | rfl | rfl | rfl | rfl | rfl | rfl | rfl | rfl | rfl | rfl | rfl | rfl | rfl : k = 1 ∨ k = 2 ∨ k = 3 ∨ k = 4 ∨ k = 5 ∨ k = 6 ∨ k = 7 ∨ k = 8 ∨ k = 9 ∨ k = 10 ∨ k = 11 ∨ k = 12 ∨ k = 13 ∨ k = 14 ∨ k = 15 := by omega
    all_goals rfl
  have h3 : wrB o = true := by unfold wrB; rw [hd, h2]; rfl
  exact ⟨h3, by unfold wrN; rw [h3]; rfl⟩
theorem KK.nil : KK (List.replicate 32 false) false [] := ⟨by simp, (fun _ _ _ _ h => by cases h), fun _ _ h => by cases h⟩
theorem KK.snoc {W : List Bool} {s : Bool} {d : List Op} {o : Op} (h : KK W s d) (ho : opOk o = true) (hw : o.wf) : KK (wrS W o) (s || o.k == 16) (d ++ [o]) := by
  obtain ⟨h1, h2, h3⟩ := h
  refine ⟨by unfold wrS; split <;> simp [h1], fun r hr hf x hx hk => ?_, fun hs x hx => ?_⟩
  · rcases List.mem_append.1 hx with hx | hx
    · refine h2 r hr ?_ x hx hk
      unfold wrS at hf
      split at hf
      · by_cases e : (wrN o).toNat = r
        · rw [e, List.getElem?_set_self (by omega)] at hf
          cases hf
        · rwa [List.getElem?_set_ne e] at hf
      · exact hf
    · obtain rfl := List.mem_singleton.1 hx
      obtain ⟨e1, e2⟩ := wr_ok ho hw hk
      intro e
      unfold wrS at hf
      rw [if_pos e1, e2, e, List.getElem?_set_self (by omega)] at hf
      cases hf
  · rw [Bool.or_eq_false_iff] at hs
    rcases List.mem_append.1 hx with hx | hx
    · exact h3 hs.1 x hx
    · obtain rfl := List.mem_singleton.1 hx
      simpa using hs.2
def flatO (l : List Blk) : List Op := l.flatMap fun b => b.ops ++ b.body
theorem flat_mem {l : List Blk} {b : Blk} {o : Op} (hb : b ∈ l) (ho : o ∈ b.ops ∨ o ∈ b.body) : o ∈ flatO l := List.mem_flatMap.2 ⟨b, hb, List.mem_append.2 ho⟩
theorem flat_take {l : List Blk} {i : Nat} (hi : i < l.length) : flatO (l.take (i + 1)) = flatO (l.take i) ++ l[i].ops ++ l[i].body := by
  unfold flatO
  rw [List.take_succ_eq_append_getElem hi, List.flatMap_append, List.append_assoc]
  simp
theorem KK.keepsR {l : List Blk} {W : List Bool} {s : Bool} (h : KK W s (flatO l)) {r : Nat} (hr : r < 32) (hf : W[r]?.getD false = false) : Go.Proofs.Ytpiagggnjppkhaa.keepsR l r := fun _ hb o ho hk => h.2.1 r hr hf o (flat_mem hb ho) hk
theorem KK.keepsM {l : List Blk} {W : List Bool} {s : Bool} (h : KK W s (flatO l)) (hs : s = false) : Go.Proofs.Ytpiagggnjppkhaa.keepsM l := fun _ hb o ho => h.2.2 hs o (flat_mem hb ho)
/-- The array of what is written. -/
def wrF (W : List Bool) (k : Nat) : Value := .bool (W[k]?.getD false)
theorem wr_set {W : List Bool} {o : Op} (h : W.length = 32) (hb : wrB o = true) (k : Nat) (hk : k < 32) : (if k = (wrN o).toNat then Value.bool true else wrF W k) = wrF (wrS W o) k := by
  unfold wrF wrS
  rw [if_pos hb]
  split
  · next e => rw [← e, List.getElem?_set_self (by omega)]; rfl
  · next e => rw [List.getElem?_set_ne (Ne.symm e)]
theorem wrN_bd {o : Op} (ho : opOk o = true) (hw : o.wf) : 0 ≤ wrN o ∧ wrN o < 32 := by
  have := opOk_bd ho hw
  unfold wrN
  split <;> omega
/-- What holds while the operations are looked at. -/
structure KeepAt (w0 w : World) (g : Nat) (W : List Bool) (s : Bool) (d : List Op) : Prop where
  arr : FnAt w g 46 32 (wrF W)
  trn : Trn g none w0 w
  kk : KK W s d
theorem KeepAt.below {w0 w w' : World} {g : Nat} {W : List Bool} {s : Bool} {d : List Op} (h : KeepAt w0 w g W s d) (hb : Below w.heap.size w w') : KeepAt w0 w' g W s d := ⟨h.arr.keep hb, h.trn.below hb, h.kk⟩
theorem KeepAt.same {w0 w : World} {g : Nat} {W W' : List Bool} {s s' : Bool} {d d' : List Op} (h : KeepAt w0 w g W s d) (hW : W' = W) (hk : KK W' s' d') : KeepAt w0 w g W' s' d' := ⟨by rw [hW]; exact h.arr, h.trn, hk⟩
theorem KeepAt.put {w0 w : World} {g : Nat} {W : List Bool} {s s' : Bool} {d d' : List Op} {o : Op} (h : KeepAt w0 w g W s d) (hb : wrB o = true) (hk : KK (wrS W o) s' d') : KeepAt w0 (w.setCell ⟨g, (wrN o).toNat, none⟩ (.bool true)) g (wrS W o) s' d' :=
  ⟨(h.arr.set _ _).congr fun k hk2 => wr_set h.kk.1 hb k hk2, h.trn.set _ _, hk⟩
end
end Go.Proofs.Ytpiagggnjppkhaa
