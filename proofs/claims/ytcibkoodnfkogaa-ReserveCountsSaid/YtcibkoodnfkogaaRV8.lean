/- The law's wakes; no table has nothing. -/
import Derived.Test.YtcibkoodnfkogaaRV7
namespace Go.Proofs.Ytcibkoodnfkogaa
open Go.RowKit Go.Maps
set_option linter.unusedVariables false
set_option linter.unusedSimpArgs false
theorem moreF_3 (a k : Int) : moreF (fun x => x) a 3 k = if a ≤ k ∧ k ≤ a + 2 then 1 else 0 := by
  simp only [moreF]
  split <;> split <;> split <;> split <;> omega
abbrev tab0 : List Int := [1, 2, 1, 1, 1, 1, 1, 1, 1, 3, 1, 1, 0]
theorem tab0_ok : tabOk tab0 = true := by decide
theorem tab0_m : (tab0[8 + (1 : Int).toNat]?.getD 0).toNat = 3 := rfl
theorem tab0_u : tab0[(1 : Int).toNat]?.getD 0 = 2 := rfl
def gw1 : Int → Int → Int := takeG tab0 (fun x => x) (fun _ _ => 0) 1 2
def gw2 : Int → Int → Int := takeG tab0 (fun x => x) gw1 1 3
theorem gw1_at (k : Int) : gw1 1 k = if 2 ≤ k ∧ k ≤ 4 then 1 else 0 := by
  unfold gw1 takeG
  rw [tab0_m, moreC_at, moreF_3]
  dsimp only
  split <;> split <;> omega
theorem gw2_at (k : Int) : gw2 1 k = (if 2 ≤ k ∧ k ≤ 4 then 1 else 0) + if 3 ≤ k ∧ k ≤ 5 then 1 else 0 := by
  unfold gw2 takeG
  rw [tab0_m, moreC_at, moreF_3, gw1_at]
  dsimp only
  split <;> split <;> split <;> omega
theorem fp_mk (G : Int → Int → Int) (cy : Int) (h0 : 0 ≤ cy ∧ cy ≤ 65536) : FreeP tab0 (fun x => x) false G 1 cy ↔ ∀ k, okI k → cy ≤ k → k ≤ cy + 2 → G 1 k + 1 ≤ 2 := by
  unfold FreeP
  rw [tab0_m, tab0_u]
  simp only [moreF_3]
  constructor
  · intro h k hk h1 h2
    have := h.2.2 k hk (by rw [if_pos ⟨h1, h2⟩]; omega)
    rw [if_pos ⟨h1, h2⟩] at this
    exact this
  · intro h
    refine ⟨by omega, Or.inr h0, fun k hk hp => ?_⟩
    by_cases hh : cy ≤ k ∧ k ≤ cy + 2
    · rw [if_pos hh]; exact h k hk hh.1 hh.2
    · rw [if_neg hh] at hp; omega
theorem fp1 : FreeP tab0 (fun x => x) false (fun _ _ => 0) 1 2 := (fp_mk _ _ (by omega)).2 fun k _ _ _ => by omega
theorem fp2 : FreeP tab0 (fun x => x) false gw1 1 3 := (fp_mk _ _ (by omega)).2 fun k _ _ _ => by rw [gw1_at]; split <;> omega
theorem fp3 : ¬ FreeP tab0 (fun x => x) false gw2 1 4 := fun h => by
  have := (fp_mk _ _ (by omega)).1 h 4 (by unfold okI; omega) (by omega) (by omega)
  rw [gw2_at] at this
  simp at this
theorem fp4 : FreeP tab0 (fun x => x) false gw2 1 5 := (fp_mk _ _ (by omega)).2 fun k _ _ _ => by rw [gw2_at]; split <;> split <;> omega
set_option maxHeartbeats 4000000 in
set_option maxRecDepth 100000 in
theorem wakes13_any (w : World) : Calls Try.prog 22 #[] w fun e w' => e = .returned (.bool true) ∧ Below w.heap.size w w' := by
  have CN := hid (fun w' => new_yes tab0 rfl tab0_ok w')
  have CT1 := hid (fun (w' : World) (p b nb : Nat) (h : ResC w' p b tab0 68 (.agg #[]) false) (HB : Busy w' b nb (fun _ _ => 0)) (hn : nb ≤ 1000000) => take_any h rfl tab0_ok straight_turn HB hn 1 2 (by unfold inC; omega) (by omega) (by omega))
  have CT2 := hid (fun (w' : World) (p b nb : Nat) (h : ResC w' p b tab0 68 (.agg #[]) false) (HB : Busy w' b nb gw1) (hn : nb ≤ 1000000) => take_any h rfl tab0_ok straight_turn HB hn 1 3 (by unfold inC; omega) (by omega) (by omega))
  have CF3 := hid (fun (w' : World) (p b nb : Nat) (h : ResC w' p b tab0 68 (.agg #[]) false) (HB : Busy w' b nb gw2) => free_any h rfl tab0_ok straight_turn HB 1 4 (by unfold inC; omega) (by omega) (by omega))
  have CF4 := hid (fun (w' : World) (p b nb : Nat) (h : ResC w' p b tab0 68 (.agg #[]) false) (HB : Busy w' b nb gw2) => free_any h rfl tab0_ok straight_turn HB 1 5 (by unfold inC; omega) (by omega) (by omega))
  have CU5 := hid (fun (w' : World) (p b nb : Nat) (h : ResC w' p b tab0 68 (.agg #[]) false) (HB : Busy w' b nb gw2) => used_any h rfl straight_turn HB 1 4 (by unfold okI; omega) (by unfold okI; omega) (by unfold okI; omega))
  have e24 : gw2 1 4 = 2 := by rw [gw2_at]; simp
  unfold tabV tab0 at CN
  simp only [List.map_cons, List.map_nil] at CN
  go_enter Try.func22, Try.ntmps22
  go_wp2_with fail
  with_reducible refine (CN.out _).mono ?_
  rintro e w1 ⟨p, b, rfl, hp, hb, hR, hB, hbel⟩
  have B1 := hid (btrans (balloc (Below.refl _ _) _) hbel)
  have hpb := res_ne hR hB
  simp at hp hb
  clear hbel CN
  go_wp2_with fail
  with_reducible refine (CT1.out _ _ _ _ hR hB (by omega)).mono ?_
  rintro e w2 ⟨r, rfl, hr, hB2, hg⟩
  have hr0 : r = true := hr.2 fp1
  subst hr0
  rw [if_pos rfl] at hB2
  have hR2 := hR.keep hg (by simpa using hpb)
  have B2 := hid (Below.grown B1.out hg (by have := hR.lt; omega) (fun k hk => by cases hk; omega))
  clear hr hg hR hB CT1 B1
  go_wp2_with fail
  with_reducible refine (CT2.out _ _ _ _ hR2 hB2 (by omega)).mono ?_
  rintro e w3 ⟨r, rfl, hr, hB3, hg⟩
  have hr0 : r = true := hr.2 fp2
  subst hr0
  rw [if_pos rfl] at hB3
  have hR3 := hR2.keep hg (by simpa using hpb)
  have B3 := hid (Below.grown B2.out hg (by have := B2.out.size; omega) (fun k hk => by cases hk; omega))
  clear hr hg hR2 hB2 CT2 B2
  go_wp2_with fail
  with_reducible refine (CF3.out _ _ _ _ hR3 hB3).mono ?_
  rintro e w4 ⟨r, rfl, hr, hbel⟩
  have hr0 : r = false := by cases r; rfl; exact (fp3 (hr.1 rfl)).elim
  subst hr0
  have hR4 := hR3.keep (row := none) (gb_of_below hbel) (by simp)
  have hB4 := hB3.keep (row := none) (gb_of_below hbel) (by simp)
  have B4 := hid (btrans B3.out hbel)
  clear hr hbel hR3 hB3 CF3 B3
  go_wp2_with fail
  with_reducible refine (CF4.out _ _ _ _ hR4 hB4).mono ?_
  rintro e w5 ⟨r, rfl, hr, hbel⟩
  have hr0 : r = true := hr.2 fp4
  subst hr0
  have hR5 := hR4.keep (row := none) (gb_of_below hbel) (by simp)
  have hB5 := hB4.keep (row := none) (gb_of_below hbel) (by simp)
  have B5 := hid (btrans B4.out hbel)
  clear hr hbel hR4 hB4 CF4 B4
  go_wp2_with fail
  with_reducible refine (CU5.out _ _ _ _ hR5 hB5).mono ?_
  rintro e w6 ⟨rfl, hbel⟩
  have B6 := hid (btrans B5.out hbel)
  clear hbel
  go_wp2
  go_ret
  exact ⟨by simp [e24], B6.out⟩
set_option maxHeartbeats 4000000 in
set_option maxRecDepth 100000 in
theorem ReserveNil_walk (cl cy : Int) (w : World) : Calls Try.prog 3 #[.int .i64 cl, .int .i64 cy] w fun e w' => e = .returned (.bool true) ∧ Below w.heap.size w w' := by
  have CW := hid wakes13_any
  go_enter Try.func3, Try.ntmps3
  go_wp2_with (first | (go_at_call 19; (with_reducible refine (nil_free _ _ _).mono ?_); rintro e w1 ⟨rfl, hb1⟩) | (go_at_call 20; (with_reducible refine (nil_take _ _ _).mono ?_); rintro e w2 ⟨rfl, hb2⟩) | (go_at_call 21; (with_reducible refine (nil_used _ _ _).mono ?_); rintro e w3 ⟨rfl, hb3⟩) | (go_at_call 22; (with_reducible refine (CW.out _).mono ?_); rintro e w4 ⟨rfl, hb4⟩))
  go_ret
  exact ⟨rfl, btrans (btrans (btrans (by assumption) (by assumption)) (by assumption)) (by assumption)⟩
end Go.Proofs.Ytcibkoodnfkogaa
