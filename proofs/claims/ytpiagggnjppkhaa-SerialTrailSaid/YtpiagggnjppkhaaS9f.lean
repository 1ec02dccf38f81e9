/- What was done is told step by step, as the document says, for every program, every state and every number of steps; no condition. -/
import Derived.Test.YtpiagggnjppkhaaZ30
namespace Go.Proofs.Ytpiagggnjppkhaa
open Go.RowKit
set_option linter.unusedVariables false
set_option linter.unusedSimpArgs false
set_option maxHeartbeats 4000000 in
set_option maxRecDepth 100000 in
theorem SerialTrail_walk (A : Option Addr) (l : List Blk) (c : Nat) (A1 : Option Addr) (s1 : List Int) (c1 : Nat) (A2 : Option Addr) (s2 : List Int) (c2 : Nat) (n : Int) (w : World) (hl : BlksIn w A l) (hw : ∀ b ∈ l, b.wf) (hc : l.length ≤ c) (hmx : c ≤ 1954687340000)
    (hs1 : NumsIn w A1 s1) (hs1w : I64s s1) (hs1c : s1.length ≤ c1) (hs1m : c1 ≤ 17592186043904) (hs2 : NumsIn w A2 s2) (hs2w : I64s s2) (hs2c : s2.length ≤ c2) (hs2m : c2 ≤ 17592186043904)
    (hn : -9223372036854775808 ≤ n ∧ n ≤ 9223372036854775807) :
    Calls Try.prog 6 #[.agg #[.slice A l.length c], .agg #[.slice A1 s1.length c1, .slice A2 s2.length c2], .int .i64 n] w fun e w' => e = .returned (.bool true) ∧ Below w.heap.size w w' := by
  have CW := hid (fun w => wakes09_any w)
  have CA := hid (fun w => steps_any n w hn.1 hn.2)
  generalize stepsN n = sn at *
  by_cases he : newE l s1 s2 = 0
  · have hp : prgE l = 0 := by
      unfold newE at he
      by_cases h : prgE l = 0
      · exact h
      · rw [if_neg h] at he; exact he
    have hlen : s1.length ≤ 32 ∧ s2.length ≤ 256 := by
      unfold newE at he
      rw [if_pos hp] at he
      by_cases h : 32 < s1.length ∨ 256 < s2.length
      · rw [if_pos h] at he; omega
      · omega
    have hP := prgE_ok hw hp
    have ok0 := newM_ok hP hs1w hs2w hlen.1 hlen.2
    obtain ⟨T, hT⟩ : ∃ T, T = tagsS l (clampT sn) (newM s1 s2) := ⟨_, rfl⟩
    have hTl : T.length ≤ 65536 := by
      rw [hT]
      have := tags_len l (clampT sn) (newM s1 s2)
      have : clampT sn ≤ 65536 := by unfold clampT; omega
      omega
    have CT : Hid (∀ w', Below w.heap.size w w' → Calls Try.prog 23 #[.agg #[.slice A l.length c], .agg #[.slice A1 s1.length c1, .slice A2 s2.length c2], .int .i64 sn] w' fun e w'' => ∃ P cc, e = .returned (.tuple #[.slice P T.length cc, .int .i64 0]) ∧ TagsIn w'' P T ∧ Below w'.heap.size w' w'') := hid fun w' hb => by
      refine (trail_yes A l c A1 A2 s1 s2 c1 c2 w' (hl.keep hb) hw (hs1.keep hb) (hs2.keep hb) he hP ok0 sn).mono ?_
      rintro e w'' ⟨v, rfl, ho, hb⟩
      rw [← hT] at ho
      obtain ⟨P, cc, rfl, hI⟩ := tags_in ho rfl
      exact ⟨P, cc, rfl, hI, hb⟩
    have CR : Hid (∀ w', Below w.heap.size w w' → Calls Try.prog 24 #[.agg #[.slice A l.length c], .agg #[.slice A1 s1.length c1, .slice A2 s2.length c2], .int .i64 sn] w' fun e w'' => ∃ P cc, e = .returned (.tuple #[.slice P T.length cc, .int .i64 0]) ∧ TagsIn w'' P T ∧ Below w'.heap.size w' w'') := hid fun w' hb => by
      refine (rtrail_yes A l c A1 A2 s1 s2 c1 c2 w' (hl.keep hb) hw hc (hs1.keep hb) (hs2.keep hb) he hP ok0 sn).mono ?_
      rintro e w'' ⟨v, rfl, ho, hb⟩
      rw [← hT] at ho
      obtain ⟨P, cc, rfl, hI⟩ := tags_in ho rfl
      exact ⟨P, cc, rfl, hI, hb⟩
    clear hl hw hc hmx hs1 hs1w hs1c hs1m hs2 hs2w hs2c hs2m he hp hlen hP ok0 hT hn
    go_enter Try.func6, Try.ntmps6
    go_upto_region 1 with (fail)
    obtain ⟨wb, hwb⟩ : ∃ wb : World, wb = (w.alloc (.cells #[.slice A l.length c] 24)).alloc (.cells #[.slice A1 s1.length c1, .slice A2 s2.length c2] 27) := ⟨_, rfl⟩
    rw [← hwb]
    have B0 := hid (show Below w.heap.size w wb by rw [hwb]; ((with_reducible (repeat (first | assumption | exact Below.refl _ _ | refine bset ?_ (Nat.le_refl _) _ | refine balloc ?_ _ | refine bdrew ?_ | refine bdrewN ?_ _))); done))
    have hsb : wb.heap.size = w.heap.size + 2 := by rw [hwb]; simp
    have b0 : wb.cell? ⟨w.heap.size, 0, none⟩ = some (.slice A l.length c) := by rw [hwb]; go_simp
    have b1 : wb.cell? ⟨w.heap.size + 1, 0, none⟩ = some (.slice A1 s1.length c1) := by rw [hwb]; go_simp
    have b2 : wb.cell? ⟨w.heap.size + 1, 1, none⟩ = some (.slice A2 s2.length c2) := by rw [hwb]; go_simp
    have hw0 : w.heap.size < wb.heap.size := by omega
    have hw1 : w.heap.size + 1 < wb.heap.size := by omega
    replace hwb := hid hwb
    go_region_held3 (fun w' => w'.cell? ⟨w.heap.size, 0, none⟩ = some (.slice A l.length c) ∧ w'.cell? ⟨w.heap.size + 1, 0, none⟩ = some (.slice A1 s1.length c1) ∧ w'.cell? ⟨w.heap.size + 1, 1, none⟩ = some (.slice A2 s2.length c2) ∧ Hid (Below w.heap.size w w')) (first | (go_split_ands; (repeat' apply And.intro) <;> (first | assumption | exact cell_keep (by assumption) hb | exact below_hid (by assumption) hb)) | (go_split_ands; (repeat' apply And.intro) <;> (first | assumption | exact hid_drew (by assumption))))
      (first | ((with_reducible refine (CA.out _).mono ?_); rintro e w' ⟨rfl, rfl⟩) | ((with_reducible refine (CT.out _ ?_).mono ?_); (next => (go_split_ands; exact Hid.out (by assumption))); rintro e w' ⟨P1, d1, rfl, hI1, hb⟩; replace hI1 := hid hI1))
    all_goals
      go_split_ands
      rename World => w1
      have B1 : Hid (Below w.heap.size w w1) := by assumption
      have hs1 := hb.size
      have hw01 : w.heap.size < w1.heap.size := by (try simp at hs1); omega
      have hw11 : w.heap.size + 1 < w1.heap.size := by (try simp at hs1); omega
      clear hb hs1 b0 b1 b2
      go_upto_region 2 with (fail)
      go_region_held3 (fun w' => w'.cell? ⟨w.heap.size, 0, none⟩ = some (.slice A l.length c) ∧ w'.cell? ⟨w.heap.size + 1, 0, none⟩ = some (.slice A1 s1.length c1) ∧ w'.cell? ⟨w.heap.size + 1, 1, none⟩ = some (.slice A2 s2.length c2) ∧ Hid (Below w.heap.size w w')) (first | (go_split_ands; (repeat' apply And.intro) <;> (first | assumption | exact cell_keep (by assumption) hb | exact below_hid (by assumption) hb)) | (go_split_ands; (repeat' apply And.intro) <;> (first | assumption | exact hid_drew (by assumption))))
        (first | ((with_reducible refine (CA.out _).mono ?_); rintro e w' ⟨rfl, rfl⟩) | ((with_reducible refine (CR.out _ ?_).mono ?_); (next => (go_split_ands; exact Hid.out (by assumption))); rintro e w' ⟨P2, d2, rfl, hI2, hb⟩; replace hI2 := hid hI2))
    all_goals
      go_split_ands
      rename World => w2
      have B2 : Hid (Below w.heap.size w w2) := by assumption
      have J1 := hid (hI1.out.keep ((bdrew (Below.refl _ _)).trans (hb.mono (Nat.le_refl _))))
      clear hI1 hb
      go_wp2_with fail
      go_loopg [40] T.length (fun gk v40 wr => ∃ i : Nat, v40 = .int .i64 i ∧ i ≤ T.length ∧ Hid (gk + i = T.length) ∧ Hid (Below w2.heap.size w2 wr))
      case atStart => exact ⟨0, rfl, Nat.zero_le _, by exact Nat.add_zero _, hid (Below.refl _ _)⟩
      case round =>
        obtain ⟨i, rfl, hi, hgk, hb⟩ := hrel
        rename World => wr
        by_cases hlt : i < T.length
        · have hij : (i : Int) < (T.length : Int) := by omega
          have hi0 : (0 : Int) ≤ (i : Int) := by omega
          obtain ⟨g1, o1, rfl, e0, e1, e2, e3⟩ := (J1.out.keep hb.out).get i hlt
          obtain ⟨g2, o2, rfl, f0, f1, f2, f3⟩ := (hI2.out.keep hb.out).get i hlt
          have hg1 : g1 < wr.heap.size := World.block_lt_of_cell? wr _ e0
          have hg2 : g2 < wr.heap.size := World.block_lt_of_cell? wr _ f0
          generalize T[i].blk = x0 at *
          generalize T[i].loop = x1 at *
          generalize T[i].op = x2 at *
          go_wp2
          go_quiet (fail)
          go_wp2
          go_roundg (T.length - (i + 1))
          case measure => have := hgk.out; omega
          case rel => exact ⟨i + 1, by go_num, by omega, by show _ + _ = _; omega, hid (bdrewN hb.out _)⟩
        · obtain rfl : i = T.length := by omega
          go_wp2_with fail
          with_reducible refine (CW.out _).mono ?_
          rintro e w9 ⟨rfl, hb9⟩
          go_wp2
          go_ret
          exact ⟨rfl, btrans (btrans B2.out hb.out) hb9⟩
  · have CT : Hid (∀ w', Below w.heap.size w w' → Calls Try.prog 23 #[.agg #[.slice A l.length c], .agg #[.slice A1 s1.length c1, .slice A2 s2.length c2], .int .i64 sn] w' fun e w'' => e = .returned (.tuple #[.slice none 0 0, .int .i64 (newE l s1 s2)]) ∧ Below w'.heap.size w' w'') := hid fun w' hb => trail_no A l c A1 A2 s1 s2 c1 c2 w' (hl.keep hb) hw (by omega) (by omega) (by omega) he sn
    have CR : Hid (∀ w', Below w.heap.size w w' → Calls Try.prog 24 #[.agg #[.slice A l.length c], .agg #[.slice A1 s1.length c1, .slice A2 s2.length c2], .int .i64 sn] w' fun e w'' => e = .returned (.tuple #[.slice none 0 0, .int .i64 (newE l s1 s2)]) ∧ Below w'.heap.size w' w'') := hid fun w' hb => rtrail_no A l c A1 A2 s1 s2 c1 c2 w' (hl.keep hb) hw (by omega) (by omega) (by omega) he sn
    generalize newE l s1 s2 = E at *
    have hE2 : (E != E) = false := by simp
    clear hl hw hc hmx hs1 hs1w hs1c hs1m hs2 hs2w hs2c hs2m he hn
    go_enter Try.func6, Try.ntmps6
    go_upto_region 1 with (fail)
    obtain ⟨wb, hwb⟩ : ∃ wb : World, wb = (w.alloc (.cells #[.slice A l.length c] 24)).alloc (.cells #[.slice A1 s1.length c1, .slice A2 s2.length c2] 27) := ⟨_, rfl⟩
    rw [← hwb]
    have B0 := hid (show Below w.heap.size w wb by rw [hwb]; ((with_reducible (repeat (first | assumption | exact Below.refl _ _ | refine bset ?_ (Nat.le_refl _) _ | refine balloc ?_ _ | refine bdrew ?_ | refine bdrewN ?_ _))); done))
    have hsb : wb.heap.size = w.heap.size + 2 := by rw [hwb]; simp
    have b0 : wb.cell? ⟨w.heap.size, 0, none⟩ = some (.slice A l.length c) := by rw [hwb]; go_simp
    have b1 : wb.cell? ⟨w.heap.size + 1, 0, none⟩ = some (.slice A1 s1.length c1) := by rw [hwb]; go_simp
    have b2 : wb.cell? ⟨w.heap.size + 1, 1, none⟩ = some (.slice A2 s2.length c2) := by rw [hwb]; go_simp
    have hw0 : w.heap.size < wb.heap.size := by omega
    have hw1 : w.heap.size + 1 < wb.heap.size := by omega
    replace hwb := hid hwb
    go_region_held3 (fun w' => w'.cell? ⟨w.heap.size, 0, none⟩ = some (.slice A l.length c) ∧ w'.cell? ⟨w.heap.size + 1, 0, none⟩ = some (.slice A1 s1.length c1) ∧ w'.cell? ⟨w.heap.size + 1, 1, none⟩ = some (.slice A2 s2.length c2) ∧ Hid (Below w.heap.size w w')) (first | (go_split_ands; (repeat' apply And.intro) <;> (first | assumption | exact cell_keep (by assumption) hb | exact below_hid (by assumption) hb)) | (go_split_ands; (repeat' apply And.intro) <;> (first | assumption | exact hid_drew (by assumption))))
      (first | ((with_reducible refine (CA.out _).mono ?_); rintro e w' ⟨rfl, rfl⟩) | ((with_reducible refine (CT.out _ ?_).mono ?_); (next => (go_split_ands; exact Hid.out (by assumption))); rintro e w' ⟨rfl, hb⟩))
    all_goals
      go_split_ands
      rename World => w1
      have hs1 := hb.size
      have hw01 : w.heap.size < w1.heap.size := by (try simp at hs1); omega
      have hw11 : w.heap.size + 1 < w1.heap.size := by (try simp at hs1); omega
      clear hb hs1 b0 b1 b2
      go_upto_region 2 with (fail)
      go_region_held3 (fun w' => w'.cell? ⟨w.heap.size, 0, none⟩ = some (.slice A l.length c) ∧ w'.cell? ⟨w.heap.size + 1, 0, none⟩ = some (.slice A1 s1.length c1) ∧ w'.cell? ⟨w.heap.size + 1, 1, none⟩ = some (.slice A2 s2.length c2) ∧ Hid (Below w.heap.size w w')) (first | (go_split_ands; (repeat' apply And.intro) <;> (first | assumption | exact cell_keep (by assumption) hb | exact below_hid (by assumption) hb)) | (go_split_ands; (repeat' apply And.intro) <;> (first | assumption | exact hid_drew (by assumption))))
        (first | ((with_reducible refine (CA.out _).mono ?_); rintro e w' ⟨rfl, rfl⟩) | ((with_reducible refine (CR.out _ ?_).mono ?_); (next => (go_split_ands; exact Hid.out (by assumption))); rintro e w' ⟨rfl, hb⟩))
    all_goals
      go_split_ands
      rename World => w2
      have B2 : Hid (Below w.heap.size w w2) := by assumption
      clear hb
      go_wp2_with fail
      go_loopg [40] 0 (fun gk v40 wr => v40 = .int .i64 0 ∧ wr = w2 ∧ gk = 0)
      case atStart => exact ⟨rfl, rfl, rfl⟩
      case round =>
        obtain ⟨rfl, rfl, rfl⟩ := hrel
        go_wp2_with fail
        with_reducible refine (CW.out _).mono ?_
        rintro e w9 ⟨rfl, hb9⟩
        go_wp2
        go_ret
        exact ⟨rfl, btrans B2.out hb9⟩
end Go.Proofs.Ytpiagggnjppkhaa
