/- The contract of program.Check. -/
import Derived.Test.YtpiagggnjppkhaaZ2
import Derived.Test.YtpiagggnjppkhaaZ1
import Derived.Laws.BitsLemmas
namespace Go.Proofs.Ytpiagggnjppkhaa
open Go.RowKit
set_option linter.unusedVariables false
set_option linter.unusedSimpArgs false
section
open Go.RowKit
/-- What is wrong with a block of a program of n blocks (0: nothing). -/
def blkE (b : Blk) (n : Int) : Int := if allOk b.ops then (if endB b n then (if allOk b.body then 0 else 30) else 50) else 30
def firstE (n : Int) : List Blk → Int
  | [] => 0
  | b :: r => if blkE b n = 0 then firstE n r else blkE b n
def prgE (l : List Blk) : Int := if 128 < l.length ∨ 1024 < l.length + sumB l then 3 else if l.length = 0 then 50 else firstE l.length l
theorem firstE_step (n : Int) (l : List Blk) {i : Nat} (hi : i < l.length) : firstE n (l.drop i) = if blkE l[i] n = 0 then firstE n (l.drop (i + 1)) else blkE l[i] n := by
  rw [List.drop_eq_getElem_cons hi]
  rfl
set_option maxHeartbeats 4000000 in
set_option maxRecDepth 100000 in
theorem prg_check_any (A : Option Addr) (l : List Blk) (cap : Nat) (w : World) (hl : BlksIn w A l) (hw : ∀ b ∈ l, b.wf) (hm : l.length ≤ 9223372036854775807) :
    Calls Try.prog 42 #[.agg #[.slice A l.length cap]] w fun e w' => e = .returned (.int .i64 (prgE l)) ∧ Below w.heap.size w w' := by
  have HL := hid hl
  have HW := hid hw
  clear hl hw
  by_cases hn : 128 < l.length
  · have e0 := hid (show prgE l = 3 by unfold prgE; rw [if_pos (.inl hn)])
    have hn2 : (128 : Int) < l.length := by omega
    go_enter Try.func42, Try.ntmps42
    go_wp2
    go_ret
    refine ⟨ret_int e0.out.symm, ?_⟩
    ((with_reducible (repeat (first | assumption | exact Below.refl _ _ | refine bset ?_ (Nat.le_refl _) _ | refine balloc ?_ _ | refine bdrew ?_ | refine bdrewN ?_ _))); done)
  have hops := hid (fun w hl => pops_any A l cap w hl HW.out (by omega))
  have hn2 : ¬ (128 : Int) < l.length := by omega
  by_cases hs : 1024 < l.length + sumB l
  · have e0 := hid (show prgE l = 3 by unfold prgE; rw [if_pos (.inr hs)])
    have hub := sumB_le HW.out l.length (Nat.le_refl _)
    rw [List.take_length] at hub
    have hs2 := hid (show (1024 : Int) < l.length + (sumB l : Nat) by omega)
    clear hs hub
    go_enter Try.func42, Try.ntmps42
    go_wp2_with fail
    with_reducible refine (hops.out _ (BlksIn.keep (w := w) HL.out ?_)).mono ?_
    · ((with_reducible (repeat (first | assumption | exact Below.refl _ _ | refine bset ?_ (Nat.le_refl _) _ | refine balloc ?_ _ | refine bdrew ?_ | refine bdrewN ?_ _))); done)
    rintro e w1 ⟨rfl, hb⟩
    replace hs2 := hs2.out
    go_wp2
    go_ret
    refine ⟨ret_int e0.out.symm, btrans (a := w) ?_ hb⟩
    ((with_reducible (repeat (first | assumption | exact Below.refl _ _ | refine bset ?_ (Nat.le_refl _) _ | refine balloc ?_ _ | refine bdrew ?_ | refine bdrewN ?_ _))); done)
  have hs2 := hid (show ¬ (1024 : Int) < l.length + (sumB l : Nat) by omega)
  have e1 : prgE l = if l.length = 0 then 50 else firstE l.length l := by unfold prgE; rw [if_neg (by omega)]
  clear hs
  by_cases hz : l.length = 0
  · rw [if_pos hz] at e1
    replace e1 := hid e1
    have hzi := hid (show (l.length : Int) = 0 by omega)
    clear hz
    go_enter Try.func42, Try.ntmps42
    go_wp2_with fail
    with_reducible refine (hops.out _ (BlksIn.keep (w := w) HL.out ?_)).mono ?_
    · ((with_reducible (repeat (first | assumption | exact Below.refl _ _ | refine bset ?_ (Nat.le_refl _) _ | refine balloc ?_ _ | refine bdrew ?_ | refine bdrewN ?_ _))); done)
    rintro e w1 ⟨rfl, hb⟩
    obtain ⟨hc, hf⟩ := bcell hb
    have hzz := bsize hb
    replace hs2 := hs2.out
    have hz := hzi.out
    go_wp2
    go_ret
    refine ⟨ret_int e1.out.symm, btrans (a := w) ?_ hb⟩
    ((with_reducible (repeat (first | assumption | exact Below.refl _ _ | refine bset ?_ (Nat.le_refl _) _ | refine balloc ?_ _ | refine bdrew ?_ | refine bdrewN ?_ _))); done)
  rw [if_neg hz] at e1
  replace e1 := hid e1
  have hz2 : ¬ (l.length : Int) = 0 := by omega
  have hz3 : (0 : Int) < l.length := by omega
  have hzb : ((l.length : Int) == 0) = false := by rw [Bool.eq_false_iff]; intro h; exact hz2 (by simpa using h)
  go_enter Try.func42, Try.ntmps42
  go_wp2_with fail
  with_reducible refine (hops.out _ (BlksIn.keep (w := w) HL.out ?_)).mono ?_
  · ((with_reducible (repeat (first | assumption | exact Below.refl _ _ | refine bset ?_ (Nat.le_refl _) _ | refine balloc ?_ _ | refine bdrew ?_ | refine bdrewN ?_ _))); done)
  rintro e w1 ⟨rfl, hb⟩
  have B1 : Hid (Below w.heap.size w w1) := hid (btrans (a := w) (by ((with_reducible (repeat (first | assumption | exact Below.refl _ _ | refine bset ?_ (Nat.le_refl _) _ | refine balloc ?_ _ | refine bdrew ?_ | refine bdrewN ?_ _))); done)) hb)
  have hcell0 : w1.cell? ⟨w.heap.size, 0, none⟩ = some (.slice A l.length cap) := cell_keep (by simp) hb
  clear hb
  have hs3 := hs2.out
  go_wp2
  clear hs3
  go_loopg [21] l.length (fun g v wr => ∃ i : Nat, i ≤ l.length ∧ v = .int .i64 i ∧ Hid (g + i = l.length) ∧ Hid (firstE l.length (l.drop i) = firstE l.length l) ∧ wr.cell? ⟨w.heap.size, 0, none⟩ = some (.slice A l.length cap) ∧ Below w.heap.size w wr)
  case atStart => exact ⟨0, by omega, rfl, by exact Nat.add_zero _, hid rfl, hcell0, B1.out⟩
  case round =>
    obtain ⟨i, hi, rfl, hg, hfs, hcell, hbw⟩ := hrel
    have hgw : w.heap.size < wr.heap.size := World.block_lt_of_cell? wr _ hcell
    by_cases hlt : i < l.length
    · obtain ⟨g, off, rfl, hop⟩ := (BlksIn.keep HL.out hbw).get i hlt
      have HO := hid hop
      obtain ⟨B, c, B2, c2, k0, k1, k2, k3, k4, k5, o1, o2, _, _⟩ := hop
      have O1 := hid o1
      have O2 := hid o2
      clear o1 o2
      have hwf := hid (HW.out l[i] (List.getElem_mem hlt))
      have m0 := hwf.out.m0
      have m1 := hwf.out.m1
      have hgs : g < wr.heap.size := World.block_lt_of_cell? wr _ k0
      have hb0 := hid hbw
      clear hbw
      have hstep := firstE_step l.length l hlt
      rw [hfs.out] at hstep
      have hij : (i : Int) < (l.length : Int) := by omega
      have hi0 : (0 : Int) ≤ (i : Int) := by omega
      have C1 := hid (fun (w : World) (h : OpsIn w B l[i].ops) => all_any B l[i].ops c w h hwf.out.ops (by omega))
      have C2 := hid (fun (w : World) (h : BlkAt w g (off + i * 6) l[i]) => end_any g (off + i * 6) l[i] l.length w h hwf.out)
      have C3 := hid (fun (w : World) (h : OpsIn w B2 l[i].body) => all_any B2 l[i].body c2 w h hwf.out.body (by omega))
      cases h1 : allOk l[i].ops
      · rw [show blkE l[i] l.length = 30 by unfold blkE; rw [h1]; rfl, if_neg (by decide), ← e1.out] at hstep
        replace hstep := hid hstep
        rw [h1] at C1
        go_wp2_with fail
        with_reducible refine (C1.out _ O1.out).mono ?_
        rintro e w2 ⟨rfl, hb⟩
        go_wp2
        go_ret
        exact ⟨ret_int hstep.out.symm, btrans hb0.out hb⟩
      cases h2 : endB l[i] l.length
      · rw [show blkE l[i] l.length = 50 by unfold blkE; rw [h1, h2]; rfl, if_neg (by decide), ← e1.out] at hstep
        replace hstep := hid hstep
        rw [h1] at C1
        rw [h2] at C2
        go_wp2_with fail
        with_reducible refine (C1.out _ O1.out).mono ?_
        rintro e w2 ⟨rfl, hb⟩
        have B2 := hid (btrans hb0.out hb)
        have HO2 := hid (HO.out.keep hb)
        have hcell2 := cell_keep hcell hb
        clear hb
        go_wp2_with fail
        with_reducible refine (C2.out _ HO2.out).mono ?_
        rintro e w3 ⟨rfl, hb⟩
        go_wp2
        go_ret
        exact ⟨ret_int hstep.out.symm, btrans B2.out hb⟩
      cases h3 : allOk l[i].body
      · rw [show blkE l[i] l.length = 30 by unfold blkE; rw [h1, h2, h3]; rfl, if_neg (by decide), ← e1.out] at hstep
        replace hstep := hid hstep
        rw [h1] at C1
        rw [h2] at C2
        rw [h3] at C3
        go_wp2_with fail
        with_reducible refine (C1.out _ O1.out).mono ?_
        rintro e w2 ⟨rfl, hb⟩
        have B2 := hid (btrans hb0.out hb)
        have HO2 := hid (HO.out.keep hb)
        have hcell2 := cell_keep hcell hb
        have k32 := cell_keep k3 hb
        have O22 := hid (O2.out.keep hb)
        clear hb
        go_wp2_with fail
        with_reducible refine (C2.out _ HO2.out).mono ?_
        rintro e w3 ⟨rfl, hb⟩
        have B3 := hid (btrans B2.out hb)
        have hcell3 := cell_keep hcell2 hb
        have k33 := cell_keep k32 hb
        have O23 := hid (O22.out.keep hb)
        clear hb
        go_wp2_with fail
        with_reducible refine (C3.out _ O23.out).mono ?_
        rintro e w4 ⟨rfl, hb⟩
        go_wp2
        go_ret
        exact ⟨ret_int hstep.out.symm, btrans B3.out hb⟩
      · rw [show blkE l[i] l.length = 0 by unfold blkE; rw [h1, h2, h3]; rfl, if_pos rfl] at hstep
        replace hstep := hid hstep
        rw [h1] at C1
        rw [h2] at C2
        rw [h3] at C3
        go_wp2_with fail
        with_reducible refine (C1.out _ O1.out).mono ?_
        rintro e w2 ⟨rfl, hb⟩
        have B2 := hid (btrans hb0.out hb)
        have HO2 := hid (HO.out.keep hb)
        have hcell2 := cell_keep hcell hb
        have k32 := cell_keep k3 hb
        have O22 := hid (O2.out.keep hb)
        clear hb
        go_wp2_with fail
        with_reducible refine (C2.out _ HO2.out).mono ?_
        rintro e w3 ⟨rfl, hb⟩
        have B3 := hid (btrans B2.out hb)
        have hcell3 := cell_keep hcell2 hb
        have k33 := cell_keep k32 hb
        have O23 := hid (O22.out.keep hb)
        clear hb
        go_wp2_with fail
        with_reducible refine (C3.out _ O23.out).mono ?_
        rintro e w4 ⟨rfl, hb⟩
        go_wp2
        go_roundg (l.length - (i + 1))
        case measure => have := hg.out; omega
        case rel => exact ⟨i + 1, by omega, by go_num, by show _ + _ = _; omega, hid hstep.out.symm, cell_keep hcell3 hb, btrans B3.out hb⟩
    · obtain rfl : i = l.length := by omega
      have e2 := hfs.out
      rw [List.drop_length] at e2
      replace e2 := hid (e1.out.trans e2.symm)
      go_wp2
      go_ret
      exact ⟨ret_int e2.out.symm, hbw⟩
end
/- The contract of ops.Reckon. -/
section
open Go.RowKit
/-- What an operation makes of two numbers; its error. -/
def rckN (k a b : Int) : Int :=
  if k = 2 then wrap64 (a + b) else if k = 3 then wrap64 (a - b) else if k = 4 then Go.bits .and .i64 a b else if k = 5 then Go.bits .or .i64 a b
  else if k = 6 then Go.bits .xor .i64 a b else if k = 7 then wrap64 (IntKind.u64.wrap (IntKind.u64.wrap a * 2 ^ (b % 64).toNat)) else if k = 8 then a / 2 ^ (b % 64).toNat
  else if k = 9 then (if a < b then 1 else 0) else if k = 10 then (if a = b then 1 else 0) else if k = 11 then a else if k = 12 then wrap64 (a * b)
  else if k = 13 then (if b = 0 then 0 else wrap64 (a.tdiv b)) else if k = 14 then (if b = 0 then 0 else a.tmod b) else 0
def rckE (k b : Int) : Int := if 2 ≤ k ∧ k ≤ 12 then 0 else if k = 13 ∨ k = 14 then (if b = 0 then 101 else 0) else 2
theorem ret_pair {i j : IntKind} {a b c d : Int} (h : a = c) (k : b = d) : Ending.returned (.tuple #[.int i a, .int j b]) = .returned (.tuple #[.int i c, .int j d]) := by rw [h, k]
theorem and63 (b : Int) : bits .and .u64 (IntKind.u64.wrap b) 63 = b % 64 := by
  have h := Go.bits_mask .u64 64 (Nat.le_refl _) (fun n h0 h1 => by rw [wrap_u64]; omega) 6 (by decide) (IntKind.u64.wrap b) (by rw [wrap_u64]; omega) (by rw [wrap_u64]; omega)
  have h2 : ((2 : Int) ^ 6 - 1) = 63 := rfl
  have h3 : ((2 : Int) ^ 6) = 64 := rfl
  rw [h2, h3, wrap_u64] at h
  rw [wrap_u64, h]
  omega
set_option maxHeartbeats 4000000 in
set_option maxRecDepth 100000 in
theorem reckon_1 (k a b : Int) (w : World) (h : k = 2 ∨ k = 3 ∨ k = 4 ∨ k = 5 ∨ k = 6 ∨ k = 11 ∨ k = 12) :
    Calls Try.prog 41 #[.int .i8 k, .int .i64 a, .int .i64 b] w fun e w' => e = .returned (.tuple #[.int .i64 (rckN k a b), .int .i64 (rckE k b)]) ∧ w = w' := by
  rcases h with rfl | rfl | rfl | rfl | rfl | rfl | rfl
  all_goals
    go_enter Try.func41, Try.ntmps41
    go_wp2
    all_goals go_ret2
    exact ⟨rfl, rfl⟩
set_option maxHeartbeats 4000000 in
set_option maxRecDepth 100000 in
theorem reckon_2 (k a b : Int) (w : World) (h : k = 7 ∨ k = 8) :
    Calls Try.prog 41 #[.int .i8 k, .int .i64 a, .int .i64 b] w fun e w' => e = .returned (.tuple #[.int .i64 (rckN k a b), .int .i64 (rckE k b)]) ∧ w = w' := by
  have hs := and63 b
  have hs2 : b % 64 % 256 = b % 64 := by omega
  have hs3 : 0 ≤ b % 64 := by omega
  have hs4 : b % 64 ≤ 64 := by omega
  rcases h with rfl | rfl
  all_goals
    go_enter Try.func41, Try.ntmps41
    go_wp2
    all_goals go_ret2
    exact ⟨rfl, rfl⟩
set_option maxHeartbeats 4000000 in
set_option maxRecDepth 100000 in
theorem reckon_3 (k a b : Int) (w : World) (h : k = 9 ∨ k = 10) :
    Calls Try.prog 41 #[.int .i8 k, .int .i64 a, .int .i64 b] w fun e w' => e = .returned (.tuple #[.int .i64 (rckN k a b), .int .i64 (rckE k b)]) ∧ w = w' := by
  rcases h with rfl | rfl
  · by_cases h : a < b
    all_goals
      have e : rckN 9 a b = if a < b then 1 else 0 := rfl
      simp only [h, if_true, if_false] at e
      rw [e]
      clear e
      go_enter Try.func41, Try.ntmps41
      go_wp2
      all_goals go_ret2
      exact ⟨rfl, rfl⟩
  · cases h : (a == b)
    · have e : rckN 10 a b = 0 := by show (if a = b then (1 : Int) else 0) = 0; rw [if_neg (by simpa using h)]
      rw [e]
      clear e
      go_enter Try.func41, Try.ntmps41
      go_wp2
      all_goals go_ret2
      exact ⟨rfl, rfl⟩
    · have e : rckN 10 a b = 1 := by show (if a = b then (1 : Int) else 0) = 1; rw [if_pos (by simpa using h)]
      rw [e]
      clear e
      go_enter Try.func41, Try.ntmps41
      go_wp2
      all_goals go_ret2
      exact ⟨rfl, rfl⟩
set_option maxHeartbeats 4000000 in
set_option maxRecDepth 100000 in
theorem reckon_4 (k a b : Int) (w : World) (h : k = 13 ∨ k = 14) (hb0 : -9223372036854775808 ≤ b) (hb1 : b ≤ 9223372036854775807) :
    Calls Try.prog 41 #[.int .i8 k, .int .i64 a, .int .i64 b] w fun e w' => e = .returned (.tuple #[.int .i64 (rckN k a b), .int .i64 (rckE k b)]) ∧ w = w' := by
  by_cases hz : b = 0
  · subst hz
    clear hb0 hb1
    rcases h with rfl | rfl
    all_goals
      go_enter Try.func41, Try.ntmps41
      go_wp2
      all_goals go_ret2
      exact ⟨rfl, rfl⟩
  · have hz' : (b == 0) = false := by simpa using hz
    rcases h with rfl | rfl
    · have e1 : rckN 13 a b = wrap64 (a.tdiv b) := by show (if b = 0 then 0 else wrap64 (a.tdiv b)) = _; rw [if_neg hz]
      have e2 : rckE 13 b = 0 := by show (if b = 0 then (101 : Int) else 0) = _; rw [if_neg hz]
      rw [e1, e2]
      clear e1 e2
      go_enter Try.func41, Try.ntmps41
      go_wp2
      all_goals go_ret2
      exact ⟨rfl, rfl⟩
    · have e1 : rckN 14 a b = a.tmod b := by show (if b = 0 then 0 else a.tmod b) = _; rw [if_neg hz]
      have e2 : rckE 14 b = 0 := by show (if b = 0 then (101 : Int) else 0) = _; rw [if_neg hz]
      rw [e1, e2]
      clear e1 e2
      go_enter Try.func41, Try.ntmps41
      go_wp2
      all_goals go_ret2
      exact ⟨rfl, rfl⟩
theorem ne_beq {a b : Int} (h : ¬ a = b) : (a == b) = false := by simpa using h
set_option maxHeartbeats 4000000 in
set_option maxRecDepth 100000 in
theorem reckon_5 (k a b : Int) (w : World) (h : ¬ (2 ≤ k ∧ k ≤ 14)) :
    Calls Try.prog 41 #[.int .i8 k, .int .i64 a, .int .i64 b] w fun e w' => e = .returned (.tuple #[.int .i64 (rckN k a b), .int .i64 (rckE k b)]) ∧ w = w' := by
  have e1 : rckN k a b = 0 := by
    unfold rckN
    repeat rw [if_neg (by omega)]
  have e2 : rckE k b = 2 := by
    unfold rckE
    repeat rw [if_neg (by omega)]
  rw [e1, e2]
  have h2 := ne_beq (show ¬ k = 2 by omega)
  have h3 := ne_beq (show ¬ k = 3 by omega)
  have h4 := ne_beq (show ¬ k = 4 by omega)
  have h5 := ne_beq (show ¬ k = 5 by omega)
  have h6 := ne_beq (show ¬ k = 6 by omega)
  have h7 := ne_beq (show ¬ k = 7 by omega)
  have h8 := ne_beq (show ¬ k = 8 by omega)
  have h9 := ne_beq (show ¬ k = 9 by omega)
  have h10 := ne_beq (show ¬ k = 10 by omega)
  have h11 := ne_beq (show ¬ k = 11 by omega)
  have h12 := ne_beq (show ¬ k = 12 by omega)
  have h13 := ne_beq (show ¬ k = 13 by omega)
  have h14 := ne_beq (show ¬ k = 14 by omega)
  clear e1 e2 h
  go_enter Try.func41, Try.ntmps41
  go_wp2
  all_goals go_ret2
  exact ⟨rfl, rfl⟩
/-- ops.Reckon. -/
theorem reckon_any (k a b : Int) (w : World) (hb0 : -9223372036854775808 ≤ b) (hb1 : b ≤ 9223372036854775807) :
    Calls Try.prog 41 #[.int .i8 k, .int .i64 a, .int .i64 b] w fun e w' => e = .returned (.tuple #[.int .i64 (rckN k a b), .int .i64 (rckE k b)]) ∧ w = w' := by
  by_cases h : 2 ≤ k ∧ k ≤ 14
  · by_cases h1 : k = 2 ∨ k = 3 ∨ k = 4 ∨ k = 5 ∨ k = 6 ∨ k = 11 ∨ k = 12
    · exact reckon_1 k a b w h1
    by_cases h2 : k = 7 ∨ k = 8
    · exact reckon_2 k a b w h2
    by_cases h3 : k = 9 ∨ k = 10
    · exact reckon_3 k a b w h3
    exact reckon_4 k a b w (by omega) hb0 hb1
  · exact reckon_5 k a b w h
end
/- What an operation makes of two numbers of 64 bits is one. -/
section
open Go.RowKit
theorem w64_bd (n : Int) : -9223372036854775808 ≤ wrap64 n ∧ wrap64 n ≤ 9223372036854775807 := by unfold wrap64; omega
theorem bits_and_bd (a b : Int) : -9223372036854775808 ≤ Go.bits .and .i64 a b ∧ Go.bits .and .i64 a b ≤ 9223372036854775807 := by
  simp only [Go.bits, IntKind.wrap_i64]
  omega
theorem bits_or_bd (a b : Int) : -9223372036854775808 ≤ Go.bits .or .i64 a b ∧ Go.bits .or .i64 a b ≤ 9223372036854775807 := by
  simp only [Go.bits, IntKind.wrap_i64]
  omega
theorem bits_xor_bd (a b : Int) : -9223372036854775808 ≤ Go.bits .xor .i64 a b ∧ Go.bits .xor .i64 a b ≤ 9223372036854775807 := by
  simp only [Go.bits, IntKind.wrap_i64]
  omega
theorem shr_bd (a : Int) (n : Nat) (h0 : -9223372036854775808 ≤ a) (h1 : a ≤ 9223372036854775807) : -9223372036854775808 ≤ a / 2 ^ n ∧ a / 2 ^ n ≤ 9223372036854775807 := by
  have hp : (1 : Int) ≤ 2 ^ n := by
    have : (0 : Int) < 2 ^ n := Int.pow_pos (by decide)
    omega
  generalize (2 : Int) ^ n = p at *
  constructor
  · apply Int.le_ediv_of_mul_le (by omega)
    omega
  · have : a / p < 9223372036854775808 := by
      apply Int.ediv_lt_of_lt_mul (by omega)
      omega
    omega
theorem tmod_bd (a b : Int) (hz : b ≠ 0) (h0 : -9223372036854775808 ≤ b) (h1 : b ≤ 9223372036854775807) : -9223372036854775808 ≤ a.tmod b ∧ a.tmod b ≤ 9223372036854775807 := by
  have h : (a.tmod b).natAbs = a.natAbs % b.natAbs := Int.natAbs_tmod _ _
  have h2 : a.natAbs % b.natAbs < b.natAbs := Nat.mod_lt _ (by omega)
  omega
theorem rckN_i64 (k a b : Int) (ha0 : -9223372036854775808 ≤ a) (ha1 : a ≤ 9223372036854775807) (hb0 : -9223372036854775808 ≤ b) (hb1 : b ≤ 9223372036854775807) : -9223372036854775808 ≤ rckN k a b ∧ rckN k a b ≤ 9223372036854775807 := by
  unfold rckN
  by_cases h2 : k = 2
  · rw [if_pos h2]; exact w64_bd _
  rw [if_neg h2]
  by_cases h3 : k = 3
  · rw [if_pos h3]; exact w64_bd _
  rw [if_neg h3]
  by_cases h4 : k = 4
  · rw [if_pos h4]; exact bits_and_bd _ _
  rw [if_neg h4]
  by_cases h5 : k = 5
  · rw [if_pos h5]; exact bits_or_bd _ _
  rw [if_neg h5]
  by_cases h6 : k = 6
  · rw [if_pos h6]; exact bits_xor_bd _ _
  rw [if_neg h6]
  by_cases h7 : k = 7
  · rw [if_pos h7]; exact w64_bd _
  rw [if_neg h7]
  by_cases h8 : k = 8
  · rw [if_pos h8]; exact shr_bd _ _ ha0 ha1
  rw [if_neg h8]
  by_cases h9 : k = 9
  · rw [if_pos h9]; split <;> omega
  rw [if_neg h9]
  by_cases h10 : k = 10
  · rw [if_pos h10]; split <;> omega
  rw [if_neg h10]
  by_cases h11 : k = 11
  · rw [if_pos h11]; omega
  rw [if_neg h11]
  by_cases h12 : k = 12
  · rw [if_pos h12]; exact w64_bd _
  rw [if_neg h12]
  by_cases h13 : k = 13
  · rw [if_pos h13]
    split
    · omega
    · exact w64_bd _
  rw [if_neg h13]
  by_cases h14 : k = 14
  · rw [if_pos h14]
    split
    · omega
    · exact tmod_bd _ _ (by assumption) hb0 hb1
  rw [if_neg h14]
  omega
end
end Go.Proofs.Ytpiagggnjppkhaa
