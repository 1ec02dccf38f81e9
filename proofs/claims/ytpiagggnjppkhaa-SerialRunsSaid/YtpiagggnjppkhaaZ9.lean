/- The document's Reckon. -/
import Derived.Test.YtpiagggnjppkhaaZ3
import Derived.Test.YtpiagggnjppkhaaZ8
namespace Go.Proofs.Ytpiagggnjppkhaa
open Go.RowKit
set_option linter.unusedVariables false
set_option linter.unusedSimpArgs false
section
open Go.RowKit
theorem bv64 (b : Int) : (BitVec.ofInt 64 b).toNat = (b % 18446744073709551616).toNat := by
  rw [BitVec.toNat_ofInt]
  rfl
theorem and63i (b : Int) : Go.bits .and .i64 b 63 = b % 64 := by
  have h : Go.bits .and .i64 b 63 = IntKind.i64.wrap ((BitVec.ofInt 64 b &&& BitVec.ofInt 64 63).toNat : Int) := rfl
  have h63 : (BitVec.ofInt 64 63).toNat = 2 ^ 6 - 1 := by decide
  rw [h, BitVec.toNat_and, h63, Nat.and_two_pow_sub_one_eq_mod, bv64]
  rw [IntKind.wrap_i64]
  omega
theorem w64_k (n : Int) : ∃ k : Int, wrap64 n = n - 18446744073709551616 * k := ⟨(n + 9223372036854775808) / 18446744073709551616, by unfold wrap64; omega⟩
theorem w64_eq {x y k : Int} (h : x = y + 18446744073709551616 * k) (h0 : -9223372036854775808 ≤ y) (h1 : y ≤ 9223372036854775807) : wrap64 x = y := by unfold wrap64; omega
theorem w64_cong {x y k : Int} (h : x = y + 18446744073709551616 * k) : wrap64 x = wrap64 y := by unfold wrap64; omega
theorem shl_same (a : Int) (p : Int) : wrap64 (a * p) = wrap64 (IntKind.u64.wrap (IntKind.u64.wrap a * p)) := by
  rw [wrap_u64, wrap_u64]
  have h1 : a % 18446744073709551616 = a - 18446744073709551616 * (a / 18446744073709551616) := by omega
  rw [h1]
  generalize a / 18446744073709551616 = q
  have h2 : (a - 18446744073709551616 * q) * p = a * p - 18446744073709551616 * (q * p) := by rw [Int.sub_mul, Int.mul_assoc]
  rw [h2]
  generalize a * p = x
  generalize q * p = y
  unfold wrap64
  omega
theorem rest_same (a b : Int) (hz : b ≠ 0) (hb0 : -9223372036854775808 ≤ b) (hb1 : b ≤ 9223372036854775807) : wrap64 (a - wrap64 (wrap64 (a.tdiv b) * b)) = a.tmod b := by
  obtain ⟨k2, hk2⟩ := w64_k (a.tdiv b)
  obtain ⟨k1, hk1⟩ := w64_k (wrap64 (a.tdiv b) * b)
  have hr := tmod_bd a b hz hb0 hb1
  have hd : a.tmod b = a - b * a.tdiv b := Int.tmod_def a b
  refine w64_eq (k := k2 * b + k1) ?_ hr.1 hr.2
  rw [hk1, hk2, hd, Int.sub_mul]
  have e1 : 18446744073709551616 * k2 * b = 18446744073709551616 * (k2 * b) := by rw [Int.mul_assoc]
  have e2 : a.tdiv b * b = b * a.tdiv b := Int.mul_comm _ _
  rw [e1, e2]
  omega
theorem rtruth_any (b : Bool) (w : World) : Calls Try.prog 113 #[.bool b] w fun e w' => e = .returned (.int .i64 (if b then 1 else 0)) ∧ w = w' := by
  cases b
  all_goals
    go_enter Try.func113, Try.ntmps113
    go_wp2
    go_ret
    exact ⟨rfl, rfl⟩
def RkP (k a b : Int) (w : World) (e : Ending) (w' : World) : Prop := e = .returned (.tuple #[.int .i64 (rckN k a b), .int .i64 (rckE k b)]) ∧ w = w'
set_option maxHeartbeats 4000000 in
set_option maxRecDepth 100000 in
theorem rreckon_1 (k a b : Int) (w : World) (h : k = 2 ∨ k = 3 ∨ k = 4 ∨ k = 5 ∨ k = 6 ∨ k = 11 ∨ k = 12) :
    Calls Try.prog 99 #[.int .i8 k, .int .i64 a, .int .i64 b] w (RkP k a b w) := by
  rcases h with rfl | rfl | rfl | rfl | rfl | rfl | rfl
  all_goals
    go_enter Try.func99, Try.ntmps99
    go_wp2
    all_goals go_ret2
    exact ⟨rfl, rfl⟩
set_option maxHeartbeats 4000000 in
set_option maxRecDepth 100000 in
theorem rreckon_2 (k a b : Int) (w : World) (h : k = 7 ∨ k = 8) :
    Calls Try.prog 99 #[.int .i8 k, .int .i64 a, .int .i64 b] w (RkP k a b w) := by
  have hs := and63i b
  have hs3 : 0 ≤ b % 64 := by omega
  have hs4 : b % 64 ≤ 64 := by omega
  have hs5 : b % 64 % 18446744073709551616 = b % 64 := by omega
  rcases h with rfl | rfl
  · have e1 := hid (shl_same a (2 ^ (b % 64).toNat))
    go_enter Try.func99, Try.ntmps99
    go_wp2
    go_ret2
    exact ⟨ret_pair e1.out rfl, rfl⟩
  · go_enter Try.func99, Try.ntmps99
    go_wp2
    go_ret2
    exact ⟨rfl, rfl⟩
set_option maxHeartbeats 4000000 in
set_option maxRecDepth 100000 in
theorem rreckon_3 (k a b : Int) (w : World) (h : k = 9 ∨ k = 10) :
    Calls Try.prog 99 #[.int .i8 k, .int .i64 a, .int .i64 b] w (RkP k a b w) := by
  have CT := hid (fun b w => rtruth_any b w)
  rcases h with rfl | rfl
  · by_cases h : a < b
    · have e1 : Hid (rckN 9 a b = 1) := hid (by show (if a < b then (1 : Int) else 0) = 1; rw [if_pos h])
      go_enter Try.func99, Try.ntmps99
      go_wp2_with fail
      with_reducible refine (CT.out _ _).mono ?_
      rintro e w' ⟨rfl, rfl⟩
      go_wp2
      go_ret2
      exact ⟨ret_pair e1.out.symm rfl, rfl⟩
    · have e1 : Hid (rckN 9 a b = 0) := hid (by show (if a < b then (1 : Int) else 0) = 0; rw [if_neg h])
      go_enter Try.func99, Try.ntmps99
      go_wp2_with fail
      with_reducible refine (CT.out _ _).mono ?_
      rintro e w' ⟨rfl, rfl⟩
      go_wp2
      go_ret2
      exact ⟨ret_pair e1.out.symm rfl, rfl⟩
  · cases h : (a == b)
    · have e1 : Hid (rckN 10 a b = 0) := hid (by show (if a = b then (1 : Int) else 0) = 0; rw [if_neg (by simpa using h)])
      go_enter Try.func99, Try.ntmps99
      go_wp2_with fail
      with_reducible refine (CT.out _ _).mono ?_
      rintro e w' ⟨rfl, rfl⟩
      go_wp2
      go_ret2
      exact ⟨ret_pair e1.out.symm rfl, rfl⟩
    · have e1 : Hid (rckN 10 a b = 1) := hid (by show (if a = b then (1 : Int) else 0) = 1; rw [if_pos (by simpa using h)])
      go_enter Try.func99, Try.ntmps99
      go_wp2_with fail
      with_reducible refine (CT.out _ _).mono ?_
      rintro e w' ⟨rfl, rfl⟩
      go_wp2
      go_ret2
      exact ⟨ret_pair e1.out.symm rfl, rfl⟩
set_option maxHeartbeats 4000000 in
set_option maxRecDepth 100000 in
theorem rreckon_4 (k a b : Int) (w : World) (h : k = 13 ∨ k = 14) (hb0 : -9223372036854775808 ≤ b) (hb1 : b ≤ 9223372036854775807) :
    Calls Try.prog 99 #[.int .i8 k, .int .i64 a, .int .i64 b] w (RkP k a b w) := by
  by_cases hz : b = 0
  · subst hz
    clear hb0 hb1
    rcases h with rfl | rfl
    all_goals
      go_enter Try.func99, Try.ntmps99
      go_wp2
      all_goals go_ret2
      exact ⟨rfl, rfl⟩
  · have hz' : (b == 0) = false := by simpa using hz
    rcases h with rfl | rfl
    · have e1 : Hid (rckN 13 a b = wrap64 (a.tdiv b)) := hid (by show (if b = 0 then 0 else wrap64 (a.tdiv b)) = _; rw [if_neg hz])
      have e2 : Hid (rckE 13 b = 0) := hid (by show (if b = 0 then (101 : Int) else 0) = _; rw [if_neg hz])
      clear hb0 hb1
      go_enter Try.func99, Try.ntmps99
      go_wp2
      all_goals go_ret2
      exact ⟨ret_pair e1.out.symm e2.out.symm, rfl⟩
    · have e1 : Hid (rckN 14 a b = a.tmod b) := hid (by show (if b = 0 then 0 else a.tmod b) = _; rw [if_neg hz])
      have e2 : Hid (rckE 14 b = 0) := hid (by show (if b = 0 then (101 : Int) else 0) = _; rw [if_neg hz])
      have e3 := hid (rest_same a b hz hb0 hb1)
      clear hb0 hb1
      go_enter Try.func99, Try.ntmps99
      go_wp2
      all_goals go_ret2
      exact ⟨ret_pair (e3.out.trans e1.out.symm) e2.out.symm, rfl⟩
set_option maxHeartbeats 4000000 in
set_option maxRecDepth 100000 in
theorem rreckon_5 (k a b : Int) (w : World) (h : ¬ (2 ≤ k ∧ k ≤ 14)) :
    Calls Try.prog 99 #[.int .i8 k, .int .i64 a, .int .i64 b] w (RkP k a b w) := by
  have e1 : Hid (rckN k a b = 0) := hid (by
    unfold rckN
    repeat rw [if_neg (by omega)])
  have e2 : Hid (rckE k b = 2) := hid (by
    unfold rckE
    repeat rw [if_neg (by omega)])
  have h2 := ne_beq (show ¬ k = 2 by omega)
  have h3 := ne_beq (show ¬ k = 3 by omega)
  have h4 := ne_beq (show ¬ k = 4 by omega)
  have h5 := ne_beq (show ¬ k = 5 by omega)
  have h6 := ne_beq (show ¬ k = 6 by omega)
  have h7 := ne_beq (show ¬ k = 7 by omega)
  have h8 := ne_beq (show ¬ k = 8 by omega)
  have h9 := ne_beq (show ¬ k = 9 by omega)
  have h10 := ne_beq (show ¬ k = 10 by omega)
  have h11 := ne_beq (show ¬ k = 11 by omega)
  have h12 := ne_beq (show ¬ k = 12 by omega)
  have h13 := ne_beq (show ¬ k = 13 by omega)
  have h14 := ne_beq (show ¬ k = 14 by omega)
  clear h
  go_enter Try.func99, Try.ntmps99
  go_wp2
  all_goals go_ret2
  exact ⟨ret_pair e1.out.symm e2.out.symm, rfl⟩
/-- hayloftref03.Reckon. -/
theorem rreckon_any (k a b : Int) (w : World) (hb0 : -9223372036854775808 ≤ b) (hb1 : b ≤ 9223372036854775807) :
    Calls Try.prog 99 #[.int .i8 k, .int .i64 a, .int .i64 b] w (RkP k a b w) := by
  by_cases h : 2 ≤ k ∧ k ≤ 14
  · by_cases h1 : k = 2 ∨ k = 3 ∨ k = 4 ∨ k = 5 ∨ k = 6 ∨ k = 11 ∨ k = 12
    · exact rreckon_1 k a b w h1
    by_cases h2 : k = 7 ∨ k = 8
    · exact rreckon_2 k a b w h2
    by_cases h3 : k = 9 ∨ k = 10
    · exact rreckon_3 k a b w h3
    exact rreckon_4 k a b w (by omega) hb0 hb1
  · exact rreckon_5 k a b w h
end
/- The document's machine: a cell's number; the list; a place. -/
section
open Go.RowKit
theorem Mach.rregs {g B : Nat} {S : Nat → Prop} {A : Option Addr} {l : List Blk} {cap : Nat} {pv : Value} {m : Mc} {w : World} {x : Nat → Value} (h : Mach w g 108 302 B S A l cap 2 pv m x) : RegsAt w g m := ⟨mcR h.cells (by decide), mcM h.cells (by decide), h.cells.frozen, h.cells.lt⟩
theorem tm256 (a : Int) : ∃ q r : Int, a.tmod 256 = r ∧ a = 256 * q + r ∧ -255 ≤ r ∧ r ≤ 255 := by
  have h1 := Int.tmod_lt_of_pos a (show (0 : Int) < 256 by decide)
  have h2 := Int.lt_tmod_of_pos a (show (0 : Int) < 256 by decide)
  have h3 := Int.tmod_def a 256
  exact ⟨a.tdiv 256, a.tmod 256, rfl, by omega, by omega, by omega⟩
set_option maxHeartbeats 4000000 in
set_option maxRecDepth 100000 in
theorem rcell_any (a n : Int) (w : World) (ha0 : -9223372036854775808 ≤ a) (ha1 : a ≤ 9223372036854775807) (hn0 : -9223372036854775808 ≤ n) (hn1 : n ≤ 9223372036854775807) :
    Calls Try.prog 98 #[.int .i64 a, .int .i64 n] w fun e w' => e = .returned (.int .i64 ((a + n) % 256)) ∧ w = w' := by
  obtain ⟨q1, r1, e1, f1, g1, k1⟩ := tm256 a
  obtain ⟨q2, r2, e2, f2, g2, k2⟩ := tm256 n
  obtain ⟨q3, r3, e3, f3, g3, k3⟩ := tm256 (r1 + r2)
  have hw1 : wrap64 r1 = r1 := by unfold wrap64; omega
  have hw2 : wrap64 r2 = r2 := by unfold wrap64; omega
  have hw3 : wrap64 (r1 + r2) = r1 + r2 := by unfold wrap64; omega
  by_cases h : r3 < 0
  · have hw4 : wrap64 (r3 + 256) = r3 + 256 := by unfold wrap64; omega
    have E := hid (show (a + n) % 256 = r3 + 256 by omega)
    clear f1 f2 f3
    go_enter Try.func98, Try.ntmps98
    go_wp2
    go_ret
    refine ⟨?_, rfl⟩
    first
      | (rw [E.out]; done)
      | (rw [E.out]; rfl)
  · have E := hid (show (a + n) % 256 = r3 by omega)
    clear f1 f2 f3
    go_enter Try.func98, Try.ntmps98
    go_wp2
    go_ret
    refine ⟨?_, rfl⟩
    first
      | (rw [E.out]; done)
      | (rw [E.out]; rfl)
set_option maxHeartbeats 4000000 in
set_option maxRecDepth 100000 in
theorem rlist_any {g B : Nat} {S : Nat → Prop} {A : Option Addr} {l : List Blk} {cap : Nat} {pv : Value} {m : Mc} {w : World} {x : Nat → Value} (h : Mach w g 108 302 B S A l cap 2 pv m x) (hbl : m.blk < l.length) (h128 : l.length ≤ 128) :
    Calls Try.prog 77 #[.pointer (some ⟨g, 0, none⟩)] w (LstAt S w l m) := by
  obtain ⟨q, o, rfl, _, hq⟩ := h.blks.get m.blk hbl
  obtain ⟨B1, c1, B2, c2, k0, k1, k2, k3, k4, k5, o1, o2, l1, l2, s1, s2⟩ := hq
  have hbk : l[m.blk]? = some l[m.blk] := List.getElem?_eq_getElem hbl
  have r0 : w.cell? ⟨g, 0, none⟩ = some (.slice (some ⟨q, o, none⟩) l.length cap) := h.cells.cell 0 (by decide)
  have r1 : w.cell? ⟨g, 289, none⟩ = some (.int .i64 m.blk) := h.cells.cell 289 (by decide)
  have r2 : w.cell? ⟨g, 290, none⟩ = some (.bool m.body) := h.cells.cell 290 (by decide)
  have hgl := h.cells.lt
  have hql : q < w.heap.size := World.block_lt_of_cell? w _ k0
  have hij : (m.blk : Int) < (l.length : Int) := by omega
  have hi0 : (0 : Int) ≤ (m.blk : Int) := by omega
  have e1 := lst_ops hbk
  have e2 := lst_body hbk
  generalize l[m.blk] = b at *
  clear h hbk
  cases hbd : m.body with
  | false =>
    have e := hid (e1 hbd)
    rw [hbd] at r2
    have O1 := hid o1
    have S1 := hid s1
    clear e1 e2 hbd o1 o2 s1 s2
    go_enter Try.func77, Try.ntmps77
    go_wp2
    go_quiet (fail)
    go_wp2
    refine bodyPost_ret (v := .slice B1 b.ops.length c1) (by simp [results, Try.results77, go_sem]) rfl ?_
    exact ⟨B1, c1, by rw [e.out], by rw [e.out]; exact O1.out.keep (by ((with_reducible (repeat (first | assumption | exact Below.refl _ _ | refine bset ?_ (Nat.le_refl _) _ | refine balloc ?_ _ | refine bdrew ?_ | refine bdrewN ?_ _))); done)), by rw [e.out]; exact l1, (by ((with_reducible (repeat (first | assumption | exact Below.refl _ _ | refine bset ?_ (Nat.le_refl _) _ | refine balloc ?_ _ | refine bdrew ?_ | refine bdrewN ?_ _))); done)), by rw [e.out]; exact S1.out⟩
  | true =>
    have e := hid (e2 hbd)
    rw [hbd] at r2
    have O1 := hid o2
    have S1 := hid s2
    clear e1 e2 hbd o1 o2 s1 s2
    go_enter Try.func77, Try.ntmps77
    go_wp2
    go_quiet (fail)
    go_wp2
    refine bodyPost_ret (v := .slice B2 b.body.length c2) (by simp [results, Try.results77, go_sem]) rfl ?_
    exact ⟨B2, c2, by rw [e.out], by rw [e.out]; exact O1.out.keep (by ((with_reducible (repeat (first | assumption | exact Below.refl _ _ | refine bset ?_ (Nat.le_refl _) _ | refine balloc ?_ _ | refine bdrew ?_ | refine bdrewN ?_ _))); done)), by rw [e.out]; exact l2, (by ((with_reducible (repeat (first | assumption | exact Below.refl _ _ | refine bset ?_ (Nat.le_refl _) _ | refine balloc ?_ _ | refine bdrew ?_ | refine bdrewN ?_ _))); done)), by rw [e.out]; exact S1.out⟩
def RendS (g : Nat) (B : Nat) (S : Nat → Prop) (A : Option Addr) (l : List Blk) (cap : Nat) (pv : Value) (m : Mc) (x : Nat → Value) (w : World) (e : Ending) (w' : World) : Prop :=
  e = .returned (.tuple #[]) ∧ Went w pv.ownBlock w' g 108 302 B S A l cap 2 pv m x
set_option maxHeartbeats 4000000 in
set_option maxRecDepth 100000 in
theorem rto_any {g B : Nat} {S : Nat → Prop} {A : Option Addr} {l : List Blk} {cap : Nat} {pv : Value} {m : Mc} {w : World} {x : Nat → Value} (t : Nat) (h : Mach w g 108 302 B S A l cap 2 pv m x) :
    Calls Try.prog 100 #[.pointer (some ⟨g, 0, none⟩), .int .i64 t] w (RendS g B S A l cap pv { m with blk := t, body := false, pos := 0 } x w) := by
  have r1 : w.cell? ⟨g, 289, none⟩ = some (.int .i64 m.blk) := h.cells.cell 289 (by decide)
  have r2 : w.cell? ⟨g, 290, none⟩ = some (.bool m.body) := h.cells.cell 290 (by decide)
  have r3 : w.cell? ⟨g, 291, none⟩ = some (.int .i64 m.pos) := h.cells.cell 291 (by decide)
  have f1 := h.cells.frozen 289
  have f2 := h.cells.frozen 290
  have f3 := h.cells.frozen 291
  have hgl := h.cells.lt
  have W0 := hid h.went
  clear h
  go_enter Try.func100, Try.ntmps100
  go_wp2
  refine bodyPost_ret (v := .tuple #[]) (by simp [results, Try.results100, go_sem]) rfl ?_
  exact ⟨rfl, W0.out.place t false 0⟩
end
end Go.Proofs.Ytpiagggnjppkhaa
