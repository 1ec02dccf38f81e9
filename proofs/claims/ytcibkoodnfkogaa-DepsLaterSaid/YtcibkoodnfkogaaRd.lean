/- ops.Reads and the document's: the registers that are read; regs. -/
import Derived.Test.YtcibkoodnfkogaaR03c
import Derived.Test.YtcibkoodnfkogaaPrg15
import Derived.Deep.AppendLies
namespace Go.Proofs.Ytcibkoodnfkogaa
open Go.RowKit
set_option linter.unusedVariables false
set_option linter.unusedSimpArgs false
/-- These small numbers lie from address A on. -/
def U8At (w : World) (A : Option Addr) (l : List Int) (B : Nat) : Prop :=
  l ≠ [] → ∃ g off, A = some ⟨g, off, none⟩ ∧ B ≤ g ∧ g < w.heap.size ∧ ∀ (i : Nat) (x : Int), l[i]? = some x → w.cell? ⟨g, off + i, none⟩ = some (.int .u8 x)
theorem U8At.keep {w w' : World} {A : Option Addr} {l : List Int} {B : Nat} (h : U8At w A l B) (hb : Below w.heap.size w w') : U8At w' A l B := fun hl => by
  obtain ⟨g, off, ha, h1, h2, hx⟩ := h hl
  exact ⟨g, off, ha, h1, Nat.lt_of_lt_of_le h2 hb.size, fun i x hi => cell_keep (hx i x hi) hb⟩
theorem U8At.mono {w : World} {A : Option Addr} {l : List Int} {B C : Nat} (h : U8At w A l B) (hc : C ≤ B) : U8At w A l C := fun hl => by
  obtain ⟨g, off, ha, h1, h2, hx⟩ := h hl
  exact ⟨g, off, ha, Nat.le_trans hc h1, h2, hx⟩
/-- A list of registers is answered. -/
def RdP (l : List Int) (w : World) (e : Ending) (w' : World) : Prop :=
  ∃ (A : Option Addr) (c : Nat), e = .returned (.slice A l.length c) ∧ U8At w' A l w.heap.size ∧ Below w.heap.size w w'
theorem rds_no {o : Op} (h : chk o = false) : rds o = [] := by unfold rds; rw [h]; rfl
theorem rds_yes {o : Op} (h : chk o = true) : rds o = if (shp o.k).a && (shp o.k).b && o.a != o.b then [o.a, o.b] else if (shp o.k).a then [o.a] else if (shp o.k).b then [o.b] else [] := by unfold rds; rw [h]; rfl
theorem rd_no (o : Op) (w : World) (hwf : o.wf) (hc : chk o = false) : Calls Try.prog 115 #[o.val] w (RdP (rds o) w) := by
  have C1 := hid (fun w => check_any o w hwf)
  have C2 := hid (fun w => of_any o.k w)
  have HC : Hid (chkE o = 30) := hid (by unfold chkE; rw [hc]; rfl)
  rw [rds_no hc]
  obtain ⟨k, d, a, b, n⟩ := o
  generalize hs : shp k = s at C2
  clear hs hc
  go_enter Try.func115, Try.ntmps115
  go_wp2_with fail
  with_reducible refine (C2.out _).mono ?_
  rintro e w1 ⟨rfl, hb⟩
  have B1 := hid (btrans (a := w) (by ((with_reducible (repeat (first | assumption | exact Below.refl _ _ | refine bset ?_ (Nat.le_refl _) _ | refine balloc ?_ _ | refine bdrew ?_ | refine bdrewN ?_ _))); done)) hb)
  obtain ⟨hc1, hf1⟩ := bcell hb
  have hz := bsize hb
  clear hb
  go_wp2_with fail
  with_reducible refine (C1.out _).mono ?_
  rintro e w2 ⟨rfl, hb⟩
  rw [HC.out]
  have B2 := hid (btrans (balloc B1.out _) hb)
  clear hb
  go_wp2
  go_ret
  exact ⟨none, 0, rfl, fun h => absurd rfl h, B2.out⟩
set_option maxHeartbeats 4000000 in
set_option maxRecDepth 100000 in
theorem rd_yes (o : Op) (w : World) (hwf : o.wf) (hc : chk o = true) : Calls Try.prog 115 #[o.val] w (RdP (rds o) w) := by
  have C1 := hid (fun w => check_any o w hwf)
  have C2 := hid (fun w => of_any o.k w)
  have HC : Hid (chkE o = 0) := hid (by unfold chkE; rw [hc]; rfl)
  rw [rds_yes hc]
  clear hc
  obtain ⟨k, d, a, b, n⟩ := o
  show Calls _ _ _ _ (RdP (if (shp k).a && (shp k).b && a != b then [a, b] else if (shp k).a then [a] else if (shp k).b then [b] else []) w)
  generalize hs : shp k = s at C2 ⊢
  clear hs hwf
  obtain ⟨nm, cl, sd, sa, sb, sn, si, is⟩ := s
  show Calls _ _ _ _ (RdP (if sa && sb && a != b then [a, b] else if sa then [a] else if sb then [b] else []) w)
  obtain ⟨L, hL⟩ : ∃ L, (if sa && sb && a != b then [a, b] else if sa then [a] else if sb then [b] else []) = L := ⟨_, rfl⟩
  rw [hL]
  have HL := hid hL
  clear hL
  go_enter Try.func115, Try.ntmps115
  go_wp2_with fail
  with_reducible refine (C2.out _).mono ?_
  rintro e w1 ⟨rfl, hb⟩
  have B1 := hid (btrans (a := w) (by ((with_reducible (repeat (first | assumption | exact Below.refl _ _ | refine bset ?_ (Nat.le_refl _) _ | refine balloc ?_ _ | refine bdrew ?_ | refine bdrewN ?_ _))); done)) hb)
  have hc1 := (bcell hb).1
  have z2 : w1.cell? ⟨w.heap.size, 2, none⟩ = some (.int .u8 a) := by go_simp
  have z3 : w1.cell? ⟨w.heap.size, 3, none⟩ = some (.int .u8 b) := by go_simp
  have hz := bsize hb
  go_wp2_with fail
  with_reducible refine (C1.out _).mono ?_
  rintro e w2 ⟨rfl, hb2⟩
  rw [HC.out]
  have B2 := hid (btrans (balloc B1.out _) hb2)
  have hc2 := (bcell hb2).1
  have y3 : w2.cell? ⟨w1.heap.size, 3, none⟩ = some (.bool sa) := by go_simp
  have y4 : w2.cell? ⟨w1.heap.size, 4, none⟩ = some (.bool sb) := by go_simp
  replace z2 := cell_keep (cell_keep z2 (balloc (Below.refl _ w1) _)) hb2
  replace z3 := cell_keep (cell_keep z3 (balloc (Below.refl _ w1) _)) hb2
  have hz1 := bsize hb2
  have hz2 : w.heap.size < w2.heap.size := by omega
  have BF : Hid (Below w.heap.size w (w2.alloc (.cells #[.int .u8 a, .int .u8 b] 5))) := hid (balloc B2.out _)
  have U0 : Hid (∀ (x : Int) (i : Nat), [a, b][i]? = some x → (w2.alloc (.cells #[.int .u8 a, .int .u8 b] 5)).cell? ⟨w2.heap.size, i, none⟩ = some (.int .u8 x)) := hid fun x i hi => by
    rw [cell_of_row _ _ _ _ _ _ (heap_alloc_new _ _)]
    rcases i with _ | _ | i
    · simp at hi; subst hi; rfl
    · simp at hi; subst hi; rfl
    · simp at hi
  clear hb hb2 hc1 hc2 B1 B2
  cases sa with
  | true =>
    cases sb with
    | true =>
      cases hab : (a != b) with
      | true =>
        have hl : L = [a, b] := by rw [← HL.out, hab]; rfl
        subst hl
        go_wp2
        go_ret
        exact ⟨some ⟨w2.heap.size, 0, none⟩, 2, rfl, fun _ => ⟨_, _, rfl, by omega, by simp, fun i x hi => by rw [Nat.zero_add]; exact U0.out x i hi⟩, BF.out⟩
      | false =>
        have hl : L = [a] := by rw [← HL.out, hab]; rfl
        subst hl
        go_wp2
        go_ret
        refine ⟨some ⟨w2.heap.size, 0, none⟩, 1, rfl, fun _ => ⟨_, _, rfl, by omega, by simp, fun i x hi => ?_⟩, BF.out⟩
        rw [Nat.zero_add]
        rcases i with _ | i
        · exact U0.out x 0 hi
        · simp at hi
    | false =>
      have hl : L = [a] := by rw [← HL.out]; rfl
      subst hl
      go_wp2
      go_ret
      refine ⟨some ⟨w2.heap.size, 0, none⟩, 1, rfl, fun _ => ⟨_, _, rfl, by omega, by simp, fun i x hi => ?_⟩, BF.out⟩
      rw [Nat.zero_add]
      rcases i with _ | i
      · exact U0.out x 0 hi
      · simp at hi
  | false =>
    cases sb with
    | true =>
      have hl : L = [b] := by rw [← HL.out]; rfl
      subst hl
      go_wp2
      go_ret
      refine ⟨some ⟨w2.heap.size, 1, none⟩, 1, rfl, fun _ => ⟨_, _, rfl, by omega, by simp, fun i x hi => ?_⟩, BF.out⟩
      rcases i with _ | i
      · exact U0.out x 1 hi
      · simp at hi
    | false =>
      have hl : L = [] := by rw [← HL.out]; rfl
      subst hl
      go_wp2
      go_ret
      exact ⟨none, 0, rfl, fun h => absurd rfl h, BF.out⟩
theorem rd_any (o : Op) (w : World) (hwf : o.wf) : Calls Try.prog 115 #[o.val] w (RdP (rds o) w) := by
  cases hc : chk o with
  | false => exact rd_no o w hwf hc
  | true => exact rd_yes o w hwf hc
end Go.Proofs.Ytcibkoodnfkogaa
