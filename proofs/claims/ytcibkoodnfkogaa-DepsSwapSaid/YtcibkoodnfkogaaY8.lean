/- Dependences: the plain answers of deps.Of and deps.Loop. -/
import Derived.Test.YtcibkoodnfkogaaY5
import Derived.Test.YtcibkoodnfkogaaY6
import Derived.Test.YtcibkoodnfkogaaY7
import Derived.Test.YtcibkoodnfkogaaY4
import Derived.Deep.AppendLies
namespace Go.Proofs.Ytcibkoodnfkogaa
open Go.RowKit
set_option linter.unusedVariables false
set_option linter.unusedSimpArgs false
section
open Go.RowKit
/-- A dependence: from, to, latency, distance, why. -/
structure Edge where
  f : Int
  t : Int
  l : Int
  d : Int
  y : Int
def Edge.cells (e : Edge) : List Value := [.int .i64 e.f, .int .i64 e.t, .int .i64 e.l, .int .i64 e.d, .int .i8 e.y]
abbrev Edge.val (e : Edge) : Value := .agg #[.int .i64 e.f, .int .i64 e.t, .int .i64 e.l, .int .i64 e.d, .int .i8 e.y]
/-- An operation's latency. -/
def latE (t : List Int) (o : Op) : Int := t[4 + (clsN o.k).toNat]?.getD 0
def effB (k : Int) : Bool := k == 17 || (k == 13 || k == 14)
/-- The register that an operation writes, or -1. -/
def dN (o : Op) : Int := if wrB o then o.d else -1
/-- By registers: who was last to write it ahead of place n (the place and 1), or 0. -/
def lastT (l : List Op) : Nat → List Int
  | 0 => List.replicate 32 0
  | n + 1 => match l[n]? with
    | some o => if wrB o then (lastT l n).set o.d.toNat (n + 1) else lastT l n
    | none => lastT l n
/-- By registers: who was last of all to write it, as long as place n has not been reached by another writer. -/
def openT (l : List Op) : Nat → List Int
  | 0 => lastT l l.length
  | n + 1 => match l[n]? with
    | some o => if wrB o then (openT l n).set o.d.toNat 0 else openT l n
    | none => openT l n
def fromB (T : List Int) (o : Op) (i : Nat) : Bool := (rds o).any fun r => T[r.toNat]?.getD 0 == (i : Int) + 1
def seesB (o : Op) (r : Int) : Bool := (rds o).any fun x => x == r
/-- All dependences of a pair but the true one. -/
def antiE (a b : Op) (i j ds : Int) : List Edge := if decide (0 ≤ dN b) && seesB a (dN b) then [⟨i, j, 0, ds, 1⟩] else []
def outDE (t : List Int) (a b : Op) (i j ds : Int) : List Edge := if decide (0 ≤ dN b) && dN a == dN b then [⟨i, j, max 0 (latE t a - latE t b + 1), ds, 2⟩] else []
def memE (t : List Int) (a b : Op) (i j ds : Int) (m : Bool) : List Edge := if m && (a.k == 16 || b.k == 16) then [⟨i, j, if a.k == 16 && b.k == 16 then 1 else if a.k == 16 then t[(6 : Nat)]?.getD 0 else 0, ds, 3⟩] else []
def ordE (a b : Op) (i j ds : Int) : List Edge := if effB a.k && effB b.k then [⟨i, j, 1, ds, 4⟩] else []
def pairE (t : List Int) (a b : Op) (i j ds : Int) (m : Bool) : List Edge := antiE a b i j ds ++ (outDE t a b i j ds ++ (memE t a b i j ds m ++ ordE a b i j ds))
def trueE (t T : List Int) (a b : Op) (i j : Nat) (ds : Int) : List Edge := if fromB T b i then [⟨i, j, latE t a, ds, 0⟩] else []
def stepE (l : List Op) (t T : List Int) (ds : Int) (i j : Nat) (m : Bool) : List Edge :=
  match l[i]?, l[j]? with
  | some a, some b => trueE t T a b i j ds ++ pairE t a b i j ds m
  | _, _ => []
/-- The dependences of one round that go to j, from places below n. -/
def onceJ (l : List Op) (t : List Int) (j : Nat) : Nat → List Edge
  | 0 => []
  | n + 1 => onceJ l t j n ++ stepE l t (lastT l j) 0 n j (meetL l n j)
def onceE (l : List Op) (t : List Int) : Nat → List Edge
  | 0 => []
  | n + 1 => onceE l t n ++ onceJ l t n n
def arndJ (l : List Op) (t : List Int) (j : Nat) : Nat → List Edge
  | 0 => []
  | n + 1 => arndJ l t j n ++ stepE l t (openT l j) 1 n j (roundL l n j)
def arndE (l : List Op) (t : List Int) : Nat → List Edge
  | 0 => []
  | n + 1 => arndE l t n ++ arndJ l t n l.length
def depOk (o : Op) : Bool := decide (1 ≤ o.k) && decide (o.k ≤ 17) && chk o
/-- The error of a list and a table. -/
def depE (l : List Op) (t : List Int) : Int := if tabOk t then if 1024 < l.length then 3 else if l.all depOk then 0 else 30 else 20
def ofE (l : List Op) (t : List Int) : List Edge := if depE l t == 0 then onceE l t l.length else []
def loopE (l : List Op) (t : List Int) : List Edge := if depE l t == 0 then onceE l t l.length ++ arndE l t l.length else []
theorem dN_yes {o : Op} (h : wrB o = true) : dN o = o.d := by unfold dN; rw [h]; rfl
theorem dN_no {o : Op} (h : wrB o = false) : dN o = -1 := by unfold dN; rw [h]; rfl
theorem dN_bd {o : Op} (hw : o.wf) : -1 ≤ dN o ∧ dN o ≤ 31 := by
  cases h : wrB o with
  | true =>
    rw [dN_yes h]
    unfold wrB at h
    rw [Bool.and_eq_true] at h
    have h2 := h.2
    unfold chk at h2
    simp only [Bool.and_eq_true, decide_eq_true_eq] at h2
    have := hw.d0
    omega
  | false => rw [dN_no h]; omega
theorem pairE_len (t : List Int) (a b : Op) (i j ds : Int) (m : Bool) : (pairE t a b i j ds m).length ≤ 4 := by
  have h1 : (antiE a b i j ds).length ≤ 1 := by unfold antiE; split <;> simp
  have h2 : (outDE t a b i j ds).length ≤ 1 := by unfold outDE; split <;> simp
  have h3 : (memE t a b i j ds m).length ≤ 1 := by unfold memE; split <;> simp
  have h4 : (ordE a b i j ds).length ≤ 1 := by unfold ordE; split <;> simp
  unfold pairE
  simp only [List.length_append]
  omega
theorem stepE_len (l : List Op) (t T : List Int) (ds : Int) (i j : Nat) (m : Bool) : (stepE l t T ds i j m).length ≤ 5 := by
  unfold stepE
  split
  · rename_i a b _ _
    have h1 : (trueE t T a b i j ds).length ≤ 1 := by unfold trueE; split <;> simp
    have := pairE_len t a b i j ds m
    rw [List.length_append]
    omega
  · simp
theorem onceJ_len (l : List Op) (t : List Int) (j n : Nat) : (onceJ l t j n).length ≤ 5 * n := by
  induction n with
  | zero => simp [onceJ]
  | succ n ih =>
    have := stepE_len l t (lastT l j) 0 n j (meetL l n j)
    unfold onceJ
    rw [List.length_append]
    omega
theorem arndJ_len (l : List Op) (t : List Int) (j n : Nat) : (arndJ l t j n).length ≤ 5 * n := by
  induction n with
  | zero => simp [arndJ]
  | succ n ih =>
    have := stepE_len l t (openT l j) 1 n j (roundL l n j)
    unfold arndJ
    rw [List.length_append]
    omega
theorem onceE_len (l : List Op) (t : List Int) (n : Nat) (hn : n ≤ 1024) : (onceE l t n).length ≤ 5120 * n := by
  induction n with
  | zero => simp [onceE]
  | succ n ih =>
    have := onceJ_len l t n n
    have := ih (by omega)
    unfold onceE
    rw [List.length_append]
    omega
theorem arndE_len (l : List Op) (t : List Int) (n : Nat) (hl : l.length ≤ 1024) : (arndE l t n).length ≤ 5120 * n := by
  induction n with
  | zero => simp [arndE]
  | succ n ih =>
    have := arndJ_len l t n l.length
    unfold arndE
    rw [List.length_append]
    omega
theorem lastT_len (l : List Op) (n : Nat) : (lastT l n).length = 32 := by
  induction n with
  | zero => simp [lastT]
  | succ n ih =>
    unfold lastT
    split
    · split
      · rw [List.length_set]; exact ih
      · exact ih
    · exact ih
theorem openT_len (l : List Op) (n : Nat) : (openT l n).length = 32 := by
  induction n with
  | zero => exact lastT_len _ _
  | succ n ih =>
    unfold openT
    split
    · split
      · rw [List.length_set]; exact ih
      · exact ih
    · exact ih
theorem lastT_bd (l : List Op) (n : Nat) (hn : n ≤ l.length) : ∀ x ∈ lastT l n, 0 ≤ x ∧ x ≤ l.length := by
  induction n with
  | zero => intro x hx; rw [lastT, List.mem_replicate] at hx; omega
  | succ n ih =>
    intro x hx
    have ih := ih (by omega)
    unfold lastT at hx
    split at hx
    · split at hx
      · rcases List.mem_or_eq_of_mem_set hx with h | h
        · exact ih x h
        · omega
      · exact ih x hx
    · exact ih x hx
theorem openT_bd (l : List Op) (n : Nat) : ∀ x ∈ openT l n, 0 ≤ x ∧ x ≤ l.length := by
  induction n with
  | zero => exact lastT_bd l _ (Nat.le_refl _)
  | succ n ih =>
    intro x hx
    unfold openT at hx
    split at hx
    · split at hx
      · rcases List.mem_or_eq_of_mem_set hx with h | h
        · exact ih x h
        · omega
      · exact ih x hx
    · exact ih x hx
theorem chk_regs {o : Op} (h : chk o = true) : o.d ≤ 31 ∧ o.a ≤ 31 ∧ o.b ≤ 31 := by
  unfold chk at h
  simp only [Bool.and_eq_true, decide_eq_true_eq] at h
  omega
theorem wrB_chk {o : Op} (h : wrB o = true) : chk o = true := by
  unfold wrB at h
  rw [Bool.and_eq_true] at h
  exact h.2
theorem rds_bd {o : Op} (hw : o.wf) : ∀ r ∈ rds o, 0 ≤ r ∧ r ≤ 31 := by
  intro r hr
  unfold rds at hr
  split at hr
  · rename_i hc
    have h1 := chk_regs hc
    have h2 := hw.a0
    have h3 := hw.b0
    split at hr
    · simp only [List.mem_cons, List.not_mem_nil, or_false] at hr
      rcases hr with rfl | rfl <;> omega
    · split at hr
      · simp only [List.mem_cons, List.not_mem_nil, or_false] at hr
        subst hr; omega
      · split at hr
        · simp only [List.mem_cons, List.not_mem_nil, or_false] at hr
          subst hr; omega
        · simp at hr
  · simp at hr
theorem rds_len (o : Op) : (rds o).length ≤ 2 := by
  unfold rds
  repeat' split
  all_goals simp
end
/- ops.Reads and the document's: the registers that are read; regs. -/
section
open Go.RowKit
/-- These small numbers lie from address A on. -/
def U8At (w : World) (A : Option Addr) (l : List Int) (B : Nat) : Prop :=
  l ≠ [] → ∃ g off, A = some ⟨g, off, none⟩ ∧ B ≤ g ∧ g < w.heap.size ∧ ∀ (i : Nat) (x : Int), l[i]? = some x → w.cell? ⟨g, off + i, none⟩ = some (.int .u8 x)
theorem U8At.keep {w w' : World} {A : Option Addr} {l : List Int} {B : Nat} (h : U8At w A l B) (hb : Below w.heap.size w w') : U8At w' A l B := fun hl => by
  obtain ⟨g, off, ha, h1, h2, hx⟩ := h hl
  exact ⟨g, off, ha, h1, Nat.lt_of_lt_of_le h2 hb.size, fun i x hi => cell_keep (hx i x hi) hb⟩
theorem U8At.mono {w : World} {A : Option Addr} {l : List Int} {B C : Nat} (h : U8At w A l B) (hc : C ≤ B) : U8At w A l C := fun hl => by
  obtain ⟨g, off, ha, h1, h2, hx⟩ := h hl
  exact ⟨g, off, ha, Nat.le_trans hc h1, h2, hx⟩
/-- A list of registers is answered. -/
def RdP (l : List Int) (w : World) (e : Ending) (w' : World) : Prop :=
  ∃ (A : Option Addr) (c : Nat), e = .returned (.slice A l.length c) ∧ U8At w' A l w.heap.size ∧ Below w.heap.size w w'
theorem rds_no {o : Op} (h : chk o = false) : rds o = [] := by unfold rds; rw [h]; rfl
theorem rds_yes {o : Op} (h : chk o = true) : rds o = if (shp o.k).a && (shp o.k).b && o.a != o.b then [o.a, o.b] else if (shp o.k).a then [o.a] else if (shp o.k).b then [o.b] else [] := by unfold rds; rw [h]; rfl
theorem rd_no (o : Op) (w : World) (hwf : o.wf) (hc : chk o = false) : Calls Try.prog 115 #[o.val] w (RdP (rds o) w) := by
  have C1 := hid (fun w => check_any o w hwf)
  have C2 := hid (fun w => of_any o.k w)
  have HC : Hid (chkE o = 30) := hid (by unfold chkE; rw [hc]; rfl)
  rw [rds_no hc]
  obtain ⟨k, d, a, b, n⟩ := o
  generalize hs : shp k = s at C2
  clear hs hc
  go_enter Try.func115, Try.ntmps115
  go_wp2_with fail
  with_reducible refine (C2.out _).mono ?_
  rintro e w1 ⟨rfl, hb⟩
  have B1 := hid (btrans (a := w) (by ((with_reducible (repeat (first | assumption | exact Below.refl _ _ | refine bset ?_ (Nat.le_refl _) _ | refine balloc ?_ _ | refine bdrew ?_ | refine bdrewN ?_ _))); done)) hb)
  obtain ⟨hc1, hf1⟩ := bcell hb
  have hz := bsize hb
  clear hb
  go_wp2_with fail
  with_reducible refine (C1.out _).mono ?_
  rintro e w2 ⟨rfl, hb⟩
  rw [HC.out]
  have B2 := hid (btrans (balloc B1.out _) hb)
  clear hb
  go_wp2
  go_ret
  exact ⟨none, 0, rfl, fun h => absurd rfl h, B2.out⟩
set_option maxHeartbeats 4000000 in
set_option maxRecDepth 100000 in
theorem rd_yes (o : Op) (w : World) (hwf : o.wf) (hc : chk o = true) : Calls Try.prog 115 #[o.val] w (RdP (rds o) w) := by
  have C1 := hid (fun w => check_any o w hwf)
  have C2 := hid (fun w => of_any o.k w)
  have HC : Hid (chkE o = 0) := hid (by unfold chkE; rw [hc]; rfl)
  rw [rds_yes hc]
  clear hc
  obtain ⟨k, d, a, b, n⟩ := o
  show Calls _ _ _ _ (RdP (if (shp k).a && (shp k).b && a != b then [a, b] else if (shp k).a then [a] else if (shp k).b then [b] else []) w)
  generalize hs : shp k = s at C2 ⊢
  clear hs hwf
  obtain ⟨nm, cl, sd, sa, sb, sn, si, is⟩ := s
  show Calls _ _ _ _ (RdP (if sa && sb && a != b then [a, b] else if sa then [a] else if sb then [b] else []) w)
  obtain ⟨L, hL⟩ : ∃ L, (if sa && sb && a != b then [a, b] else if sa then [a] else if sb then [b] else []) = L := ⟨_, rfl⟩
  rw [hL]
  have HL := hid hL
  clear hL
  go_enter Try.func115, Try.ntmps115
  go_wp2_with fail
  with_reducible refine (C2.out _).mono ?_
  rintro e w1 ⟨rfl, hb⟩
  have B1 := hid (btrans (a := w) (by ((with_reducible (repeat (first | assumption | exact Below.refl _ _ | refine bset ?_ (Nat.le_refl _) _ | refine balloc ?_ _ | refine bdrew ?_ | refine bdrewN ?_ _))); done)) hb)
  have hc1 := (bcell hb).1
  have z2 : w1.cell? ⟨w.heap.size, 2, none⟩ = some (.int .u8 a) := by go_simp
  have z3 : w1.cell? ⟨w.heap.size, 3, none⟩ = some (.int .u8 b) := by go_simp
  have hz := bsize hb
  go_wp2_with fail
  with_reducible refine (C1.out _).mono ?_
  rintro e w2 ⟨rfl, hb2⟩
  rw [HC.out]
  have B2 := hid (btrans (balloc B1.out _) hb2)
  have hc2 := (bcell hb2).1
  have y3 : w2.cell? ⟨w1.heap.size, 3, none⟩ = some (.bool sa) := by go_simp
  have y4 : w2.cell? ⟨w1.heap.size, 4, none⟩ = some (.bool sb) := by go_simp
  replace z2 := cell_keep (cell_keep z2 (balloc (Below.refl _ w1) _)) hb2
  replace z3 := cell_keep (cell_keep z3 (balloc (Below.refl _ w1) _)) hb2
  have hz1 := bsize hb2
  have hz2 : w.heap.size < w2.heap.size := by omega
  have BF : Hid (Below w.heap.size w (w2.alloc (.cells #[.int .u8 a, .int .u8 b] 5))) := hid (balloc B2.out _)
  have U0 : Hid (∀ (x : Int) (i : Nat), [a, b][i]? = some x → (w2.alloc (.cells #[.int .u8 a, .int .u8 b] 5)).cell? ⟨w2.heap.size, i, none⟩ = some (.int .u8 x)) := hid fun x i hi => by
    rw [cell_of_row _ _ _ _ _ _ (heap_alloc_new _ _)]
    rcases i with _ | _ | i
    · simp at hi; subst hi; rfl
    · simp at hi; subst hi; rfl
    · simp at hi
  clear hb hb2 hc1 hc2 B1 B2
  cases sa with
  | true =>
    cases sb with
    | true =>
      cases hab : (a != b) with
      | true =>
        have hl : L = [a, b] := by rw [← HL.out, hab]; rfl
        subst hl
        go_wp2
        go_ret
        exact ⟨some ⟨w2.heap.size, 0, none⟩, 2, rfl, fun _ => ⟨_, _, rfl, by omega, by simp, fun i x hi => by rw [Nat.zero_add]; exact U0.out x i hi⟩, BF.out⟩
      | false =>
        have hl : L = [a] := by rw [← HL.out, hab]; rfl
        subst hl
        go_wp2
        go_ret
        refine ⟨some ⟨w2.heap.size, 0, none⟩, 1, rfl, fun _ => ⟨_, _, rfl, by omega, by simp, fun i x hi => ?_⟩, BF.out⟩
        rw [Nat.zero_add]
        rcases i with _ | i
        · exact U0.out x 0 hi
        · simp at hi
    | false =>
      have hl : L = [a] := by rw [← HL.out]; rfl
      subst hl
      go_wp2
      go_ret
      refine ⟨some ⟨w2.heap.size, 0, none⟩, 1, rfl, fun _ => ⟨_, _, rfl, by omega, by simp, fun i x hi => ?_⟩, BF.out⟩
      rw [Nat.zero_add]
      rcases i with _ | i
      · exact U0.out x 0 hi
      · simp at hi
  | false =>
    cases sb with
    | true =>
      have hl : L = [b] := by rw [← HL.out]; rfl
      subst hl
      go_wp2
      go_ret
      refine ⟨some ⟨w2.heap.size, 1, none⟩, 1, rfl, fun _ => ⟨_, _, rfl, by omega, by simp, fun i x hi => ?_⟩, BF.out⟩
      rcases i with _ | i
      · exact U0.out x 1 hi
      · simp at hi
    | false =>
      have hl : L = [] := by rw [← HL.out]; rfl
      subst hl
      go_wp2
      go_ret
      exact ⟨none, 0, rfl, fun h => absurd rfl h, BF.out⟩
theorem rd_any (o : Op) (w : World) (hwf : o.wf) : Calls Try.prog 115 #[o.val] w (RdP (rds o) w) := by
  cases hc : chk o with
  | false => exact rd_no o w hwf hc
  | true => exact rd_yes o w hwf hc
end
/- The finder in memory. -/
section
open Go.RowKit
def edgesV (l : List Edge) : List Value := l.flatMap Edge.cells
theorem edgesV_len (l : List Edge) : (edgesV l).length = l.length * 5 := by
  induction l with
  | nil => rfl
  | cons e l ih => unfold edgesV at *; rw [List.flatMap_cons, List.length_append, ih]; show 5 + _ = _; rw [List.length_cons]; omega
theorem edgesV_app (l k : List Edge) : edgesV (l ++ k) = edgesV l ++ edgesV k := by unfold edgesV; rw [List.flatMap_append]
/-- What was read of operation i: its registers and the one that it writes. -/
structure ReadAt (w : World) (B g : Nat) (Ar Ad : Option Addr) (i : Nat) (o : Op) : Prop where
  rd : ∃ gr Ai ci, Ar = some ⟨gr, 0, none⟩ ∧ gr < B ∧ gr ≠ g ∧ w.cell? ⟨gr, i, none⟩ = some (.slice Ai (rds o).length ci) ∧ (rds o ≠ [] → ∃ gi oi, Ai = some ⟨gi, oi, none⟩ ∧ gi < B ∧ gi ≠ g ∧ ∀ k x, (rds o)[k]? = some x → w.cell? ⟨gi, oi + k, none⟩ = some (.int .u8 x))
  dd : ∃ gd, Ad = some ⟨gd, 0, none⟩ ∧ gd < B ∧ gd ≠ g ∧ w.cell? ⟨gd, i, none⟩ = some (.int .i64 (dN o))
theorem ReadAt.far {w w' : World} {B g : Nat} {Ar Ad : Option Addr} {i : Nat} {o : Op} (h : ReadAt w B g Ar Ad i o) (hk : ∀ b off, b < B → b ≠ g → w'.cell? ⟨b, off, none⟩ = w.cell? ⟨b, off, none⟩) : ReadAt w' B g Ar Ad i o := by
  obtain ⟨⟨gr, Ai, ci, h1, h2, h3, h4, h5⟩, gd, k1, k2, k3, k4⟩ := h
  refine ⟨⟨gr, Ai, ci, h1, h2, h3, (hk _ _ h2 h3).trans h4, fun hne => ?_⟩, gd, k1, k2, k3, (hk _ _ k2 k3).trans k4⟩
  obtain ⟨gi, oi, m1, m2, m3, m4⟩ := h5 hne
  exact ⟨gi, oi, m1, m2, m3, fun k x hx => (hk _ _ m2 m3).trans (m4 k x hx)⟩
/-- The finder lies in block g; all that was read lies below block B, what was found from B on. -/
structure FindAt (w0 w : World) (B g : Nat) (A : Option Addr) (cap : Nat) (l : List Op) (t : List Int) (v : Value) (out : List Edge) : Prop where
  bel : Below w0.heap.size w0 w
  g0 : w0.heap.size ≤ g
  gB : g < B
  Bw : B ≤ w.heap.size
  c0 : w.cell? ⟨g, 0, none⟩ = some (.slice A l.length cap)
  ct : ∀ k, k < 13 → w.cell? ⟨g, 1 + k, none⟩ = some (.int .i64 (t[k]?.getD 0))
  rd : ∃ Ar cr Ad cd, w.cell? ⟨g, 14, none⟩ = some (.slice Ar l.length cr) ∧ w.cell? ⟨g, 15, none⟩ = some (.slice Ad l.length cd) ∧ ∀ i o, l[i]? = some o → ReadAt w B g Ar Ad i o
  cv : w.cell? ⟨g, 16, none⟩ = some v
  fz : w.frozen? ⟨g, 16, none⟩ = false
  own : w.ownsRow B 99 5 v out.length (edgesV out)
theorem FindAt.gw {w0 w : World} {B g cap : Nat} {A : Option Addr} {l : List Op} {t : List Int} {v : Value} {out : List Edge} (h : FindAt w0 w B g A cap l t v out) : g < w.heap.size := by have := h.gB; have := h.Bw; omega
theorem FindAt.keep {w0 w w' : World} {B g cap : Nat} {A : Option Addr} {l : List Op} {t : List Int} {v : Value} {out : List Edge} (h : FindAt w0 w B g A cap l t v out) (hb : Below w.heap.size w w') : FindAt w0 w' B g A cap l t v out := by
  obtain ⟨Ar, cr, Ad, cd, h14, h15, hi⟩ := h.rd
  exact ⟨btrans h.bel hb, h.g0, h.gB, Nat.le_trans h.Bw hb.size, cell_keep h.c0 hb, fun k hk => cell_keep (h.ct k hk) hb,
    ⟨Ar, cr, Ad, cd, cell_keep h14 hb, cell_keep h15 hb, fun i o ho => (hi i o ho).far fun b off hB _ => hb.cell (p := ⟨b, off, none⟩) (Nat.lt_of_lt_of_le hB h.Bw)⟩,
    cell_keep h.cv hb, frozen_keep h.fz h.gw hb, own_below h.own hb⟩
/-- All of w but block g and v's own block is as it was, and v' does not take any of it. -/
def Spared (g : Nat) (v v' : Value) (w w' : World) : Prop :=
  w.heap.size ≤ w'.heap.size ∧ ∀ b, b < w.heap.size → b ≠ g → some b ≠ v.ownBlock → w'.heap[b]? = w.heap[b]? ∧ some b ≠ v'.ownBlock
theorem Spared.refl (g : Nat) (v : Value) (w : World) : Spared g v v w w := ⟨Nat.le_refl _, fun _ _ _ h => ⟨rfl, h⟩⟩
theorem Spared.trans {g : Nat} {v v1 v2 : Value} {w w1 w2 : World} (h : Spared g v v1 w w1) (k : Spared g v1 v2 w1 w2) : Spared g v v2 w w2 :=
  ⟨Nat.le_trans h.1 k.1, fun b hb hg hv => by
    obtain ⟨h1, h2⟩ := h.2 b hb hg hv
    obtain ⟨k1, k2⟩ := k.2 b (Nat.lt_of_lt_of_le hb h.1) hg h2
    exact ⟨k1.trans h1, k2⟩⟩
theorem Spared.below {g : Nat} {v : Value} {w w' : World} (hb : Below w.heap.size w w') : Spared g v v w w' := ⟨hb.size, fun b h _ hv => ⟨hb.block b h, hv⟩⟩
theorem Spared.ints {g : Nat} {v v' : Value} {w w' : World} (h : Spared g v v' w w') {b : Nat} {T : TypeId} {l : List Int} (hl : IntsAt w b T l) (hg : b ≠ g) (hv : some b ≠ v.ownBlock) : IntsAt w' b T l ∧ some b ≠ v'.ownBlock := by
  obtain ⟨h1, h2⟩ := h.2 b hl.lt hg hv
  exact ⟨h1.trans hl, h2⟩
theorem edge_info : ∃ i z, Try.prog.info? 99 = some i ∧ i.zero = some z ∧ i.size = 5 ∧ i.bytes = 40 ∧ z.cells.size = 5 := by
  have h : (Try.prog.info? 99).map (fun i => (i.zero.map (·.cells.size), i.size, i.bytes)) = some (some 5, 5, 40) := by kernel_rfl
  cases hi : Try.prog.info? 99 with
  | none => rw [hi] at h; cases h
  | some i =>
    rw [hi] at h
    cases hz : i.zero with
    | none => simp [hz] at h
    | some z =>
      simp [hz] at h
      exact ⟨i, z, rfl, hz, h.2.1, h.2.2, h.1⟩
/-- The finder behind a growth of what it found: the block g holds the new slice. -/
theorem FindAt.grown {w0 w w6 w7 : World} {B g cap : Nat} {A : Option Addr} {l : List Op} {t : List Int} {v v' : Value} {out out' : List Edge} (h : FindAt w0 w B g A cap l t v out) (hb : Below w.heap.size w w6)
    (hg : w6.grownBy w7 v.ownBlock) (ho : w7.ownsRow B 99 5 v' out'.length (edgesV out')) : FindAt w0 (w7.setCell ⟨g, 16, none⟩ v') B g A cap l t v' out' := by
  obtain ⟨Ar, cr, Ad, cd, h14, h15, hi⟩ := h.rd
  have hlt := h.own.lt
  have hBw := h.Bw
  have hgB := h.gB
  have hg0 := h.g0
  have hgr : some g ≠ v.ownBlock := fun e => by have := (hlt g e.symm).1; omega
  have hk : ∀ b off, b < B → w7.cell? ⟨b, off, none⟩ = w.cell? ⟨b, off, none⟩ := fun b off hB => by
    have h1 : b < w.heap.size := Nat.lt_of_lt_of_le hB hBw
    exact (hg.cell_far ⟨b, off, none⟩ (Nat.lt_of_lt_of_le h1 hb.size) (fun e => by have := (hlt b e.symm).1; omega)).trans (hb.cell (p := ⟨b, off, none⟩) h1)
  have hs : ∀ k, k ≠ 16 → (w7.setCell ⟨g, 16, none⟩ v').cell? ⟨g, k, none⟩ = w.cell? ⟨g, k, none⟩ := fun k hk16 => by
    rw [World.cell?_setCell_other _ _ _ _ (by intro e; injection e with _ e2; exact hk16 e2.symm)]
    exact hk g k hgB
  refine ⟨?_, hg0, hgB, ?_, (hs 0 (by decide)).trans h.c0, fun k hk13 => (hs (1 + k) (by omega)).trans (h.ct k hk13), ⟨Ar, cr, Ad, cd, (hs 14 (by decide)).trans h14, (hs 15 (by decide)).trans h15, fun i o ho => (hi i o ho).far fun b off hB hne => ?_⟩, ?_, ?_, ?_⟩
  · refine ((btrans h.bel hb).grown hg ?_ ?_).setCell hg0 _
    · exact Nat.le_trans h.bel.size hb.size
    · intro k hk; have := (hlt k hk).1; omega
  · rw [World.size_setCell]
    exact Nat.le_trans hBw (Nat.le_trans hb.size hg.size)
  · rw [World.cell?_setCell_far _ _ _ _ (fun e => hne e.symm)]
    exact hk b off hB
  · exact set_same ((hk g 16 hgB).trans h.cv)
  · refine set_frozen ?_
    exact (hg.frozen_far ⟨g, 16, none⟩ (Nat.lt_of_lt_of_le h.gw hb.size) hgr).trans (frozen_keep h.fz h.gw hb)
  · refine ⟨ho.1, ?_⟩
    rcases ho.2 with hn | ⟨k, cap, cur, rfl, hbg, hk, rest⟩
    · exact .inl hn
    · exact .inr ⟨k, cap, cur, rfl, hbg, by rw [heap_setCell_other _ _ _ _ (by show k ≠ g; omega)]; exact hk, rest⟩
theorem FindAt.spared {w0 w w6 w7 : World} {B g cap : Nat} {A : Option Addr} {l : List Op} {t : List Int} {v v' : Value} {out : List Edge} (h : FindAt w0 w B g A cap l t v out) (hb : Below w.heap.size w w6)
    (hg : w6.grownBy w7 v.ownBlock) (hat : v'.ownBlock = v.ownBlock ∨ ∀ k, v'.ownBlock = some k → w6.heap.size ≤ k) : Spared g v v' w (w7.setCell ⟨g, 16, none⟩ v') := by
  refine ⟨by rw [World.size_setCell]; exact Nat.le_trans hb.size hg.size, fun b h1 h2 h3 => ⟨?_, ?_⟩⟩
  · rw [heap_setCell_other _ _ _ _ h2]
    exact (hg.block b (Nat.lt_of_lt_of_le h1 hb.size) h3).trans (hb.block b h1)
  · rcases hat with e | e
    · rw [e]; exact h3
    · intro he
      have := e b he.symm
      have := hb.size
      omega
end
end Go.Proofs.Ytcibkoodnfkogaa
