/- Lists of operations as one row of cells; a block's row. (In ../a these lie in Like and Prg15.) -/
import Derived.Test.YtpiagggnjppkhaaZ1
import Derived.Test.YtpiagggnjppkhaaZ4
import Derived.Test.YtpiagggnjppkhaaZ2
import Derived.Deep.AppendLies
import Derived.Laws.AppendOwnNone
import Derived.Maps.AppendAt
import Derived.Test.YtpiagggnjppkhaaZ7
import Derived.Laws.EntriesVeiled
import Derived.Great.Ranges
namespace Go.Proofs.Ytpiagggnjppkhaa
open Go.RowKit
set_option linter.unusedVariables false
set_option linter.unusedSimpArgs false
section
open Go.RowKit
theorem flat_len (l : List Op) : (l.flatMap Op.cells).length = l.length * 5 := by
  induction l with
  | nil => rfl
  | cons x l ih => rw [List.flatMap_cons, List.length_append, ih]; simp [Op.cells]; omega
theorem flat_get (l : List Op) (i : Nat) (x : Op) (h : l[i]? = some x) (j : Nat) (hj : j < 5) : (l.flatMap Op.cells)[i * 5 + j]? = x.cells[j]? := by
  induction l generalizing i with
  | nil => simp at h
  | cons y l ih =>
    rw [List.flatMap_cons]
    cases i with
    | zero =>
      have hy : y = x := by simpa using h
      subst hy
      rw [List.getElem?_append_left (by simp [Op.cells]; omega), Nat.zero_mul, Nat.zero_add]
    | succ i =>
      rw [List.getElem?_append_right (by simp [Op.cells]; omega), show (i + 1) * 5 + j - y.cells.length = i * 5 + j by simp [Op.cells]; omega]
      exact ih i (by simpa using h)
theorem flat_of (l : List Op) (m : Nat) (u : Value) (h : (l.flatMap Op.cells)[m]? = some u) : ∃ i j x, m = i * 5 + j ∧ j < 5 ∧ l[i]? = some x ∧ x.cells[j]? = some u := by
  have hm : m < l.length * 5 := by rw [← flat_len]; exact (List.getElem?_eq_some_iff.1 h).1
  have hi : m / 5 < l.length := by omega
  have hx : l[m / 5]? = some l[m / 5] := List.getElem?_eq_getElem hi
  refine ⟨m / 5, m % 5, l[m / 5], by omega, by omega, hx, ?_⟩
  rw [← flat_get l (m / 5) _ hx (m % 5) (by omega), show m / 5 * 5 + m % 5 = m by omega]
  exact h
theorem flat_one (l : List Op) : ∀ u ∈ l.flatMap Op.cells, u.oneCell' = true := by
  intro u hu
  obtain ⟨x, _, hx⟩ := List.mem_flatMap.1 hu
  simp only [Op.cells, List.mem_cons, List.not_mem_nil, or_false] at hx
  rcases hx with rfl | rfl | rfl | rfl | rfl <;> rfl
theorem OpsIn.flat {w : World} {g off : Nat} {l : List Op} (h : OpsIn w (some ⟨g, off, none⟩) l) : ∀ j u, (l.flatMap Op.cells)[j]? = some u → w.cell? ((⟨g, off, none⟩ : Addr).add j) = some u := by
  intro m u hm
  obtain ⟨i, j, x, rfl, hj, hx, hu⟩ := flat_of l m u hm
  obtain ⟨g', off', he, hc⟩ := h (by rintro rfl; simp at hx)
  injection he with he
  injection he with h1 h2
  subst h1 h2
  obtain ⟨c0, c1, c2, c3, c4⟩ := hc i x hx
  have ha : (⟨g, off, none⟩ : Addr).add (i * 5 + j) = ⟨g, off + i * 5 + j, none⟩ := by
    unfold Addr.add
    split
    · next h0 => rw [show off + i * 5 + j = off by omega]
    · rw [Nat.add_assoc]
  rw [ha]
  obtain rfl | rfl | rfl | rfl | rfl : j = 0 ∨ j = 1 ∨ j = 2 ∨ j = 3 ∨ j = 4 := by omega
  all_goals
    simp only [Op.cells, List.getElem?_cons_zero, List.getElem?_cons_succ] at hu
    injection hu with hu
    subst hu
    assumption
theorem own_ops {w : World} {base e g n cap : Nat} {l : List Op} (h : w.ownsRow base e 5 (.slice (some ⟨g, 0, none⟩) n cap) n (l.flatMap Op.cells)) (hn : n = l.length) : OpsIn w (some ⟨g, 0, none⟩) l := fun _ => by
  subst hn
  refine ⟨_, _, rfl, fun i x hx => ?_⟩
  have hi : i < l.length := (List.getElem?_eq_some_iff.1 hx).1
  have hc : ∀ j, j < 5 → w.cell? ⟨g, 0 + i * 5 + j, none⟩ = x.cells[j]? := fun j hj => by
    rw [Nat.zero_add, h.cellAt _ (by omega)]
    exact flat_get l i x hx j hj
  exact ⟨hc 0 (by omega), hc 1 (by omega), hc 2 (by omega), hc 3 (by omega), hc 4 (by omega)⟩
theorem op_info : ∃ i z, Try.prog.info? 53 = some i ∧ i.zero = some z ∧ i.size = 5 ∧ i.bytes = 16 ∧ z.cells.size = 5 := by
  have h : (Try.prog.info? 53).map (fun i => (i.zero.map (·.cells.size), i.size, i.bytes)) = some (some 5, 5, 16) := by kernel_rfl
  cases hi : Try.prog.info? 53 with
  | none => rw [hi] at h; cases h
  | some i =>
    rw [hi] at h
    cases hz : i.zero with
    | none => simp [hz] at h
    | some z =>
      simp [hz] at h
      exact ⟨i, z, rfl, hz, h.2.1, h.2.2, h.1⟩
/-- Six cells are a block's, with lists of their own in memory from block B on, none of them at r. -/
def RowOf (w : World) (B : Nat) (r : Option Nat) (b : Blk) (cs : List Value) : Prop :=
  ∃ (g c g2 c2 : Nat), cs = [.slice (some ⟨g, 0, none⟩) b.ops.length c, .int .i8 b.en, .int .u8 b.a, .slice (some ⟨g2, 0, none⟩) b.body.length c2, .int .i64 b.th, .int .i64 b.el] ∧
    OpsIn w (some ⟨g, 0, none⟩) b.ops ∧ OpsIn w (some ⟨g2, 0, none⟩) b.body ∧ b.ops.length ≤ c ∧ b.body.length ≤ c2 ∧ B ≤ g ∧ B ≤ g2 ∧ g < w.heap.size ∧ g2 < w.heap.size ∧ some g ≠ r ∧ some g2 ≠ r
theorem RowOf.far {w w' : World} {B : Nat} {r r' : Option Nat} {b : Blk} {cs : List Value} (h : RowOf w B r b cs) (hs : w.heap.size ≤ w'.heap.size)
    (hk : ∀ g off, B ≤ g → g < w.heap.size → some g ≠ r → w'.cell? ⟨g, off, none⟩ = w.cell? ⟨g, off, none⟩) (hr : ∀ g, g < w.heap.size → some g ≠ r → some g ≠ r') : RowOf w' B r' b cs := by
  obtain ⟨g, c, g2, c2, e, o1, o2, l1, l2, b1, b2, s1, s2, r1, r2⟩ := h
  exact ⟨g, c, g2, c2, e, o1.far fun off => hk g off b1 s1 r1, o2.far fun off => hk g2 off b2 s2 r2, l1, l2, b1, b2, by omega, by omega, hr g s1 r1, hr g2 s2 r2⟩
theorem RowOf.below {w w' : World} {B : Nat} {r : Option Nat} {b : Blk} {cs : List Value} (h : RowOf w B r b cs) (hb : Below w.heap.size w w') : RowOf w' B r b cs :=
  h.far hb.size (fun _ off _ hg _ => hb.cell (p := ⟨_, off, none⟩) hg) (fun _ _ h => h)
/-- The cells xs are the blocks l, six cells each. -/
def Rows6 (w : World) (B : Nat) (r : Option Nat) (l : List Blk) (xs : List Value) : Prop := ∀ j b, l[j]? = some b → RowOf w B r b ((xs.drop (j * 6)).take 6)
theorem Rows6.far {w w' : World} {B : Nat} {r r' : Option Nat} {l : List Blk} {xs : List Value} (h : Rows6 w B r l xs) (hs : w.heap.size ≤ w'.heap.size)
    (hk : ∀ g off, B ≤ g → g < w.heap.size → some g ≠ r → w'.cell? ⟨g, off, none⟩ = w.cell? ⟨g, off, none⟩) (hr : ∀ g, g < w.heap.size → some g ≠ r → some g ≠ r') : Rows6 w' B r' l xs := fun j b hj => (h j b hj).far hs hk hr
theorem Rows6.below {w w' : World} {B : Nat} {r : Option Nat} {l : List Blk} {xs : List Value} (h : Rows6 w B r l xs) (hb : Below w.heap.size w w') : Rows6 w' B r l xs := fun j b hj => (h j b hj).below hb
theorem Rows6.snoc {w : World} {B : Nat} {r : Option Nat} {l : List Blk} {xs cs : List Value} {i : Nat} (hi : i < l.length) (h : Rows6 w B r (l.take i) xs) (hl : xs.length = i * 6) (hc : RowOf w B r l[i] cs) : Rows6 w B r (l.take (i + 1)) (xs ++ cs) := fun j b hj => by
  have h6 : cs.length = 6 := by obtain ⟨g, c, g2, c2, rfl, _⟩ := hc; rfl
  have hj1 : j < i + 1 := by have := (List.getElem?_eq_some_iff.1 hj).1; simp at this; omega
  by_cases h1 : j < i
  · have := h j b (by rw [List.getElem?_take] at hj ⊢; simp only [hj1, if_true] at hj; simp only [h1, if_true]; exact hj)
    rw [List.drop_append_of_le_length (by omega), List.take_append_of_le_length (by simp; omega)]
    exact this
  · obtain rfl : j = i := by omega
    have hb : l[j] = b := by simpa [hi] using hj
    subst hb
    have h0 : xs.length - j * 6 = 0 := by omega
    rw [List.drop_append, List.drop_of_length_le (by omega), hl, Nat.sub_self, List.drop_zero, List.nil_append, List.take_of_length_le (by omega)]
    exact hc
theorem blk_info : ∃ i z, Try.prog.info? 50 = some i ∧ i.zero = some z ∧ i.size = 6 ∧ i.bytes = 72 ∧ z.cells.size = 6 := by
  have h : (Try.prog.info? 50).map (fun i => (i.zero.map (·.cells.size), i.size, i.bytes)) = some (some 6, 6, 72) := by kernel_rfl
  cases hi : Try.prog.info? 50 with
  | none => rw [hi] at h; cases h
  | some i =>
    rw [hi] at h
    cases hz : i.zero with
    | none => simp [hz] at h
    | some z =>
      simp [hz] at h
      exact ⟨i, z, rfl, hz, h.2.1, h.2.2, h.1⟩
end
/- A list of operations is appended to an empty row of the call's own. -/
section
open Go.RowKit
theorem own_none {w : World} {base k sz : Nat} {T : TypeId} (h : w.heap[k]? = some (.cells #[] T (0, 0))) (hb : base ≤ k) : w.ownsRow base T sz (.slice (some ⟨k, 0, none⟩) 0 0) 0 [] :=
  ⟨by simp, .inr ⟨k, 0, #[], rfl, hb, h, Nat.le_refl _, Nat.zero_le _, by simp, by simp⟩⟩
set_option maxHeartbeats 4000000 in
set_option maxRecDepth 100000 in
theorem wpList_app_ops {ops : Array Oper} {rest : List Oper} {o : Oper} {a : Act} {w : World} {Q : Exit → Act → World → Prop} (hgd : o.guard = none) (s x : Operand)
    (ho : o.op = .call { callee := .builtin .append, args := #[s, x], argTypes := #[47, 47] }) (base k : Nat) (l : List Op) (A : Option Addr) (c : Nat)
    (hs : a.eval s = .slice (some ⟨k, 0, none⟩) 0 0) (hx : a.eval x = .slice A l.length c) (hA : OpsIn w A l) (hn : A = none → c = 0) (he : w.heap[k]? = some (.cells #[] 53 (0, 0))) (hk : base ≤ k) (hw : base ≤ w.heap.size) (hm : l.length ≤ 8000000000000)
    (h : ∀ g c' w', OpsIn w' (some ⟨g, 0, none⟩) l → l.length ≤ c' → base ≤ g → g < w'.heap.size → Below base w w' → (∀ b, b < w.heap.size → b ≠ k → w'.heap[b]? = w.heap[b]?) → (g = k ∨ g = w.heap.size) →
      wpList Try.prog ops Q rest (a.put o.dst (.slice (some ⟨g, 0, none⟩) l.length c')) w') : wpList Try.prog ops Q (o :: rest) a w := by
  obtain ⟨ii, z, hi, hz, h5, h16, hz5⟩ := op_info
  cases A with
  | none =>
    obtain rfl : c = 0 := hn rfl
    have hl0 : l = [] := by
      cases l with
      | nil => rfl
      | cons x l => obtain ⟨g, off, he, _⟩ := hA (by simp); cases he
    subst hl0
    refine wpList_append_own_none hgd s x 47 ho base 53 ii 5 Try.underlying47 hi (.slice (some ⟨k, 0, none⟩) 0 0) 0 [] hs (own_none he hk) hx ?_
    exact h k 0 w (fun hne => absurd rfl hne) (Nat.le_refl _) hk (Array.getElem?_eq_some_iff.1 he).1 (Below.refl _ _) (fun _ _ _ => rfl) (.inl rfl)
  | some ad =>
    refine wpList_plain hgd fun K hK => ?_
    have hnews : ∀ j u, (l.flatMap Op.cells)[j]? = some u → w.cell? (ad.add j) = some u := by
      intro j u hu
      by_cases hne : l = []
      · subst hne; simp at hu
      · obtain ⟨g, off, he, hx⟩ := hA hne
        injection he with he
        subst he
        exact OpsIn.flat hA j u hu
    obtain ⟨v', w', hr, h2, h3, h4, hat⟩ := run_append_own_at (P := Try.prog) w base 47 o.type 53 ii z 5 16 Try.underlying47 hi hz h5 h16 hz5 (by omega) (.slice (some ⟨k, 0, none⟩) 0 0) 0 [] (own_none he hk) ad l.length c (l.flatMap Op.cells) (flat_len l) hnews (flat_one l) (by unfold maxLen; omega) (by omega) hw
    have hform : ∃ g c', v' = .slice (some ⟨g, 0, none⟩) l.length c' ∧ l.length ≤ c' := by
      rcases h2.2 with ⟨hv, _⟩ | ⟨g, cap, cur, hv, _, _, hnc, _⟩
      · have := (h4.1 hv).1
        cases this
      · rw [Nat.zero_add] at hv hnc
        exact ⟨g, cap, hv, hnc⟩
    obtain ⟨g, c', rfl, hlc⟩ := hform
    rw [Nat.zero_add, List.nil_append] at h2
    have hne : ∀ b : Nat, b ≠ k → some b ≠ Value.ownBlock (.slice (some ⟨k, 0, none⟩) 0 0) := fun b hb e => by
      injection e with e
      exact hb e
    have hh := h g c' w' (own_ops h2 rfl) hlc (h2.lt g rfl).1 (h2.lt g rfl).2 ⟨h3.os, h3.tape, h3.output, h3.size, fun b hb => h3.block b (by omega) (hne b (by omega))⟩ (fun b hb hbk => h3.block b hb (hne b hbk)) (by
      rcases hat with e | e
      · exact .inl (by injection e)
      · exact .inr (by injection e))
    unfold Oper.wp execOp
    simp only [ho, resolve, invoke, builtin, Sem.run_bind, Sem.run_pure, Result.andThen_ok, List.map_toArray, List.map_cons, List.map_nil, hs, hx, hr]
    exact hK _ _ hh
end
/- How each kind is done: the row of function values. -/
section
open Go.RowKit
def doI (i k : Nat) : Value := if 2 ≤ k ∧ k < i then .func (.func 65) #[] #[] else .nilFunc
set_option maxHeartbeats 4000000 in
set_option maxRecDepth 100000 in
theorem doers_any (w : World) : Calls Try.prog 43 #[] w fun e w' => e = .returned (.agg ((List.range 24).map doV).toArray) ∧ Below w.heap.size w w' := by
  have h0 : ((List.range 24).map (doI 2)).toArray = #[.nilFunc, .nilFunc, .nilFunc, .nilFunc, .nilFunc, .nilFunc, .nilFunc, .nilFunc, .nilFunc, .nilFunc, .nilFunc, .nilFunc, .nilFunc, .nilFunc, .nilFunc, .nilFunc, .nilFunc, .nilFunc, .nilFunc, .nilFunc, .nilFunc, .nilFunc, .nilFunc, .nilFunc] := rfl
  obtain ⟨CS, hCS⟩ : ∃ CS, CS = ((List.range 24).map doV).toArray := ⟨_, rfl⟩
  rw [← hCS]
  replace hCS := hid hCS
  go_enter Try.func43, Try.ntmps43
  go_wp2
  go_loopg [2] 13 (fun g v wr => ∃ i : Nat, 2 ≤ i ∧ i ≤ 15 ∧ v = .int .i8 i ∧ Hid (g + i = 15) ∧ Hid (FnAt wr (w.heap.size + 1) 99 24 (doI i)) ∧ Hid (FnAt wr w.heap.size 99 24 (doI 2)) ∧ Below w.heap.size w wr)
  case atStart =>
    refine ⟨2, by omega, by omega, rfl, by show _ + _ = _; rfl, hid ?_, hid ?_, ?_⟩
    · unfold FnAt
      rw [h0]
      exact heap_new_at _ _ _ (by simp)
    · unfold FnAt
      rw [h0]
      exact ((balloc (Below.refl _ _) _).block _ (by simp)).trans (heap_new_at _ _ _ rfl)
    · ((with_reducible (repeat (first | assumption | exact Below.refl _ _ | refine bset ?_ (Nat.le_refl _) _ | refine balloc ?_ _ | refine bdrew ?_ | refine bdrewN ?_ _))); done)
  case round =>
    obtain ⟨i, hi2, hi, rfl, hg, FL, FR, hb0⟩ := hrel
    have hB := hid hb0
    clear hb0
    by_cases hlt : i < 15
    · have hi14 : (i : Int) ≤ 14 := by omega
      have hi0 : (0 : Int) ≤ (i : Int) := by omega
      have hi24 : (i : Int) < 24 := by omega
      have c0 : wr.cell? ⟨w.heap.size + 1, i, none⟩ = some (doI i i) := FL.out.cell i (by omega)
      have f0 := FL.out.frozen i
      have hle := FL.out.lt
      go_wp2
      go_roundg (15 - (i + 1))
      case measure => have := hg.out; omega
      case rel =>
        refine ⟨i + 1, by omega, by omega, by go_num, by show _ + _ = _; omega, hid ((FL.out.set i _).congr fun k hk => ?_), hid (FR.out.other (by simp) _), bset hB.out (by show w.heap.size ≤ w.heap.size + 1; omega) _⟩
        unfold doI
        by_cases h : k = i
        · subst h
          rw [if_pos rfl, if_pos (by omega)]
        · rw [if_neg h]
          by_cases h2 : 2 ≤ k ∧ k < i
          · rw [if_pos h2, if_pos (by omega)]
          · rw [if_neg h2, if_neg (by omega)]
    · obtain rfl : i = 15 := by omega
      have h15 : FnAt wr (w.heap.size + 1) 99 24 (doI 15) := FL.out
      have c1 : wr.cell? ⟨w.heap.size + 1, 1, none⟩ = some .nilFunc := FL.out.cell 1 (by decide)
      have c15 : wr.cell? ⟨w.heap.size + 1, 15, none⟩ = some .nilFunc := FL.out.cell 15 (by decide)
      have c16 : wr.cell? ⟨w.heap.size + 1, 16, none⟩ = some .nilFunc := FL.out.cell 16 (by decide)
      have c17 : wr.cell? ⟨w.heap.size + 1, 17, none⟩ = some .nilFunc := FL.out.cell 17 (by decide)
      have fl := FL.out.frozen
      have hle := FL.out.lt
      go_upto_region 10 with (fail)
      have FL2 := hid ((((((FL.out.set 1 (.func (.func 66) #[] #[])).set 15 (.func (.func 67) #[] #[])).set 16 (.func (.func 69) #[] #[])).set 17 (.func (.func 70) #[] #[])).congr (f' := doV) fun k hk => by
        unfold doV doI
        by_cases h17 : k = 17
        · subst h17; rfl
        by_cases h16 : k = 16
        · subst h16; rfl
        by_cases h15 : k = 15
        · subst h15; rfl
        by_cases h1 : k = 1
        · subst h1; rfl
        simp only [h17, h16, h15, h1, if_false]
        by_cases h2 : 2 ≤ k ∧ k < 15
        · rw [if_pos h2, if_pos (by omega)]
        · rw [if_neg h2, if_neg (by omega)]))
      have FR2 := hid ((((FR.out.other (a := ⟨w.heap.size + 1, 1, none⟩) (by show w.heap.size ≠ w.heap.size + 1; omega) (.func (.func 66) #[] #[])).other (a := ⟨w.heap.size + 1, 15, none⟩) (by show w.heap.size ≠ w.heap.size + 1; omega) (.func (.func 67) #[] #[])).other (a := ⟨w.heap.size + 1, 16, none⟩) (by show w.heap.size ≠ w.heap.size + 1; omega) (.func (.func 69) #[] #[])).other (a := ⟨w.heap.size + 1, 17, none⟩) (by show w.heap.size ≠ w.heap.size + 1; omega) (.func (.func 70) #[] #[]))
      have B2 := hid (bset (bset (bset (bset hB.out (p := ⟨w.heap.size + 1, 1, none⟩) (by show w.heap.size ≤ w.heap.size + 1; omega) (.func (.func 66) #[] #[])) (p := ⟨w.heap.size + 1, 15, none⟩) (by show w.heap.size ≤ w.heap.size + 1; omega) (.func (.func 67) #[] #[])) (p := ⟨w.heap.size + 1, 16, none⟩) (by show w.heap.size ≤ w.heap.size + 1; omega) (.func (.func 69) #[] #[])) (p := ⟨w.heap.size + 1, 17, none⟩) (by show w.heap.size ≤ w.heap.size + 1; omega) (.func (.func 70) #[] #[]))
      generalize World.setCell _ ⟨w.heap.size + 1, 17, none⟩ _ = wz at FL2 FR2 B2 ⊢
      have hl1 : CS.size = 24 := by rw [hCS.out]; simp
      have hone : CS.all (·.oneCell') = true := by rw [hCS.out]; kernel_rfl
      unfold FnAt at FL2 FR2
      rw [← hCS.out] at FL2
      clear FL FR h15 c1 c15 c16 c17 fl hB
      go_wp2_with (first | (with_reducible refine wpList_load_row rfl 99 _ rfl (w.heap.size + 1) ?lx 99 CS (0, 0) _ FL2.out Try.underlying99 ?ld ?li ?_) | (with_reducible refine wpList_store_rowTo rfl 99 _ _ rfl rfl w.heap.size CS ?sx ?sy 99 _ FR2.out ?si ?shold hone ?_))
      case lx => rfl
      case li => rw [hl1]; kernel_rfl
      case si => rw [hl1]; kernel_rfl
      case shold => rw [hl1]; simp
      all_goals first
        | rfl
        | skip
      refine bodyPost_ret (v := .agg CS) (results_cell_row rfl _ _ w.heap.size 99 CS (0, 0) _ rfl (setRow_heap _ _ _ _ _ _ FR2.out) Try.underlying99 rfl (by rw [hl1]; kernel_rfl)) rfl ⟨rfl, below_setRow B2.out (Nat.le_refl _) _⟩
end
/- A new machine: refused. -/
section
open Go.RowKit
set_option maxHeartbeats 4000000 in
set_option maxRecDepth 100000 in
theorem new_no (A : Option Addr) (l : List Blk) (cap : Nat) (A1 A2 : Option Addr) (r mm : List Int) (c1 c2 : Nat) (w : World) (hl : BlksIn w A l) (hw : ∀ b ∈ l, b.wf) (hm : l.length ≤ 9223372036854775807) (hr : r.length ≤ 17592186043904) (hmm : mm.length ≤ 17592186043904) (he : newE l r mm ≠ 0) :
    Calls Try.prog 12 #[.agg #[.slice A l.length cap], .agg #[.slice A1 r.length c1, .slice A2 mm.length c2]] w fun e w' => e = .returned (.tuple #[.pointer none, .int .i64 (newE l r mm)]) ∧ Below w.heap.size w w' := by
  have C1 := hid (fun (w' : World) (h : BlksIn w' A l) => prg_check_any A l cap w' h hw hm)
  have HL := hid hl
  clear hl hw hm
  by_cases hp : prgE l = 0
  · have e1 : newE l r mm = 2 := by
      unfold newE at he ⊢
      rw [if_pos hp] at he ⊢
      by_cases h : 32 < r.length ∨ 256 < mm.length
      · rw [if_pos h]
      · rw [if_neg h] at he; exact absurd rfl he
    have h2 : 32 < r.length ∨ 256 < mm.length := by
      unfold newE at he
      rw [if_pos hp] at he
      by_cases h : 32 < r.length ∨ 256 < mm.length
      · exact h
      · rw [if_neg h] at he; exact absurd rfl he
    rw [e1]
    rw [hp] at C1
    clear he e1 hp
    by_cases h3 : 32 < r.length
    · have h4 : (32 : Int) < (r.length : Int) := by omega
      clear h2 h3
      go_enter Try.func12, Try.ntmps12
      go_wp2_with fail
      with_reducible refine (C1.out _ (HL.out.keep ?_)).mono ?_
      · ((with_reducible (repeat (first | assumption | exact Below.refl _ _ | refine bset ?_ (Nat.le_refl _) _ | refine balloc ?_ _ | refine bdrew ?_ | refine bdrewN ?_ _))); done)
      rintro e w1 ⟨rfl, hb⟩
      have B1 := hid (btrans (a := w) (by ((with_reducible (repeat (first | assumption | exact Below.refl _ _ | refine bset ?_ (Nat.le_refl _) _ | refine balloc ?_ _ | refine bdrew ?_ | refine bdrewN ?_ _))); done)) hb)
      have z0 : w1.cell? ⟨w.heap.size + 1, 0, none⟩ = some (.slice A1 r.length c1) := cell_keep (by go_simp) hb
      have hz : w.heap.size + 1 < w1.heap.size := by have := hb.size; simp at this; omega
      clear hb
      go_wp2
      go_ret2
      exact ⟨rfl, B1.out⟩
    · have h4 : ¬ (32 : Int) < (r.length : Int) := by omega
      have h5 : (256 : Int) < (mm.length : Int) := by omega
      clear h2 h3
      go_enter Try.func12, Try.ntmps12
      go_wp2_with fail
      with_reducible refine (C1.out _ (HL.out.keep ?_)).mono ?_
      · ((with_reducible (repeat (first | assumption | exact Below.refl _ _ | refine bset ?_ (Nat.le_refl _) _ | refine balloc ?_ _ | refine bdrew ?_ | refine bdrewN ?_ _))); done)
      rintro e w1 ⟨rfl, hb⟩
      have B1 := hid (btrans (a := w) (by ((with_reducible (repeat (first | assumption | exact Below.refl _ _ | refine bset ?_ (Nat.le_refl _) _ | refine balloc ?_ _ | refine bdrew ?_ | refine bdrewN ?_ _))); done)) hb)
      have z0 : w1.cell? ⟨w.heap.size + 1, 0, none⟩ = some (.slice A1 r.length c1) := cell_keep (by go_simp) hb
      have z1 : w1.cell? ⟨w.heap.size + 1, 1, none⟩ = some (.slice A2 mm.length c2) := cell_keep (by go_simp) hb
      have hz : w.heap.size + 1 < w1.heap.size := by have := hb.size; simp at this; omega
      clear hb
      go_wp2
      go_ret2
      exact ⟨rfl, B1.out⟩
  · have e1 : newE l r mm = prgE l := by unfold newE; rw [if_neg hp]
    rw [e1]
    have hpb : (prgE l == 0) = false := by simpa using hp
    have hpc : (prgE l != 0) = true := by simpa using hp
    clear he e1 hp
    generalize prgE l = pe at *
    go_enter Try.func12, Try.ntmps12
    go_wp2_with fail
    with_reducible refine (C1.out _ (HL.out.keep ?_)).mono ?_
    · ((with_reducible (repeat (first | assumption | exact Below.refl _ _ | refine bset ?_ (Nat.le_refl _) _ | refine balloc ?_ _ | refine bdrew ?_ | refine bdrewN ?_ _))); done)
    rintro e w1 ⟨rfl, hb⟩
    have B1 := hid (btrans (a := w) (by ((with_reducible (repeat (first | assumption | exact Below.refl _ _ | refine bset ?_ (Nat.le_refl _) _ | refine balloc ?_ _ | refine bdrew ?_ | refine bdrewN ?_ _))); done)) hb)
    clear hb
    go_wp2
    go_ret2
    exact ⟨rfl, B1.out⟩
/-- The cells of a new machine, before its program and its state are copied. -/
def zeroMc : Mc := ⟨List.replicate 32 0, List.replicate 256 0, 0, false, 0, 0, 0, [], false, 0, 0⟩
theorem new_cells : Try.prog.built 106 [(10, .agg ((List.range 24).map doV).toArray)] = some ((List.range 322).map (mcell (.slice none 0 0) (.slice none 0 0) zeroMc doX)).toArray := by kernel_rfl
end
end Go.Proofs.Ytpiagggnjppkhaa
