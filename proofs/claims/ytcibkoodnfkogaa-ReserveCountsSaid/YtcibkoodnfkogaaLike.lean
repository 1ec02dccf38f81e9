/- The contracts of hayloftlaw04.LikeOps and CopiedOps. -/
import Derived.Test.YtcibkoodnfkogaaBase2
import Derived.Laws.OwnMore
import Derived.Laws.MakeOwn
import Derived.Laws.AppendOwnNone
import Derived.Deep.DeepAppendRoom
import Derived.OwnWalk
namespace Go.Proofs.Ytcibkoodnfkogaa
open Go.RowKit
set_option linter.unusedVariables false
set_option linter.unusedSimpArgs false
theorem drewN_more (w : World) (n m : Nat) : ∃ k, (w.drewN n).drewN m = w.drewN k := ⟨_, World.drewN_drewN _ _ _⟩
set_option maxHeartbeats 4000000 in
set_option maxRecDepth 100000 in
theorem like_any (A A2 : Option Addr) (l : List Op) (cap cap2 : Nat) (w : World) (hl : OpsIn w A l) (hl2 : OpsIn w A2 l) (hm : l.length ≤ 1000000000000000000) :
    Calls Try.prog 31 #[.slice A l.length cap, .slice A2 l.length cap2] w fun e w' => e = .returned (.bool true) ∧ ∃ n, w' = w.drewN n := by
  have HL := hid hl
  have HL2 := hid hl2
  clear hl hl2
  go_enter Try.func31, Try.ntmps31
  go_wp2
  go_loopg [5] l.length (fun g v wr => ∃ i : Nat, i ≤ l.length ∧ v = .int .i64 i ∧ Hid (g + i = l.length) ∧ ∃ n, wr = w.drewN n)
  case atStart => exact ⟨0, by omega, rfl, by exact Nat.add_zero _, 0, rfl⟩
  case round =>
    obtain ⟨i, hi, rfl, hg, n, rfl⟩ := hrel
    by_cases hlt : i < l.length
    · obtain ⟨g, off, rfl, hop⟩ := HL.out.get i hlt
      obtain ⟨g2, off2, rfl, hop2⟩ := HL2.out.get i hlt
      obtain ⟨c0, c1, c2, c3, c4⟩ := hop
      obtain ⟨d0, d1, d2, d3, d4⟩ := hop2
      have hij : (i : Int) < (l.length : Int) := by omega
      have hi0 : (0 : Int) ≤ (i : Int) := by omega
      go_wp2
      go_quiet (fail)
      go_wp2
      go_roundg (l.length - (i + 1))
      case measure => have := hg.out; omega
      case rel => exact ⟨i + 1, by omega, by go_num, by show _ + _ = _; omega, _, rfl⟩
    · obtain rfl : i = l.length := by omega
      go_wp2
      go_ret
      exact ⟨rfl, n, rfl⟩
theorem flat_len (l : List Op) : (l.flatMap Op.cells).length = l.length * 5 := by
  induction l with
  | nil => rfl
  | cons x l ih => rw [List.flatMap_cons, List.length_append, ih]; simp [Op.cells]; omega
theorem flat_get (l : List Op) (i : Nat) (x : Op) (h : l[i]? = some x) (j : Nat) (hj : j < 5) : (l.flatMap Op.cells)[i * 5 + j]? = x.cells[j]? := by
  induction l generalizing i with
  | nil => simp at h
  | cons y l ih =>
    rw [List.flatMap_cons]
    cases i with
    | zero =>
      have hy : y = x := by simpa using h
      subst hy
      rw [List.getElem?_append_left (by simp [Op.cells]; omega), Nat.zero_mul, Nat.zero_add]
    | succ i =>
      rw [List.getElem?_append_right (by simp [Op.cells]; omega), show (i + 1) * 5 + j - y.cells.length = i * 5 + j by simp [Op.cells]; omega]
      exact ih i (by simpa using h)
theorem flat_of (l : List Op) (m : Nat) (u : Value) (h : (l.flatMap Op.cells)[m]? = some u) : ∃ i j x, m = i * 5 + j ∧ j < 5 ∧ l[i]? = some x ∧ x.cells[j]? = some u := by
  have hm : m < l.length * 5 := by rw [← flat_len]; exact (List.getElem?_eq_some_iff.1 h).1
  have hi : m / 5 < l.length := by omega
  have hx : l[m / 5]? = some l[m / 5] := List.getElem?_eq_getElem hi
  refine ⟨m / 5, m % 5, l[m / 5], by omega, by omega, hx, ?_⟩
  rw [← flat_get l (m / 5) _ hx (m % 5) (by omega), show m / 5 * 5 + m % 5 = m by omega]
  exact h
theorem flat_one (l : List Op) : ∀ u ∈ l.flatMap Op.cells, u.oneCell' = true := by
  intro u hu
  obtain ⟨x, _, hx⟩ := List.mem_flatMap.1 hu
  simp only [Op.cells, List.mem_cons, List.not_mem_nil, or_false] at hx
  rcases hx with rfl | rfl | rfl | rfl | rfl <;> rfl
theorem OpsIn.flat {w : World} {g off : Nat} {l : List Op} (h : OpsIn w (some ⟨g, off, none⟩) l) : ∀ j u, (l.flatMap Op.cells)[j]? = some u → w.cell? ((⟨g, off, none⟩ : Addr).add j) = some u := by
  intro m u hm
  obtain ⟨i, j, x, rfl, hj, hx, hu⟩ := flat_of l m u hm
  obtain ⟨g', off', he, hc⟩ := h (by rintro rfl; simp at hx)
  injection he with he
  injection he with h1 h2
  subst h1 h2
  obtain ⟨c0, c1, c2, c3, c4⟩ := hc i x hx
  have ha : (⟨g, off, none⟩ : Addr).add (i * 5 + j) = ⟨g, off + i * 5 + j, none⟩ := by
    unfold Addr.add
    split
    · next h0 => rw [show off + i * 5 + j = off by omega]
    · rw [Nat.add_assoc]
  rw [ha]
  obtain rfl | rfl | rfl | rfl | rfl : j = 0 ∨ j = 1 ∨ j = 2 ∨ j = 3 ∨ j = 4 := by omega
  all_goals
    simp only [Op.cells, List.getElem?_cons_zero, List.getElem?_cons_succ] at hu
    injection hu with hu
    subst hu
    assumption
theorem own_ops {w : World} {base e g n cap : Nat} {l : List Op} (h : w.ownsRow base e 5 (.slice (some ⟨g, 0, none⟩) n cap) n (l.flatMap Op.cells)) (hn : n = l.length) : OpsIn w (some ⟨g, 0, none⟩) l := fun _ => by
  subst hn
  refine ⟨_, _, rfl, fun i x hx => ?_⟩
  have hi : i < l.length := (List.getElem?_eq_some_iff.1 hx).1
  have hc : ∀ j, j < 5 → w.cell? ⟨g, 0 + i * 5 + j, none⟩ = x.cells[j]? := fun j hj => by
    rw [Nat.zero_add, h.cellAt _ (by omega)]
    exact flat_get l i x hx j hj
  exact ⟨hc 0 (by omega), hc 1 (by omega), hc 2 (by omega), hc 3 (by omega), hc 4 (by omega)⟩
theorem op_info : ∃ i z, Try.prog.info? 55 = some i ∧ i.zero = some z ∧ i.size = 5 ∧ i.bytes = 16 ∧ z.cells.size = 5 := by
  have h : (Try.prog.info? 55).map (fun i => (i.zero.map (·.cells.size), i.size, i.bytes)) = some (some 5, 5, 16) := by kernel_rfl
  cases hi : Try.prog.info? 55 with
  | none => rw [hi] at h; cases h
  | some i =>
    rw [hi] at h
    cases hz : i.zero with
    | none => simp [hz] at h
    | some z =>
      simp [hz] at h
      exact ⟨i, z, rfl, hz, h.2.1, h.2.2, h.1⟩
set_option maxHeartbeats 4000000 in
set_option maxRecDepth 100000 in
theorem copied_any (A : Option Addr) (l : List Op) (cap : Nat) (w : World) (hl : OpsIn w A l) (hA : A = none → cap = 0) (hm : l.length ≤ 8800000000000) :
    Calls Try.prog 26 #[.slice A l.length cap] w fun e w' => ∃ g c, e = .returned (.slice (some ⟨g, 0, none⟩) l.length c) ∧ l.length ≤ c ∧ OpsIn w' (some ⟨g, 0, none⟩) l ∧ w.heap.size ≤ g ∧ g < w'.heap.size ∧ Below w.heap.size w w' := by
  obtain ⟨i, z, hi, hz, h5, h16, hz5⟩ := op_info
  have hmk := run_make (P := Try.prog) w 38 55 i z Try.underlying38 hi hz .i64 .i64 0 ((l.length : Int) + 1) (by omega) (by omega) (by rw [h16]; omega) (by omega)
  rw [h5, show ((l.length : Int) + 1).toNat = l.length + 1 by omega, Int.toNat_zero] at hmk
  have hown := World.ownsRow_made (base := w.heap.size) (e := 55) (size := 5) w (madeCells z.cells ((l.length + 1) * 5)) (l.length + 1) (Nat.le_refl _) (by unfold maxLen; omega) (size_madeCells _ _)
  generalize madeCells z.cells ((l.length + 1) * 5) = mc at hmk hown
  have HO := hid hown
  have HL := hid hl
  have HI := hid hi
  have HU := hid (Try.underlying38)
  clear hown hl hi hz hz5 h16
  cases A with
  | none =>
    obtain rfl : cap = 0 := hA rfl
    have hl0 : l = [] := by
      cases l with
      | nil => rfl
      | cons x l => obtain ⟨g, off, he, _⟩ := HL.out (by simp); cases he
    subst hl0
    clear hA
    simp only [List.length_nil, Nat.zero_add] at hmk
    have hmk' : (Instr.makeSlice 38 (.int .i64 0) (.int .i64 1)).run Try.prog w = .ok (.slice (some ⟨w.heap.size, 0, none⟩) 0 1) (w.alloc (.cells mc 55)) := hmk
    clear hmk
    go_enter Try.func26, Try.ntmps26
    go_wp2_with (at_builtin; refine wpList_append_own_none rfl _ _ 38 rfl w.heap.size 55 i 5 HU.out HI.out _ 0 [] rfl HO.out rfl ?_)
    go_ret
    refine ⟨w.heap.size, 1, rfl, Nat.zero_le _, fun h => absurd rfl h, Nat.le_refl _, by simp, ?_⟩
    ((with_reducible (repeat (first | assumption | exact Below.refl _ _ | refine bset ?_ (Nat.le_refl _) _ | refine balloc ?_ _ | refine bdrew ?_ | refine bdrewN ?_ _))); done)
  | some ad =>
    have hfl : ∀ j u, (l.flatMap Op.cells)[j]? = some u → w.cell? (ad.add j) = some u := by
      intro j u hu
      by_cases hne : l = []
      · subst hne; simp at hu
      · obtain ⟨g, off, he, hx⟩ := HL.out hne
        injection he with he
        subst he
        exact OpsIn.flat HL.out j u hu
    have HF := hid hfl
    have HN := hid (flat_len l)
    clear hfl hA
    go_enter Try.func26, Try.ntmps26
    go_wp2_with (at_builtin; refine wpList_append_own_spare _ rfl _ _ 38 rfl w.heap.size 55 i 5 HU.out HI.out h5 w.heap.size 0 (l.length + 1) [] rfl HO.out ad l.length cap (l.flatMap Op.cells) rfl HN.out ?hn (flat_one l) (by omega) ?_)
    case hn => intro j u hu; exact cell_keep (HF.out j u hu) (balloc (Below.refl _ w) _)
    intro w2 hown2 hgr
    go_wp2
    go_ret
    refine ⟨w.heap.size, l.length + 1, rfl, by omega, own_ops hown2 rfl, Nat.le_refl _, (World.ownsRow.lt hown2 _ rfl).2, ?_⟩
    exact (balloc (Below.refl _ w) _).grown hgr (by simp) (fun k hk => by injection hk with hk; omega)
end Go.Proofs.Ytcibkoodnfkogaa
