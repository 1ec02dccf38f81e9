/- Reading arguments: a list of operations; a table. -/
import Derived.Test.YtpiagggnjppkhaaDoorBase2
import Derived.ProofKit
import Derived.OpenShut
import Derived.Deep.Slices
namespace Go.Proofs.YtpiagggnjppkhaaDoor
open Go.RowKit Go.ChangeShapes Go.WideShapes Go.Deep
set_option linter.unusedVariables false
set_option linter.unusedSimpArgs false

section
variable {H : Type} {enc : TypeId × Value → H} {w : World}
theorem cells_i8 : Tryd.prog.cellsOf 22 = 1 := by kernel_rfl
theorem cells_u8 : Tryd.prog.cellsOf 5 = 1 := by kernel_rfl
theorem cells_i64 : Tryd.prog.cellsOf 2 = 1 := by kernel_rfl
theorem cells_int : Tryd.prog.cellsOf 3 = 1 := by kernel_rfl
theorem cells_op : Tryd.prog.cellsOf 32 = 5 := by kernel_rfl
theorem spot_none {a : Addr} {v : Value} (h : w.cell? ((a.add (0 * 5)).add 0) = some v) : ∃ g off, a = ⟨g, off, none⟩ := by
  have h2 : w.cell? a = some v := h
  obtain ⟨g, off, s⟩ := a
  cases s with
  | none => exact ⟨g, off, rfl⟩
  | some s =>
    unfold World.cell? at h2
    split at h2
    · simp at h2
    · cases h2
theorem add_none (g off i : Nat) : (⟨g, off, none⟩ : Addr).add i = ⟨g, off + i, none⟩ := by
  unfold Addr.add
  split
  · subst_vars; rfl
  · rfl
theorem five {α : Type} {l : List α} (h : l.length = 5) : ∃ a b c d e, l = [a, b, c, d, e] := by
  match l, h with
  | [a, b, c, d, e], _ => exact ⟨a, b, c, d, e, rfl⟩
theorem wf_i8 {n : Int} (h : (Lit.int .i8 n).wf = true) : -128 ≤ n ∧ n ≤ 127 := by
  simp only [Lit.wf, IntKind.min, IntKind.max, IntKind.bits, IntKind.signed, Bool.and_eq_true] at h
  simp at h
  omega
theorem wf_u8 {n : Int} (h : (Lit.int .u8 n).wf = true) : 0 ≤ n ∧ n ≤ 255 := by
  simp only [Lit.wf, IntKind.min, IntKind.max, IntKind.bits, IntKind.signed, Bool.and_eq_true] at h
  simp at h
  omega
theorem wf_i64 {n : Int} (h : (Lit.int .i64 n).wf = true) : -9223372036854775808 ≤ n ∧ n ≤ 9223372036854775807 := by
  simp only [Lit.wf, IntKind.min, IntKind.max, IntKind.bits, IntKind.signed, Bool.and_eq_true] at h
  simp at h
  omega
theorem open_op {fuel : Nat} {cs : List Value} {x : DataW H × List MemPlace} (h : DataW.trod enc Tryd.prog w 0 (fun _ => true) true fuel 32 cs = some x) : ∃ o : Op, o.wf ∧ cs = o.cells := by
  obtain ⟨xs, n, _, _, hl, hlen, hf⟩ := DataW.trod_struct Tryd.underlying32 h
  rw [cells_op] at hl
  obtain ⟨y0, y1, y2, y3, y4, rfl⟩ := five (show xs.length = 5 from hlen)
  obtain ⟨v0, v1, v2, v3, v4, rfl⟩ := five hl
  have f0 : DataW.trod enc Tryd.prog w 0 (fun _ => true) true n 22 (([v0, v1, v2, v3, v4].drop 0).take (Tryd.prog.cellsOf 22)) = some y0 := hf 0 _ rfl
  have f1 : DataW.trod enc Tryd.prog w 0 (fun _ => true) true n 5 (([v0, v1, v2, v3, v4].drop 1).take (Tryd.prog.cellsOf 5)) = some y1 := hf 1 _ rfl
  have f2 : DataW.trod enc Tryd.prog w 0 (fun _ => true) true n 5 (([v0, v1, v2, v3, v4].drop 2).take (Tryd.prog.cellsOf 5)) = some y2 := hf 2 _ rfl
  have f3 : DataW.trod enc Tryd.prog w 0 (fun _ => true) true n 5 (([v0, v1, v2, v3, v4].drop 3).take (Tryd.prog.cellsOf 5)) = some y3 := hf 3 _ rfl
  have f4 : DataW.trod enc Tryd.prog w 0 (fun _ => true) true n 2 (([v0, v1, v2, v3, v4].drop 4).take (Tryd.prog.cellsOf 2)) = some y4 := hf 4 _ rfl
  obtain ⟨k, e0, _, w0⟩ := DataW.trod_int Tryd.underlying22 f0
  obtain ⟨d, e1, _, w1⟩ := DataW.trod_int Tryd.underlying5 f1
  obtain ⟨a, e2, _, w2⟩ := DataW.trod_int Tryd.underlying5 f2
  obtain ⟨b, e3, _, w3⟩ := DataW.trod_int Tryd.underlying5 f3
  obtain ⟨m, e4, _, w4⟩ := DataW.trod_int Tryd.underlying2 f4
  simp only [cells_i8, List.drop_zero, List.take_succ_cons, List.take_zero] at e0
  simp only [cells_u8, List.drop_succ_cons, List.drop_zero, List.take_succ_cons, List.take_zero] at e1 e2 e3
  simp only [cells_i64, List.drop_succ_cons, List.drop_zero, List.take_succ_cons, List.take_zero] at e4
  injection e0 with e0 _
  injection e1 with e1 _
  injection e2 with e2 _
  injection e3 with e3 _
  injection e4 with e4 _
  subst e0 e1 e2 e3 e4
  have b0 := wf_i8 w0
  have b1 := wf_u8 w1
  have b2 := wf_u8 w2
  have b3 := wf_u8 w3
  have b4 := wf_i64 w4
  exact ⟨⟨k, d, a, b, m⟩, ⟨b0.1, b0.2, b1.1, b1.2, b2.1, b2.2, b3.1, b3.2, b4.1, b4.2⟩, rfl⟩
end
end Go.Proofs.YtpiagggnjppkhaaDoor
