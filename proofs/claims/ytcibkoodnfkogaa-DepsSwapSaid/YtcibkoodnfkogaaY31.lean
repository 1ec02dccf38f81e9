/- The contract of hayloftlaw10.wakes; the walk of AliasRounds. -/
import Derived.Test.YtcibkoodnfkogaaY5
import Derived.Test.YtcibkoodnfkogaaY30
import Derived.Test.YtcibkoodnfkogaaY1
import Derived.ProofKit
import Derived.OpenShut
import Derived.Deep.Slices
namespace Go.Proofs.Ytcibkoodnfkogaa
open Go.RowKit
set_option linter.unusedVariables false
set_option linter.unusedSimpArgs false
section
open Go.RowKit
theorem wk_flat_get (l : List Op) (i : Nat) (x : Op) (h : l[i]? = some x) (j : Nat) (hj : j < 5) : (l.flatMap Op.cells)[i * 5 + j]? = x.cells[j]? := by
  induction l generalizing i with
  | nil => simp at h
  | cons y l ih =>
    rw [List.flatMap_cons]
    cases i with
    | zero =>
      have hy : y = x := by simpa using h
      subst hy
      rw [List.getElem?_append_left (by simp [Op.cells]; omega), Nat.zero_mul, Nat.zero_add]
    | succ i =>
      rw [List.getElem?_append_right (by simp [Op.cells]; omega), show (i + 1) * 5 + j - y.cells.length = i * 5 + j by simp [Op.cells]; omega]
      exact ih i (by simpa using h)
theorem new_ops (w : World) (l : List Op) (T : TypeId) : OpsIn (w.alloc (.cells (l.flatMap Op.cells).toArray T)) (some ⟨w.heap.size, 0, none⟩) l := fun _ => by
  refine ⟨_, _, rfl, fun i x hx => ?_⟩
  have hc : ∀ j, j < 5 → (w.alloc (.cells (l.flatMap Op.cells).toArray T)).cell? ⟨w.heap.size, 0 + i * 5 + j, none⟩ = x.cells[j]? := fun j hj => by
    rw [cell_of_row _ _ _ _ _ _ (heap_alloc_new _ _), Nat.zero_add]
    simpa using wk_flat_get l i x hx j hj
  exact ⟨hc 0 (by omega), hc 1 (by omega), hc 2 (by omega), hc 3 (by omega), hc 4 (by omega)⟩
def wk : List Op := [⟨15, 1, 2, 0, 8⟩, ⟨16, 0, 2, 3, 9⟩, ⟨16, 0, 2, 3, 264⟩, ⟨2, 2, 2, 4, 0⟩, ⟨16, 0, 2, 3, 9⟩]
theorem wk_wf : ∀ o ∈ wk, o.wf := by
  intro o ho
  simp only [wk, List.mem_cons, List.not_mem_nil, or_false] at ho
  rcases ho with rfl | rfl | rfl | rfl | rfl <;> constructor <;> decide
theorem wk_meet (A : Option Addr) (cap : Nat) (i j : Int) (r : Bool) (w : World) (hl : OpsIn w A wk) (hc : 5 ≤ cap) (hr : meetL wk i j = r) :
    Calls Try.prog 27 #[.slice A 5 cap, .int .i64 i, .int .i64 j] w fun e w' => e = .returned (.bool r) ∧ Below w.heap.size w w' := by
  subst hr
  exact Meet_any A wk cap i j w hl wk_wf (by decide) hc
theorem wk_round (A : Option Addr) (cap : Nat) (i j : Int) (r : Bool) (w : World) (hl : OpsIn w A wk) (hr : roundL wk i j = r) :
    Calls Try.prog 29 #[.slice A 5 cap, .int .i64 i, .int .i64 j] w fun e w' => e = .returned (.bool r) ∧ Below w.heap.size w w' := by
  subst hr
  exact Round_any A wk cap i j w hl wk_wf (by decide)
def wk3 : List Op := [⟨15, 1, 2, 0, 8⟩, ⟨16, 0, 2, 3, 9⟩, ⟨16, 0, 2, 3, 264⟩]
theorem wk3_round (A : Option Addr) (cap : Nat) (i j : Int) (r : Bool) (w : World) (hl : OpsIn w A wk) (hr : roundL wk3 i j = r) :
    Calls Try.prog 29 #[.slice A 3 cap, .int .i64 i, .int .i64 j] w fun e w' => e = .returned (.bool r) ∧ Below w.heap.size w w' := by
  subst hr
  refine Round_any A wk3 cap i j w ?_ (fun o ho => wk_wf o ?_) (by decide)
  · intro _
    obtain ⟨g, off, ha, hx⟩ := hl (by decide)
    refine ⟨g, off, ha, fun k x hk => hx k x ?_⟩
    have : k < 3 := by have := (List.getElem?_eq_some_iff.1 hk).1; simpa [wk3] using this
    obtain rfl | rfl | rfl : k = 0 ∨ k = 1 ∨ k = 2 := by omega
    all_goals simpa [wk, wk3] using hk
  · have := List.mem_of_mem_take (i := 3) (l := wk) (a := o) ho
    exact this
set_option maxHeartbeats 4000000 in
set_option maxRecDepth 100000 in
theorem wakes10_any (w : World) : Calls Try.prog 25 #[] w fun e w' => e = .returned (.bool true) ∧ Below w.heap.size w w' := by
  go_enter Try.func25, Try.ntmps25
  go_wp2_with fail
  have H0 := hid (new_ops w wk 55)
  have B0 := hid (balloc (Below.refl _ w) (.cells (wk.flatMap Op.cells).toArray 55))
  refine (wk_meet _ _ 0 1 false _ H0.out (by decide) (by decide +kernel)).mono ?_
  rintro e w1 ⟨rfl, hb⟩
  have H1 := hid (H0.out.keep hb)
  have B1 := hid (btrans B0.out hb)
  clear hb H0 B0
  go_wp2_with fail
  refine (wk_meet _ _ 0 2 true _ H1.out (by decide) (by decide +kernel)).mono ?_
  rintro e w2 ⟨rfl, hb⟩
  have H2 := hid (H1.out.keep hb)
  have B2 := hid (btrans B1.out hb)
  clear hb H1 B1
  go_wp2_with fail
  refine (wk_meet _ _ 0 4 true _ H2.out (by decide) (by decide +kernel)).mono ?_
  rintro e w3 ⟨rfl, hb⟩
  have H3 := hid (H2.out.keep hb)
  have B3 := hid (btrans B2.out hb)
  clear hb H2 B2
  go_wp2_with fail
  refine (wk_meet _ _ 1 0 false _ H3.out (by decide) (by decide +kernel)).mono ?_
  rintro e w4 ⟨rfl, hb⟩
  have H4 := hid (H3.out.keep hb)
  have B4 := hid (btrans B3.out hb)
  clear hb H3 B3
  go_wp2_with fail
  refine (wk_meet _ _ 0 0 false _ H4.out (by decide) (by decide +kernel)).mono ?_
  rintro e w5 ⟨rfl, hb⟩
  have H5 := hid (H4.out.keep hb)
  have B5 := hid (btrans B4.out hb)
  clear hb H4 B4
  go_wp2_with fail
  refine (wk_round _ _ 0 1 true _ H5.out (by decide +kernel)).mono ?_
  rintro e w6 ⟨rfl, hb⟩
  have H6 := hid (H5.out.keep hb)
  have B6 := hid (btrans B5.out hb)
  clear hb H5 B5
  go_wp2_with fail
  refine (wk3_round _ _ 0 1 false _ H6.out (by decide +kernel)).mono ?_
  rintro e w7 ⟨rfl, hb⟩
  have H7 := hid (H6.out.keep hb)
  have B7 := hid (btrans B6.out hb)
  clear hb H6 B6
  go_wp2_with fail
  refine (wk3_round _ _ 1 1 true _ H7.out (by decide +kernel)).mono ?_
  rintro e w8 ⟨rfl, hb⟩
  have B8 := hid (btrans B7.out hb)
  clear hb H7 B7
  go_wp2
  go_ret
  exact ⟨rfl, B8.out⟩
end
/- Dependences: the law's edges and wakes. -/
section
open Go.RowKit
theorem EdgesIn.get {w : World} {A : Option Addr} {l : List Edge} (h : EdgesIn w A l) (i : Nat) (hi : i < l.length) : ∃ g off, A = some ⟨g, off, none⟩ ∧ w.cell? ⟨g, off + i * 5, none⟩ = some (.int .i64 l[i].f) ∧ w.cell? ⟨g, off + i * 5 + 1, none⟩ = some (.int .i64 l[i].t) ∧ w.cell? ⟨g, off + i * 5 + 2, none⟩ = some (.int .i64 l[i].l) ∧ w.cell? ⟨g, off + i * 5 + 3, none⟩ = some (.int .i64 l[i].d) ∧ w.cell? ⟨g, off + i * 5 + 4, none⟩ = some (.int .i8 l[i].y) := by
  obtain ⟨g, off, ha, hx⟩ := h (by rintro rfl; simp at hi)
  have hc := hx i l[i] (List.getElem?_eq_getElem hi)
  exact ⟨g, off, ha, hc 0 _ rfl, hc 1 _ rfl, hc 2 _ rfl, hc 3 _ rfl, hc 4 _ rfl⟩
theorem ofE_len (l : List Op) (t : List Int) : (ofE l t).length ≤ 6000000 := by
  unfold ofE
  split
  · rename_i h
    have hl := (lat_all (eq_of_beq h)).1
    have := onceE_len l t l.length hl
    omega
  · simp
theorem loopE_len (l : List Op) (t : List Int) : (loopE l t).length ≤ 12000000 := by
  unfold loopE
  split
  · rename_i h
    have hl := (lat_all (eq_of_beq h)).1
    have := onceE_len l t l.length hl
    have := arndE_len l t l.length hl
    rw [List.length_append]
    omega
  · simp
set_option maxHeartbeats 4000000 in
set_option maxRecDepth 100000 in
theorem edges_same (A A2 : Option Addr) (l : List Edge) (cap cap2 : Nat) (w : World) (hl : EdgesIn w A l) (hl2 : EdgesIn w A2 l) (hm : l.length ≤ 1000000000000000000) :
    Calls Try.prog 59 #[.slice A l.length cap, .slice A2 l.length cap2] w fun e w' => e = .returned (.bool true) ∧ ∃ n, w' = w.drewN n := by
  have HL := hid hl
  have HL2 := hid hl2
  clear hl hl2
  go_enter Try.func59, Try.ntmps59
  go_wp2
  go_loopg [13] l.length (fun g v wr => ∃ i : Nat, i ≤ l.length ∧ v = .int .i64 i ∧ Hid (g + i = l.length) ∧ ∃ n, wr = w.drewN n)
  case atStart => exact ⟨0, by omega, rfl, by exact Nat.add_zero _, 0, rfl⟩
  case round =>
    obtain ⟨i, hi, rfl, hg, n, rfl⟩ := hrel
    by_cases hlt : i < l.length
    · obtain ⟨g, off, rfl, c0, c1, c2, c3, c4⟩ := HL.out.get i hlt
      obtain ⟨g2, off2, rfl, d0, d1, d2, d3, d4⟩ := HL2.out.get i hlt
      have hij : (i : Int) < (l.length : Int) := by omega
      have hi0 : (0 : Int) ≤ (i : Int) := by omega
      go_wp2
      go_quiet (fail)
      go_wp2
      go_roundg (l.length - (i + 1))
      case measure => have := hg.out; omega
      case rel => exact ⟨i + 1, by omega, by go_num, by show _ + _ = _; omega, _, rfl⟩
    · obtain rfl : i = l.length := by omega
      go_wp2
      go_ret
      exact ⟨rfl, _, rfl⟩
def dwk : List Op := [⟨1, 1, 0, 0, 0⟩, ⟨12, 2, 1, 1, 0⟩, ⟨2, 1, 2, 1, 0⟩, ⟨17, 0, 1, 0, 0⟩]
def dwt : List Int := [1, 1, 1, 1, 1, 3, 2, 1, 1, 1, 1, 1, 0]
theorem dwk_wf : ∀ o ∈ dwk, o.wf := by
  intro o ho
  simp only [dwk, List.mem_cons, List.not_mem_nil, or_false] at ho
  rcases ho with rfl | rfl | rfl | rfl <;> constructor <;> decide
theorem dwk_e : depE dwk dwt = 0 := by decide +kernel
theorem dwk_n : (ofE dwk dwt).length = 6 := by decide +kernel
theorem dwk_0 : (ofE dwk dwt)[0]? = some ⟨0, 1, 1, 0, 0⟩ := by rfl
theorem dwk_3 : (ofE dwk dwt)[3]? = some ⟨1, 2, 3, 0, 0⟩ := by rfl
set_option maxHeartbeats 4000000 in
set_option maxRecDepth 100000 in
theorem wakes11_any (w : World) : Calls Try.prog 60 #[] w fun e w' => e = .returned (.bool true) ∧ Below w.heap.size w w' := by
  have C1 : Hid (∀ (w' : World) (A : Option Addr) (cap : Nat), OpsIn w' A dwk → 4 ≤ cap → Calls Try.prog 55 #[.slice A 4 cap, .agg #[.int .i64 1, .int .i64 1, .int .i64 1, .int .i64 1, .int .i64 1, .int .i64 3, .int .i64 2, .int .i64 1, .int .i64 1, .int .i64 1, .int .i64 1, .int .i64 1, .int .i64 0]] w' fun e w2 => ∃ (A2 : Option Addr) (c2 : Nat), e = .returned (.tuple #[.slice A2 6 c2, .int .i64 0]) ∧ EdgesIn w2 A2 (ofE dwk dwt) ∧ Below w'.heap.size w' w2) := hid (fun w' A cap h hc => by
    have := of_dep A dwk cap dwt w' h dwk_wf (by decide) hc rfl
    unfold EdgeP at this
    rw [dwk_e, dwk_n] at this
    exact this)
  have H0 := hid (new_ops w dwk 55)
  go_enter Try.func60, Try.ntmps60
  go_wp2_with fail
  refine (C1.out _ (some ⟨w.heap.size, 0, none⟩) 4 (H0.out.keep (balloc (Below.refl _ _) _)) (by decide)).mono ?_
  rintro e w1 ⟨A2, c2, rfl, hE, hb⟩
  have B1 := hid (btrans (a := w) (by ((with_reducible (repeat (first | assumption | exact Below.refl _ _ | refine bset ?_ (Nat.le_refl _) _ | refine balloc ?_ _ | refine bdrew ?_ | refine bdrewN ?_ _))); done)) hb)
  obtain ⟨g, off, rfl, c0, c1, c2', c3, c4⟩ := hE.get 0 (by rw [dwk_n]; decide)
  obtain ⟨g', off', e', d0, d1, d2, d3, d4⟩ := hE.get 3 (by rw [dwk_n]; decide)
  injection e' with e'
  injection e' with e1 e2
  subst e1 e2
  have h0 : (ofE dwk dwt)[0]'(by rw [dwk_n]; decide) = ⟨0, 1, 1, 0, 0⟩ := by
    have := dwk_0
    rw [List.getElem?_eq_getElem (by rw [dwk_n]; decide)] at this
    injection this
  have h3 : (ofE dwk dwt)[3]'(by rw [dwk_n]; decide) = ⟨1, 2, 3, 0, 0⟩ := by
    have := dwk_3
    rw [List.getElem?_eq_getElem (by rw [dwk_n]; decide)] at this
    injection this
  rw [h0] at c0 c1 c2' c3 c4
  rw [h3] at d0 d1 d2 d3 d4
  clear hb hE h0 h3 C1 H0
  simp only [Nat.zero_mul, Nat.add_zero, Nat.reduceMul, Nat.add_assoc, Nat.reduceAdd] at c0 c1 c2' c3 c4 d0 d1 d2 d3 d4
  go_wp2
  go_ret
  exact ⟨rfl, B1.out⟩
end
/- Reading arguments: a list of operations; a table. -/
section
open Go.RowKit Go.ChangeShapes Go.WideShapes Go.Deep

section
variable {H : Type} {enc : TypeId × Value → H} {w : World}
theorem cells_i8 : Try.prog.cellsOf 53 = 1 := by kernel_rfl
theorem cells_u8 : Try.prog.cellsOf 5 = 1 := by kernel_rfl
theorem cells_i64 : Try.prog.cellsOf 2 = 1 := by kernel_rfl
theorem cells_int : Try.prog.cellsOf 3 = 1 := by kernel_rfl
theorem cells_op : Try.prog.cellsOf 55 = 5 := by kernel_rfl
theorem spot_none {a : Addr} {v : Value} (h : w.cell? ((a.add (0 * 5)).add 0) = some v) : ∃ g off, a = ⟨g, off, none⟩ := by
  have h2 : w.cell? a = some v := h
  obtain ⟨g, off, s⟩ := a
  cases s with
  | none => exact ⟨g, off, rfl⟩
  | some s =>
    unfold World.cell? at h2
    split at h2
    · simp at h2
    · cases h2
theorem add_none (g off i : Nat) : (⟨g, off, none⟩ : Addr).add i = ⟨g, off + i, none⟩ := by
  unfold Addr.add
  split
  · subst_vars; rfl
  · rfl
theorem five {α : Type} {l : List α} (h : l.length = 5) : ∃ a b c d e, l = [a, b, c, d, e] := by
  match l, h with
  | [a, b, c, d, e], _ => exact ⟨a, b, c, d, e, rfl⟩
theorem wf_i8 {n : Int} (h : (Lit.int .i8 n).wf = true) : -128 ≤ n ∧ n ≤ 127 := by
  simp only [Lit.wf, IntKind.min, IntKind.max, IntKind.bits, IntKind.signed, Bool.and_eq_true] at h
  simp at h
  omega
theorem wf_u8 {n : Int} (h : (Lit.int .u8 n).wf = true) : 0 ≤ n ∧ n ≤ 255 := by
  simp only [Lit.wf, IntKind.min, IntKind.max, IntKind.bits, IntKind.signed, Bool.and_eq_true] at h
  simp at h
  omega
theorem wf_i64 {n : Int} (h : (Lit.int .i64 n).wf = true) : -9223372036854775808 ≤ n ∧ n ≤ 9223372036854775807 := by
  simp only [Lit.wf, IntKind.min, IntKind.max, IntKind.bits, IntKind.signed, Bool.and_eq_true] at h
  simp at h
  omega
theorem open_op {fuel : Nat} {cs : List Value} {x : DataW H × List MemPlace} (h : DataW.trod enc Try.prog w 0 (fun _ => true) true fuel 55 cs = some x) : ∃ o : Op, o.wf ∧ cs = o.cells := by
  obtain ⟨xs, n, _, _, hl, hlen, hf⟩ := DataW.trod_struct Try.underlying55 h
  rw [cells_op] at hl
  obtain ⟨y0, y1, y2, y3, y4, rfl⟩ := five (show xs.length = 5 from hlen)
  obtain ⟨v0, v1, v2, v3, v4, rfl⟩ := five hl
  have f0 : DataW.trod enc Try.prog w 0 (fun _ => true) true n 53 (([v0, v1, v2, v3, v4].drop 0).take (Try.prog.cellsOf 53)) = some y0 := hf 0 _ rfl
  have f1 : DataW.trod enc Try.prog w 0 (fun _ => true) true n 5 (([v0, v1, v2, v3, v4].drop 1).take (Try.prog.cellsOf 5)) = some y1 := hf 1 _ rfl
  have f2 : DataW.trod enc Try.prog w 0 (fun _ => true) true n 5 (([v0, v1, v2, v3, v4].drop 2).take (Try.prog.cellsOf 5)) = some y2 := hf 2 _ rfl
  have f3 : DataW.trod enc Try.prog w 0 (fun _ => true) true n 5 (([v0, v1, v2, v3, v4].drop 3).take (Try.prog.cellsOf 5)) = some y3 := hf 3 _ rfl
  have f4 : DataW.trod enc Try.prog w 0 (fun _ => true) true n 2 (([v0, v1, v2, v3, v4].drop 4).take (Try.prog.cellsOf 2)) = some y4 := hf 4 _ rfl
  obtain ⟨k, e0, _, w0⟩ := DataW.trod_int Try.underlying53 f0
  obtain ⟨d, e1, _, w1⟩ := DataW.trod_int Try.underlying5 f1
  obtain ⟨a, e2, _, w2⟩ := DataW.trod_int Try.underlying5 f2
  obtain ⟨b, e3, _, w3⟩ := DataW.trod_int Try.underlying5 f3
  obtain ⟨m, e4, _, w4⟩ := DataW.trod_int Try.underlying2 f4
  simp only [cells_i8, List.drop_zero, List.take_succ_cons, List.take_zero] at e0
  simp only [cells_u8, List.drop_succ_cons, List.drop_zero, List.take_succ_cons, List.take_zero] at e1 e2 e3
  simp only [cells_i64, List.drop_succ_cons, List.drop_zero, List.take_succ_cons, List.take_zero] at e4
  injection e0 with e0 _
  injection e1 with e1 _
  injection e2 with e2 _
  injection e3 with e3 _
  injection e4 with e4 _
  subst e0 e1 e2 e3 e4
  have b0 := wf_i8 w0
  have b1 := wf_u8 w1
  have b2 := wf_u8 w2
  have b3 := wf_u8 w3
  have b4 := wf_i64 w4
  exact ⟨⟨k, d, a, b, m⟩, ⟨b0.1, b0.2, b1.1, b1.2, b2.1, b2.2, b3.1, b3.2, b4.1, b4.2⟩, rfl⟩
theorem open_ops {fuel : Nat} {cs : List Value} {x : DataW H × List MemPlace} (h : DataW.trod enc Try.prog w 0 (fun _ => true) true fuel 38 cs = some x) :
    ∃ (A : Option Addr) (cap : Nat) (l : List Op), cs = [.slice A l.length cap] ∧ l.length ≤ cap ∧ cap ≤ maxLen ∧ OpsIn w A l ∧ (∀ o ∈ l, o.wf) ∧ (A = none → cap = 0) := by
  rcases open_slice Try.underlying38 h with ⟨rfl, _⟩ | ⟨a, len, cap, m, n, D, Pl, rfl, _, hl, hm, hmm, _, hel⟩
  · exact ⟨none, 0, [], rfl, Nat.le_refl _, Nat.zero_le _, fun h => absurd rfl h, (fun o ho => by cases ho), fun _ => rfl⟩
  · simp only [if_true] at hmm
    subst hmm
    rw [cells_op] at hel
    have hop : ∀ i, i < m → ∃ o : Op, o.wf ∧ w.cells? 0 (a.add (i * 5)) 5 = some o.cells := fun i hi => by
      obtain ⟨cs', h1, h2⟩ := hel i hi
      obtain ⟨o, ho, rfl⟩ := open_op h2
      exact ⟨o, ho, h1⟩
    have : Inhabited Op := ⟨⟨0, 0, 0, 0, 0⟩⟩
    obtain ⟨f, hf⟩ := choose_lt hop
    refine ⟨some a, m, (List.range len).map f, by simp, by simpa using hl, by assumption, (fun hne => ?_), (fun o ho => ?_), (fun h => by cases h)⟩
    · have hlen : 0 < len := by
        cases len with
        | zero => simp at hne
        | succ n => omega
      have hsp : ∃ g off, a = ⟨g, off, none⟩ := spot_none ((World.cells?_some (hf 0 (by omega)).2).2.2 0 (by omega))
      obtain ⟨g, off, rfl⟩ := hsp
      refine ⟨g, off, rfl, fun i x hi => ?_⟩
      have hil : i < len := by have := (List.getElem?_eq_some_iff.1 hi).1; simpa using this
      have hx : f i = x := by simpa [hil] using hi
      subst hx
      have hc := (World.cells?_some (hf i (by omega)).2).2.2
      simp only [add_none] at hc
      exact ⟨hc 0 (by omega), hc 1 (by omega), hc 2 (by omega), hc 3 (by omega), hc 4 (by omega)⟩
    · obtain ⟨i, hi, rfl⟩ := List.mem_map.1 ho
      exact (hf i (by have := List.mem_range.1 hi; omega)).1
theorem four {α : Type} {l : List α} (h : l.length = 4) : ∃ a b c d, l = [a, b, c, d] := by
  match l, h with
  | [a, b, c, d], _ => exact ⟨a, b, c, d, rfl⟩
theorem cells_arr : Try.prog.cellsOf 26 = 4 := by kernel_rfl
theorem cells_tab : Try.prog.cellsOf 28 = 13 := by kernel_rfl
theorem open_arr {fuel : Nat} {cs : List Value} {x : DataW H × List MemPlace} (h : DataW.trod enc Try.prog w 0 (fun _ => true) true fuel 26 cs = some x) :
    ∃ t : List Int, t.length = 4 ∧ cs = t.map (Value.int .i64) ∧ ∀ n ∈ t, -9223372036854775808 ≤ n ∧ n ≤ 9223372036854775807 := by
  obtain ⟨xs, n, _, _, hl, hlen, hf⟩ := DataW.trod_array Try.underlying26 h
  rw [cells_arr] at hl
  obtain ⟨y0, y1, y2, y3, rfl⟩ := four hlen
  obtain ⟨v0, v1, v2, v3, rfl⟩ := four hl
  rw [cells_int] at hf
  obtain ⟨a, e0, _, w0⟩ := DataW.trod_int Try.underlying3 (hf 0 (by decide))
  obtain ⟨b, e1, _, w1⟩ := DataW.trod_int Try.underlying3 (hf 1 (by decide))
  obtain ⟨c, e2, _, w2⟩ := DataW.trod_int Try.underlying3 (hf 2 (by decide))
  obtain ⟨d, e3, _, w3⟩ := DataW.trod_int Try.underlying3 (hf 3 (by decide))
  simp only [Nat.mul_one, List.drop_zero, List.drop_succ_cons, List.take_succ_cons, List.take_zero] at e0 e1 e2 e3
  injection e0 with e0 _
  injection e1 with e1 _
  injection e2 with e2 _
  injection e3 with e3 _
  subst e0 e1 e2 e3
  refine ⟨[a, b, c, d], rfl, rfl, fun n hn => ?_⟩
  simp only [List.mem_cons, List.not_mem_nil, or_false] at hn
  rcases hn with rfl | rfl | rfl | rfl
  · exact wf_i64 w0
  · exact wf_i64 w1
  · exact wf_i64 w2
  · exact wf_i64 w3
/-- A table by value: 13 numbers. -/
theorem open_tab {fuel : Nat} {cs : List Value} {x : DataW H × List MemPlace} (h : DataW.trod enc Try.prog w 0 (fun _ => true) true fuel 28 cs = some x) :
    ∃ t : List Int, t.length = 13 ∧ cs = t.map (Value.int .i64) ∧ ∀ n ∈ t, -9223372036854775808 ≤ n ∧ n ≤ 9223372036854775807 := by
  obtain ⟨xs, n, _, _, hl, hlen, hf⟩ := DataW.trod_struct Try.underlying28 h
  rw [cells_tab] at hl
  obtain ⟨y0, y1, y2, y3, rfl⟩ := four (show xs.length = 4 from hlen)
  have f0 : DataW.trod enc Try.prog w 0 (fun _ => true) true n 26 ((cs.drop 0).take (Try.prog.cellsOf 26)) = some y0 := hf 0 _ rfl
  have f1 : DataW.trod enc Try.prog w 0 (fun _ => true) true n 26 ((cs.drop 4).take (Try.prog.cellsOf 26)) = some y1 := hf 1 _ rfl
  have f2 : DataW.trod enc Try.prog w 0 (fun _ => true) true n 26 ((cs.drop 8).take (Try.prog.cellsOf 26)) = some y2 := hf 2 _ rfl
  have f3 : DataW.trod enc Try.prog w 0 (fun _ => true) true n 3 ((cs.drop 12).take (Try.prog.cellsOf 3)) = some y3 := hf 3 _ rfl
  rw [cells_arr] at f0 f1 f2
  rw [cells_int] at f3
  obtain ⟨t0, l0, e0, b0⟩ := open_arr f0
  obtain ⟨t1, l1, e1, b1⟩ := open_arr f1
  obtain ⟨t2, l2, e2, b2⟩ := open_arr f2
  obtain ⟨d, e3, _, w3⟩ := DataW.trod_int Try.underlying3 f3
  have h12 : (cs.drop 12).take 1 = cs.drop 12 := List.take_of_length_le (by simp; omega)
  refine ⟨t0 ++ (t1 ++ (t2 ++ [d])), by simp [l0, l1, l2], ?_, ?_⟩
  · rw [List.map_append, List.map_append, List.map_append, ← e0, ← e1, ← e2]
    have h8 : cs.drop 8 = (cs.drop 8).take 4 ++ cs.drop 12 := by
      have := (List.take_append_drop 4 (cs.drop 8)).symm
      rwa [List.drop_drop] at this
    have h4 : cs.drop 4 = (cs.drop 4).take 4 ++ cs.drop 8 := by
      have := (List.take_append_drop 4 (cs.drop 4)).symm
      rwa [List.drop_drop] at this
    have h0 : cs = (cs.drop 0).take 4 ++ cs.drop 4 := (List.take_append_drop 4 cs).symm
    rw [h12] at e3
    rw [show [d].map (Value.int .i64) = cs.drop 12 from e3.symm, ← h8, ← h4]
    exact h0
  · intro m hm
    simp only [List.mem_append, List.mem_singleton] at hm
    rcases hm with hm | hm | hm | rfl
    · exact b0 m hm
    · exact b1 m hm
    · exact b2 m hm
    · exact wf_i64 w3
end
end
end Go.Proofs.Ytcibkoodnfkogaa
