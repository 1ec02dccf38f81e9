/- Dependences: the law's edges and wakes. -/
import Derived.Test.YtcibkoodnfkogaaE6
import Derived.Test.YtcibkoodnfkogaaAliW
namespace Go.Proofs.Ytcibkoodnfkogaa
open Go.RowKit
set_option linter.unusedVariables false
set_option linter.unusedSimpArgs false
theorem EdgesIn.get {w : World} {A : Option Addr} {l : List Edge} (h : EdgesIn w A l) (i : Nat) (hi : i < l.length) : ∃ g off, A = some ⟨g, off, none⟩ ∧ w.cell? ⟨g, off + i * 5, none⟩ = some (.int .i64 l[i].f) ∧ w.cell? ⟨g, off + i * 5 + 1, none⟩ = some (.int .i64 l[i].t) ∧ w.cell? ⟨g, off + i * 5 + 2, none⟩ = some (.int .i64 l[i].l) ∧ w.cell? ⟨g, off + i * 5 + 3, none⟩ = some (.int .i64 l[i].d) ∧ w.cell? ⟨g, off + i * 5 + 4, none⟩ = some (.int .i8 l[i].y) := by
  obtain ⟨g, off, ha, hx⟩ := h (by rintro rfl; simp at hi)
  have hc := hx i l[i] (List.getElem?_eq_getElem hi)
  exact ⟨g, off, ha, hc 0 _ rfl, hc 1 _ rfl, hc 2 _ rfl, hc 3 _ rfl, hc 4 _ rfl⟩
theorem ofE_len (l : List Op) (t : List Int) : (ofE l t).length ≤ 6000000 := by
  unfold ofE
  split
  · rename_i h
    have hl := (lat_all (eq_of_beq h)).1
    have := onceE_len l t l.length hl
    omega
  · simp
theorem loopE_len (l : List Op) (t : List Int) : (loopE l t).length ≤ 12000000 := by
  unfold loopE
  split
  · rename_i h
    have hl := (lat_all (eq_of_beq h)).1
    have := onceE_len l t l.length hl
    have := arndE_len l t l.length hl
    rw [List.length_append]
    omega
  · simp
set_option maxHeartbeats 4000000 in
set_option maxRecDepth 100000 in
theorem edges_same (A A2 : Option Addr) (l : List Edge) (cap cap2 : Nat) (w : World) (hl : EdgesIn w A l) (hl2 : EdgesIn w A2 l) (hm : l.length ≤ 1000000000000000000) :
    Calls Try.prog 59 #[.slice A l.length cap, .slice A2 l.length cap2] w fun e w' => e = .returned (.bool true) ∧ ∃ n, w' = w.drewN n := by
  have HL := hid hl
  have HL2 := hid hl2
  clear hl hl2
  go_enter Try.func59, Try.ntmps59
  go_wp2
  go_loopg [13] l.length (fun g v wr => ∃ i : Nat, i ≤ l.length ∧ v = .int .i64 i ∧ Hid (g + i = l.length) ∧ ∃ n, wr = w.drewN n)
  case atStart => exact ⟨0, by omega, rfl, by exact Nat.add_zero _, 0, rfl⟩
  case round =>
    obtain ⟨i, hi, rfl, hg, n, rfl⟩ := hrel
    by_cases hlt : i < l.length
    · obtain ⟨g, off, rfl, c0, c1, c2, c3, c4⟩ := HL.out.get i hlt
      obtain ⟨g2, off2, rfl, d0, d1, d2, d3, d4⟩ := HL2.out.get i hlt
      have hij : (i : Int) < (l.length : Int) := by omega
      have hi0 : (0 : Int) ≤ (i : Int) := by omega
      go_wp2
      go_quiet (fail)
      go_wp2
      go_roundg (l.length - (i + 1))
      case measure => have := hg.out; omega
      case rel => exact ⟨i + 1, by omega, by go_num, by show _ + _ = _; omega, _, rfl⟩
    · obtain rfl : i = l.length := by omega
      go_wp2
      go_ret
      exact ⟨rfl, _, rfl⟩
def dwk : List Op := [⟨1, 1, 0, 0, 0⟩, ⟨12, 2, 1, 1, 0⟩, ⟨2, 1, 2, 1, 0⟩, ⟨17, 0, 1, 0, 0⟩]
def dwt : List Int := [1, 1, 1, 1, 1, 3, 2, 1, 1, 1, 1, 1, 0]
theorem dwk_wf : ∀ o ∈ dwk, o.wf := by
  intro o ho
  simp only [dwk, List.mem_cons, List.not_mem_nil, or_false] at ho
  rcases ho with rfl | rfl | rfl | rfl <;> constructor <;> decide
theorem dwk_e : depE dwk dwt = 0 := by decide +kernel
theorem dwk_n : (ofE dwk dwt).length = 6 := by decide +kernel
theorem dwk_0 : (ofE dwk dwt)[0]? = some ⟨0, 1, 1, 0, 0⟩ := by rfl
theorem dwk_3 : (ofE dwk dwt)[3]? = some ⟨1, 2, 3, 0, 0⟩ := by rfl
set_option maxHeartbeats 4000000 in
set_option maxRecDepth 100000 in
theorem wakes11_any (w : World) : Calls Try.prog 60 #[] w fun e w' => e = .returned (.bool true) ∧ Below w.heap.size w w' := by
  have C1 : Hid (∀ (w' : World) (A : Option Addr) (cap : Nat), OpsIn w' A dwk → 4 ≤ cap → Calls Try.prog 55 #[.slice A 4 cap, .agg #[.int .i64 1, .int .i64 1, .int .i64 1, .int .i64 1, .int .i64 1, .int .i64 3, .int .i64 2, .int .i64 1, .int .i64 1, .int .i64 1, .int .i64 1, .int .i64 1, .int .i64 0]] w' fun e w2 => ∃ (A2 : Option Addr) (c2 : Nat), e = .returned (.tuple #[.slice A2 6 c2, .int .i64 0]) ∧ EdgesIn w2 A2 (ofE dwk dwt) ∧ Below w'.heap.size w' w2) := hid (fun w' A cap h hc => by
    have := of_dep A dwk cap dwt w' h dwk_wf (by decide) hc rfl
    unfold EdgeP at this
    rw [dwk_e, dwk_n] at this
    exact this)
  have H0 := hid (new_ops w dwk 55)
  go_enter Try.func60, Try.ntmps60
  go_wp2_with fail
  refine (C1.out _ (some ⟨w.heap.size, 0, none⟩) 4 (H0.out.keep (balloc (Below.refl _ _) _)) (by decide)).mono ?_
  rintro e w1 ⟨A2, c2, rfl, hE, hb⟩
  have B1 := hid (btrans (a := w) (by ((with_reducible (repeat (first | assumption | exact Below.refl _ _ | refine bset ?_ (Nat.le_refl _) _ | refine balloc ?_ _ | refine bdrew ?_ | refine bdrewN ?_ _))); done)) hb)
  obtain ⟨g, off, rfl, c0, c1, c2', c3, c4⟩ := hE.get 0 (by rw [dwk_n]; decide)
  obtain ⟨g', off', e', d0, d1, d2, d3, d4⟩ := hE.get 3 (by rw [dwk_n]; decide)
  injection e' with e'
  injection e' with e1 e2
  subst e1 e2
  have h0 : (ofE dwk dwt)[0]'(by rw [dwk_n]; decide) = ⟨0, 1, 1, 0, 0⟩ := by
    have := dwk_0
    rw [List.getElem?_eq_getElem (by rw [dwk_n]; decide)] at this
    injection this
  have h3 : (ofE dwk dwt)[3]'(by rw [dwk_n]; decide) = ⟨1, 2, 3, 0, 0⟩ := by
    have := dwk_3
    rw [List.getElem?_eq_getElem (by rw [dwk_n]; decide)] at this
    injection this
  rw [h0] at c0 c1 c2' c3 c4
  rw [h3] at d0 d1 d2 d3 d4
  clear hb hE h0 h3 C1 H0
  simp only [Nat.zero_mul, Nat.add_zero, Nat.reduceMul, Nat.add_assoc, Nat.reduceAdd] at c0 c1 c2' c3 c4 d0 d1 d2 d3 d4
  go_wp2
  go_ret
  exact ⟨rfl, B1.out⟩
end Go.Proofs.Ytcibkoodnfkogaa
