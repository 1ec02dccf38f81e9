/- The contracts of alias.Meet and alias.Round. -/
import Derived.Test.YtcibkoodnfkogaaAli2
namespace Go.Proofs.Ytcibkoodnfkogaa
open Go.RowKit
set_option linter.unusedVariables false
set_option linter.unusedSimpArgs false
theorem meet_at (A A2 : Option Addr) (l st : List Op) (i j cap cap2 n : Nat) (w : World) (hi : i < l.length) (hj : j < l.length) (hl : OpsIn w A l) (hs : OpsIn w A2 st) (hw : ∀ o ∈ l, o.wf) (hw2 : ∀ o ∈ st, o.wf)
    (hm : l.length ≤ 1000000000000000000) (hn : st.length = n) (hm2 : n ≤ 1000000000000000000) (r : Bool) (hr : meetB l[i] l[j] st = r) :
    Calls Try.prog 69 #[.slice A l.length cap, .int .i64 i, .int .i64 j, .slice A2 n cap2] w fun e w' => e = .returned (.bool r) ∧ Below w.heap.size w w' := by
  subst hn hr
  exact meet_any A A2 l st i j cap cap2 w hi hj hl hs hw hw2 hm hm2
/-- A stretch of a list. -/
def cut (l : List Op) (i j : Nat) : List Op := (l.take j).drop i
theorem cut_length (l : List Op) (i j : Nat) (hij : i ≤ j) (hj : j ≤ l.length) : (cut l i j).length = j - i := by
  unfold cut
  rw [List.length_drop, List.length_take]
  omega
theorem cut_in {w : World} {g off : Nat} {l : List Op} (h : OpsIn w (some ⟨g, off, none⟩) l) (i j : Nat) : OpsIn w (some ⟨g, off + i * 5, none⟩) (cut l i j) := fun hne => by
  have hl : l ≠ [] := by rintro rfl; exact hne (by simp [cut])
  obtain ⟨g', off', he, hx⟩ := h hl
  injection he with he
  injection he with h1 h2
  subst h1 h2
  refine ⟨g, off + i * 5, rfl, fun k x hk => ?_⟩
  have hk' : l[i + k]? = some x := by
    unfold cut at hk
    rw [List.getElem?_drop, List.getElem?_take] at hk
    split at hk
    · exact hk
    · cases hk
  have := hx (i + k) x hk'
  rwa [show off + i * 5 + k * 5 = off + (i + k) * 5 by omega]
theorem cut_mem {l : List Op} {i j : Nat} {o : Op} (h : o ∈ cut l i j) : o ∈ l := List.mem_of_mem_take (List.mem_of_mem_drop h)
/-- alias.Meet's answer. -/
def meetL (l : List Op) (i j : Int) : Bool :=
  if h : 0 ≤ i ∧ i < j ∧ j < l.length then meetB (l[i.toNat]'(by omega)) (l[j.toNat]'(by omega)) (cut l i.toNat j.toNat) else false
/-- alias.Round's answer. -/
def roundL (l : List Op) (i j : Int) : Bool :=
  if h : 0 ≤ i ∧ 0 ≤ j ∧ i < l.length ∧ j < l.length then meetB (l[i.toNat]'(by omega)) (l[j.toNat]'(by omega)) l else false
set_option maxHeartbeats 4000000 in
set_option maxRecDepth 100000 in
theorem Meet_any (A : Option Addr) (l : List Op) (cap : Nat) (i j : Int) (w : World) (hl : OpsIn w A l) (hw : ∀ o ∈ l, o.wf) (hm : l.length ≤ 1000000000000000000) (hc : l.length ≤ cap) :
    Calls Try.prog 27 #[.slice A l.length cap, .int .i64 i, .int .i64 j] w fun e w' => e = .returned (.bool (meetL l i j)) ∧ Below w.heap.size w w' := by
  by_cases h : 0 ≤ i ∧ i < j ∧ j < l.length
  · obtain ⟨i, rfl⟩ := Int.eq_ofNat_of_zero_le h.1
    obtain ⟨j, rfl⟩ := Int.eq_ofNat_of_zero_le (show 0 ≤ j by omega)
    have h1 : (i : Int) < j := h.2.1
    have h2 : j < l.length := by omega
    have h3 : i ≤ j := by omega
    have h4 : j ≤ cap := by omega
    have h5 : i < l.length := by omega
    have e : meetB l[i] l[j] (cut l i j) = meetL l i j := by unfold meetL; rw [dif_pos h]; rfl
    generalize meetL l i j = r at e ⊢
    obtain ⟨g, off, rfl, _⟩ := hl.get i h5
    have hcall := fun cap2 => meet_at (some ⟨g, off, none⟩) (some ⟨g, off + i * 5, none⟩) l (cut l i j) i j cap cap2 (j - i) w h5 h2 hl (cut_in hl i j) hw (fun o ho => hw o (cut_mem ho)) hm (cut_length l i j h3 (by omega)) (by omega) r e
    have HC := hid hcall
    clear hcall e hw hl h
    go_enter Try.func27, Try.ntmps27
    go_wp2_with (go_at_call 69; (with_reducible refine (HC.out _).mono ?_); rintro e w' ⟨rfl, hb⟩)
    go_ret
    exact ⟨rfl, hb⟩
  · have e : meetL l i j = false := by unfold meetL; rw [dif_neg h]
    rw [e]
    clear e hl hw
    by_cases h0 : 0 ≤ i
    · by_cases h1 : i < j
      · have h2 : ¬ j < (l.length : Int) := by omega
        clear h
        go_enter Try.func27, Try.ntmps27
        go_wp2
        go_ret
        exact ⟨rfl, Below.refl _ _⟩
      · clear h
        go_enter Try.func27, Try.ntmps27
        go_wp2
        go_ret
        exact ⟨rfl, Below.refl _ _⟩
    · clear h
      go_enter Try.func27, Try.ntmps27
      go_wp2
      go_ret
      exact ⟨rfl, Below.refl _ _⟩
set_option maxHeartbeats 4000000 in
set_option maxRecDepth 100000 in
theorem Round_any (A : Option Addr) (l : List Op) (cap : Nat) (i j : Int) (w : World) (hl : OpsIn w A l) (hw : ∀ o ∈ l, o.wf) (hm : l.length ≤ 1000000000000000000) :
    Calls Try.prog 29 #[.slice A l.length cap, .int .i64 i, .int .i64 j] w fun e w' => e = .returned (.bool (roundL l i j)) ∧ Below w.heap.size w w' := by
  by_cases h : 0 ≤ i ∧ 0 ≤ j ∧ i < l.length ∧ j < l.length
  · obtain ⟨i, rfl⟩ := Int.eq_ofNat_of_zero_le h.1
    obtain ⟨j, rfl⟩ := Int.eq_ofNat_of_zero_le h.2.1
    have h2 : j < l.length := by omega
    have h5 : i < l.length := by omega
    have e : meetB l[i] l[j] l = roundL l i j := by unfold roundL; rw [dif_pos h]; rfl
    generalize roundL l i j = r at e ⊢
    have hcall := fun cap2 => meet_at A A l l i j cap cap2 l.length w h5 h2 hl hl hw hw hm rfl hm r e
    have HC := hid hcall
    clear hcall e hw hl h
    by_cases h6 : (j : Int) < i
    all_goals
      by_cases h7 : (i : Int) < j
      all_goals
        go_enter Try.func29, Try.ntmps29
        go_wp2_with (go_at_call 69; (with_reducible refine (HC.out _).mono ?_); rintro e w' ⟨rfl, hb⟩)
        go_ret
        exact ⟨rfl, hb⟩
  · have e : roundL l i j = false := by unfold roundL; rw [dif_neg h]
    rw [e]
    clear e hl hw
    by_cases h6 : j < i
    · by_cases h0 : 0 ≤ j
      · have h2 : ¬ i < (l.length : Int) := by omega
        have h7 : ¬ i < j := by omega
        clear h
        go_enter Try.func29, Try.ntmps29
        go_wp2
        go_ret
        exact ⟨rfl, Below.refl _ _⟩
      · clear h
        go_enter Try.func29, Try.ntmps29
        go_wp2
        go_ret
        exact ⟨rfl, Below.refl _ _⟩
    · by_cases h0 : 0 ≤ i
      · have h2 : ¬ j < (l.length : Int) := by omega
        by_cases h7 : i < j
        · clear h
          go_enter Try.func29, Try.ntmps29
          go_wp2
          go_ret
          exact ⟨rfl, Below.refl _ _⟩
        · have h8 : ¬ i < (l.length : Int) := by omega
          clear h
          go_enter Try.func29, Try.ntmps29
          go_wp2
          go_ret
          exact ⟨rfl, Below.refl _ _⟩
      · clear h
        go_enter Try.func29, Try.ntmps29
        go_wp2
        go_ret
        exact ⟨rfl, Below.refl _ _⟩
end Go.Proofs.Ytcibkoodnfkogaa
