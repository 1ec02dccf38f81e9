/- The contract of bundle.Encode. -/
import Derived.Test.YtcibkoodnfkogaaBu2
import Derived.Test.YtcibkoodnfkogaaPrg12
import Derived.Test.YtcibkoodnfkogaaPrg15
namespace Go.Proofs.Ytcibkoodnfkogaa
open Go.RowKit
set_option linter.unusedVariables false
set_option linter.unusedSimpArgs false
/-- A list of bundles lies from address A on. -/
def BunsIn (w : World) (A : Option Addr) (l : List (Nat → List Op)) : Prop :=
  l ≠ [] → ∃ g off, A = some ⟨g, off, none⟩ ∧ ∀ i b, l[i]? = some b → BunAt w g (off + i * 4) b
theorem BunsIn.keep {w w' : World} {A : Option Addr} {l : List (Nat → List Op)} (h : BunsIn w A l) (hb : Below w.heap.size w w') : BunsIn w' A l := fun hl => by
  obtain ⟨g, off, ha, hx⟩ := h hl
  exact ⟨g, off, ha, fun i b hi => (hx i b hi).keep hb⟩
theorem BunsIn.get {w : World} {A : Option Addr} {l : List (Nat → List Op)} (h : BunsIn w A l) (i : Nat) (hi : i < l.length) :
    ∃ g off, A = some ⟨g, off, none⟩ ∧ BunAt w g (off + i * 4) l[i] := by
  obtain ⟨g, off, ha, hx⟩ := h (by rintro rfl; simp at hi)
  exact ⟨g, off, ha, hx i l[i] (List.getElem?_eq_getElem hi)⟩
/-- The words of a class: its operations', then none. -/
def rowW (b : Nat → List Op) (t : List Int) (j : Nat) : List Int := (b j).map wordN ++ List.replicate (t[j]?.getD 0 - (b j).length).toNat 0
def rowsW (b : Nat → List Op) (t : List Int) (j : Nat) : List Int := (List.range j).flatMap (rowW b t)
def encL (t : List Int) (l : List (Nat → List Op)) : List Int := l.flatMap fun b => rowsW b t 4
def encE (l : List (Nat → List Op)) (t : List Int) : Int := if tabE t ≠ 0 then tabE t else if 65536 < l.length then 3 else if l.all (rightB · t) then 0 else 210
theorem rowsW_step (b : Nat → List Op) (t : List Int) (j : Nat) : rowsW b t (j + 1) = rowsW b t j ++ rowW b t j := by
  unfold rowsW
  rw [List.range_succ, List.flatMap_append]
  simp
theorem encL_step {t : List Int} {l : List (Nat → List Op)} {i : Nat} (hi : i < l.length) : encL t (l.take (i + 1)) = encL t (l.take i) ++ rowsW l[i] t 4 := by
  unfold encL
  rw [List.take_add_one, List.getElem?_eq_getElem hi, List.flatMap_append]
  simp
theorem rowW_len {b : Nat → List Op} {t : List Int} {j : Nat} (h : ((b j).length : Int) ≤ t[j]?.getD 0) (h8 : t[j]?.getD 0 ≤ 8) : (rowW b t j).length ≤ 8 := by
  unfold rowW
  rw [List.length_append, List.length_map, List.length_replicate]
  omega
theorem rowsW_len {b : Nat → List Op} {t : List Int} (j : Nat) (h : ∀ i, i < j → ((b i).length : Int) ≤ t[i]?.getD 0 ∧ t[i]?.getD 0 ≤ 8) : (rowsW b t j).length ≤ 8 * j := by
  induction j with
  | zero => simp [rowsW]
  | succ j ih =>
    rw [rowsW_step, List.length_append]
    have := ih fun i hi => h i (by omega)
    have := rowW_len (h j (by omega)).1 (h j (by omega)).2
    omega
theorem right_len {b : Nat → List Op} {t : List Int} (h : rightB b t = true) (j : Nat) (hj : j < 4) : ((b j).length : Int) ≤ t[j]?.getD 0 := by
  have := right_row h j hj
  unfold rowOk at this
  rw [Bool.and_eq_true] at this
  exact of_decide_eq_true this.1
theorem right_op {b : Nat → List Op} {t : List Int} (h : rightB b t = true) (j : Nat) (hj : j < 4) : ∀ o ∈ b j, opC j o = true := by
  have := right_row h j hj
  unfold rowOk at this
  rw [Bool.and_eq_true, List.all_eq_true] at this
  exact this.2
theorem encL_len {t : List Int} {l : List (Nat → List Op)} (ht : tabOk t = true) (i : Nat) (hi : i ≤ l.length) (h : ∀ m (hm : m < l.length), m < i → rightB l[m] t = true) : (encL t (l.take i)).length ≤ 32 * i := by
  induction i with
  | zero => simp [encL]
  | succ i ih =>
    rw [encL_step (by omega), List.length_append]
    have h1 := ih (by omega) fun m hm hmi => h m hm (by omega)
    have h2 := rowsW_len (b := l[i]) (t := t) 4 fun j hj => ⟨right_len (h i (by omega) (by omega)) j hj, (units_bd ht j hj).2⟩
    omega
theorem chk_bd {o : Op} (h : chk o = true) : 0 ≤ o.k ∧ o.k ≤ 23 ∧ o.d ≤ 31 ∧ o.a ≤ 31 ∧ o.b ≤ 31 ∧ -2147483648 ≤ o.n ∧ o.n ≤ 2147483647 := by
  unfold chk isK fits32 at h
  simp only [Bool.and_eq_true, decide_eq_true_eq] at h
  obtain ⟨⟨⟨⟨⟨⟨⟨⟨h0, h1⟩, h2⟩, h3⟩, h4⟩, h5⟩, h6⟩, h7⟩, h8⟩ := h
  omega
theorem opC_chk {c : Int} {o : Op} (h : opC c o = true) : chk o = true := by
  unfold opC at h
  rw [Bool.and_eq_true] at h
  exact h.2
theorem TabIn.grow {wr W6 w7 : World} {g base : Nat} {e : TypeId} {size n : Nat} {v : Value} {xs : List Value} {t : List Int} (hT : TabIn wr g t) (ho : wr.ownsRow base e size v n xs) (hg : g < base) (h6 : Below wr.heap.size wr W6) (hgr : W6.grownBy w7 v.ownBlock) : TabIn w7 g t := fun j hj =>
  hgr.cell (cell_keep (hT j hj) h6) (fun e => by have := (ho.lt _ e.symm).1; simp only at this; omega)
theorem below_grow {w wr W6 w7 : World} {base : Nat} {e : TypeId} {size n : Nat} {v : Value} {xs : List Value} (hB : Below w.heap.size w wr) (ho : wr.ownsRow base e size v n xs) (hle : w.heap.size ≤ base) (h6 : Below wr.heap.size wr W6) (hgr : W6.grownBy w7 v.ownBlock) : Below w.heap.size w w7 :=
  (btrans hB h6).grown hgr (Nat.le_trans hB.size h6.size) (fun k hk => by have := (ho.lt k hk).1; omega)
theorem u64_info : ∃ i z, Try.prog.info? 85 = some i ∧ i.zero = some z ∧ i.size = 1 ∧ i.bytes = 8 ∧ z.cells.size = 1 := by
  have h : (Try.prog.info? 85).map (fun i => (i.zero.map (·.cells.size), i.size, i.bytes)) = some (some 1, 1, 8) := by kernel_rfl
  cases hi : Try.prog.info? 85 with
  | none => rw [hi] at h; cases h
  | some i =>
    rw [hi] at h
    cases hz : i.zero with
    | none => simp [hz] at h
    | some z =>
      simp [hz] at h
      exact ⟨i, z, rfl, hz, h.2.1, h.2.2, h.1⟩
abbrev u64V (l : List Int) : List Value := l.map (Value.int .u64)
/-- The words so far are the call's own row. -/
def OwnW (w : World) (base : Nat) (v : Value) (l : List Int) : Prop := w.ownsRow base 85 1 v l.length (u64V l)
theorem tabE_iff0 {t : List Int} (h : tabE t = 0) : tabOk t = true := by
  unfold tabE at h
  cases hh : tabOk t
  · rw [hh] at h; simp at h
  · rfl
theorem own_base {w : World} {b b2 : Nat} {v : Value} {l : List Int} (h : OwnW w b v l) (hb : b2 ≤ b) : OwnW w b2 v l := by
  refine ⟨h.1, ?_⟩
  rcases h.2 with hn | ⟨g, cap, cur, hv, hbg, rest⟩
  · exact .inl hn
  · exact .inr ⟨g, cap, cur, hv, by omega, rest⟩
def EncP (l : List (Nat → List Op)) (t : List Int) (w : World) (e : Ending) (w' : World) : Prop :=
  ∃ v : Value, e = .returned (.tuple #[v, .int .i64 (encE l t)]) ∧ Below w.heap.size w w' ∧ (encE l t ≠ 0 → v = .slice none 0 0) ∧ (encE l t = 0 → OwnW w' w.heap.size v (encL t l))
end Go.Proofs.Ytcibkoodnfkogaa
