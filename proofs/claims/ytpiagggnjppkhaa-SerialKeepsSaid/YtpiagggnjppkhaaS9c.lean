/- What nothing writes stays: what was seen of the operations. -/
import Derived.Test.YtpiagggnjppkhaaW09
namespace Go.Proofs.Ytpiagggnjppkhaa
open Go.RowKit
set_option linter.unusedVariables false
set_option linter.unusedSimpArgs false
theorem trn_below {K g : Nat} {r : Option Nat} {w w' : World} (t : Trn g r w w') (hK : K ≤ w.heap.size) (hg : K ≤ g) (hr : ∀ k, r = some k → K ≤ k) : Below K w w' :=
  ⟨t.os, t.tape, t.output, t.size, fun k hk => t.block k (by omega) (by omega) (fun e => by have := hr k e.symm; omega)⟩
def wrS (W : List Bool) (o : Op) : List Bool := if wrB o then W.set (wrN o).toNat true else W
/-- Of the operations d that were seen: what is not marked is not written. -/
def KK (W : List Bool) (s : Bool) (d : List Op) : Prop :=
  W.length = 32 ∧ (∀ r : Nat, r < 32 → W[r]?.getD false = false → ∀ o ∈ d, o.k ≤ 15 → o.d.toNat ≠ r) ∧ (s = false → ∀ o ∈ d, o.k ≠ 16)
theorem wr_ok {o : Op} (h : opOk o = true) (hw : o.wf) (hk : o.k ≤ 15) : wrB o = true ∧ wrN o = o.d := by
  have h2 : chk o = true := by
    unfold opOk at h
    simp only [Bool.and_eq_true] at h
    exact h.2
  have h1 := (opOk_bd h hw).1
  have hd : (shp o.k).d = true := by
    obtain ⟨k, hk2⟩ : ∃ k : Nat, o.k = k := ⟨o.k.toNat, by omega⟩
    rw [hk2] at hk h1 ⊢
    obtain rfl | rfl | rfl | rfl | rfl | rfl | rfl | rfl | rfl | rfl | rfl | rfl | rfl | rfl | rfl : k = 1 ∨ k = 2 ∨ k = 3 ∨ k = 4 ∨ k = 5 ∨ k = 6 ∨ k = 7 ∨ k = 8 ∨ k = 9 ∨ k = 10 ∨ k = 11 ∨ k = 12 ∨ k = 13 ∨ k = 14 ∨ k = 15 := by omega
    all_goals rfl
  have h3 : wrB o = true := by unfold wrB; rw [hd, h2]; rfl
  exact ⟨h3, by unfold wrN; rw [h3]; rfl⟩
theorem KK.nil : KK (List.replicate 32 false) false [] := ⟨by simp, (fun _ _ _ _ h => by cases h), fun _ _ h => by cases h⟩
theorem KK.snoc {W : List Bool} {s : Bool} {d : List Op} {o : Op} (h : KK W s d) (ho : opOk o = true) (hw : o.wf) : KK (wrS W o) (s || o.k == 16) (d ++ [o]) := by
  obtain ⟨h1, h2, h3⟩ := h
  refine ⟨by unfold wrS; split <;> simp [h1], fun r hr hf x hx hk => ?_, fun hs x hx => ?_⟩
  · rcases List.mem_append.1 hx with hx | hx
    · refine h2 r hr ?_ x hx hk
      unfold wrS at hf
      split at hf
      · by_cases e : (wrN o).toNat = r
        · rw [e, List.getElem?_set_self (by omega)] at hf
          cases hf
        · rwa [List.getElem?_set_ne e] at hf
      · exact hf
    · obtain rfl := List.mem_singleton.1 hx
      obtain ⟨e1, e2⟩ := wr_ok ho hw hk
      intro e
      unfold wrS at hf
      rw [if_pos e1, e2, e, List.getElem?_set_self (by omega)] at hf
      cases hf
  · rw [Bool.or_eq_false_iff] at hs
    rcases List.mem_append.1 hx with hx | hx
    · exact h3 hs.1 x hx
    · obtain rfl := List.mem_singleton.1 hx
      simpa using hs.2
def flatO (l : List Blk) : List Op := l.flatMap fun b => b.ops ++ b.body
theorem flat_mem {l : List Blk} {b : Blk} {o : Op} (hb : b ∈ l) (ho : o ∈ b.ops ∨ o ∈ b.body) : o ∈ flatO l := List.mem_flatMap.2 ⟨b, hb, List.mem_append.2 ho⟩
theorem flat_take {l : List Blk} {i : Nat} (hi : i < l.length) : flatO (l.take (i + 1)) = flatO (l.take i) ++ l[i].ops ++ l[i].body := by
  unfold flatO
  rw [List.take_succ_eq_append_getElem hi, List.flatMap_append, List.append_assoc]
  simp
theorem KK.keepsR {l : List Blk} {W : List Bool} {s : Bool} (h : KK W s (flatO l)) {r : Nat} (hr : r < 32) (hf : W[r]?.getD false = false) : Go.Proofs.Ytpiagggnjppkhaa.keepsR l r := fun _ hb o ho hk => h.2.1 r hr hf o (flat_mem hb ho) hk
theorem KK.keepsM {l : List Blk} {W : List Bool} {s : Bool} (h : KK W s (flatO l)) (hs : s = false) : Go.Proofs.Ytpiagggnjppkhaa.keepsM l := fun _ hb o ho => h.2.2 hs o (flat_mem hb ho)
/-- The array of what is written. -/
def wrF (W : List Bool) (k : Nat) : Value := .bool (W[k]?.getD false)
theorem wr_set {W : List Bool} {o : Op} (h : W.length = 32) (hb : wrB o = true) (k : Nat) (hk : k < 32) : (if k = (wrN o).toNat then Value.bool true else wrF W k) = wrF (wrS W o) k := by
  unfold wrF wrS
  rw [if_pos hb]
  split
  · next e => rw [← e, List.getElem?_set_self (by omega)]; rfl
  · next e => rw [List.getElem?_set_ne (Ne.symm e)]
theorem wrN_bd {o : Op} (ho : opOk o = true) (hw : o.wf) : 0 ≤ wrN o ∧ wrN o < 32 := by
  have := opOk_bd ho hw
  unfold wrN
  split <;> omega
/-- What holds while the operations are looked at. -/
structure KeepAt (w0 w : World) (g : Nat) (W : List Bool) (s : Bool) (d : List Op) : Prop where
  arr : FnAt w g 46 32 (wrF W)
  trn : Trn g none w0 w
  kk : KK W s d
theorem KeepAt.below {w0 w w' : World} {g : Nat} {W : List Bool} {s : Bool} {d : List Op} (h : KeepAt w0 w g W s d) (hb : Below w.heap.size w w') : KeepAt w0 w' g W s d := ⟨h.arr.keep hb, h.trn.below hb, h.kk⟩
theorem KeepAt.same {w0 w : World} {g : Nat} {W W' : List Bool} {s s' : Bool} {d d' : List Op} (h : KeepAt w0 w g W s d) (hW : W' = W) (hk : KK W' s' d') : KeepAt w0 w g W' s' d' := ⟨by rw [hW]; exact h.arr, h.trn, hk⟩
theorem KeepAt.put {w0 w : World} {g : Nat} {W : List Bool} {s s' : Bool} {d d' : List Op} {o : Op} (h : KeepAt w0 w g W s d) (hb : wrB o = true) (hk : KK (wrS W o) s' d') : KeepAt w0 (w.setCell ⟨g, (wrN o).toNat, none⟩ (.bool true)) g (wrS W o) s' d' :=
  ⟨(h.arr.set _ _).congr fun k hk2 => wr_set h.kk.1 hb k hk2, h.trn.set _ _, hk⟩
end Go.Proofs.Ytpiagggnjppkhaa
