/- Maps of places: what is busy. -/
import Derived.Test.YtcibkoodnfkogaaTab
import Derived.Maps.Own
import Derived.Maps.OwnOps
import Derived.Maps.RangeWalk
import Derived.Maps.Ext
import Derived.DeepKeys4
namespace Go.Proofs.Ytcibkoodnfkogaa
open Go.RowKit Go.Maps
set_option linter.unusedVariables false
set_option linter.unusedSimpArgs false
theorem laidMaps : laidOutB Try.prog = true := by kernel_rfl
theorem spot_law : WideMaps.KeyLaw Try.prog 116 := deep_law_laid laidMaps (m := 2) (by omega) (of_decide_eq_true (by kernel_rfl)) (by kernel_rfl) (by kernel_rfl)
theorem spot_keyed : Keyed Try.prog 116 := Keyed.of_law spot_law
/-- A place as a value. -/
abbrev spV (c k : Int) : Value := .agg #[.int .i64 c, .int .i64 k]
def okI (x : Int) : Prop := -9223372036854775808 ≤ x ∧ x ≤ 9223372036854775807
theorem okI_wf {x : Int} (h : okI x) : (Lit.int .i64 x).wf = true := by
  have e : (Lit.int .i64 x).wf = (decide (-9223372036854775808 ≤ x) && decide (x ≤ 9223372036854775807)) := by rfl
  rw [e, decide_eq_true h.1, decide_eq_true h.2]
  rfl
def klA (c k : Int) : Lit := .string (keyBytes [.int .i64 c, .int .i64 k])
noncomputable def spotFs : Array Field := match Try.prog.underlying 116 with | some (.struct fs) => fs | _ => #[]
noncomputable def spotF0 : Field := spotFs[0]!
noncomputable def spotF1 : Field := spotFs[1]!
theorem spot_under : Try.prog.underlying 116 = some (.struct spotFs) := by kernel_rfl
theorem spot_fs : spotFs.toList = [spotF0, spotF1] := by kernel_rfl
theorem spot_lit {x : Int} (h : okI x) (d : Nat) : Try.prog.keyLits (d + 1) 3 [.int .i64 x] = some [.int .i64 x] := by
  have hu : Try.prog.underlying 3 = some (.int .i64) := by kernel_rfl
  have hw := okI_wf h
  simp only [Program.keyLits, hu, hw, and_self, if_true]
theorem spot_key {c k : Int} (hc : okI c) (hk : okI k) : keyOf Try.prog 116 (spV c k) = some (klA c k) := by
  have h1 : Try.prog.keyType 116 = true := by kernel_rfl
  have h2 : (spV c k).formed Try.prog 116 = true := by kernel_rfl
  have hl : (spV c k).cells.toList = [.int .i64 c, .int .i64 k] := rfl
  have t0 : spotF0.type = 3 := by kernel_rfl
  have t1 : spotF1.type = 3 := by kernel_rfl
  have o0 : spotF0.offset = 0 := by kernel_rfl
  have o1 : spotF1.offset = 1 := by kernel_rfl
  have c0 : Try.prog.cellsOf 3 = 1 := by kernel_rfl
  have c1 : Try.prog.cellsOf 116 = 2 := by kernel_rfl
  have n0 : spotFs.all (fun f => f.name != "_") = true := by kernel_rfl
  obtain ⟨d, hd⟩ : ∃ d, Try.prog.types.size + 1 = d + 1 + 1 := ⟨Try.prog.types.size - 1, by
    have : 0 < Try.prog.types.size := of_decide_eq_true (by kernel_rfl)
    omega⟩
  have hL : Try.prog.keyLits (d + 1 + 1) 116 [.int .i64 c, .int .i64 k] = some [.int .i64 c, .int .i64 k] := by
    unfold Program.keyLits
    simp only [spot_under, c1, n0, List.length_cons, List.length_nil, and_self, if_true, spot_fs]
    simp [t0, t1, o0, o1, c0, spot_lit hc, spot_lit hk]
  unfold keyOf
  simp only [spot_under, h1, h2, Bool.and_self, if_true, hl, hd, hL, Option.map_some]
  rfl
theorem klA_inj {c k c' k' : Int} (hc : okI c) (hk : okI k) (hc' : okI c') (hk' : okI k') (h : klA c k = klA c' k') : c = c' ∧ k = k' := by
  have := spot_keyed.inj (spot_key hc hk) (h ▸ spot_key hc' hk')
  simpa using this
theorem klA_lit (c k : Int) : WideAt.IsKeyLit (klA c k) := by trivial
/-- How an entry reads. -/
def elR (v : Value) : Option (DataW Nat × List MemPlace) := match v with
  | .agg a => (match a.toList with | [.int .i64 x] => some (.lit (.int .i64 x), []) | _ => none)
  | _ => none
theorem elR_mk (x : Int) : elR (.agg #[.int .i64 x]) = some (.lit (.int .i64 x), []) := rfl
theorem elR_inv {v : Value} {y : DataW Nat × List MemPlace} (h : elR v = some y) : ∃ x, v = .agg #[.int .i64 x] ∧ y = (.lit (.int .i64 x), []) := by
  unfold elR at h
  split at h
  · rename_i a
    split at h
    · rename_i x hx
      cases h
      refine ⟨x, ?_, rfl⟩
      congr 1
      exact Array.toList_inj.1 hx
    · cases h
  · cases h
/-- Block b is a map of at most n places, which reads as F. -/
def MapF (w : World) (b n : Nat) (F : Int → Int → Int) (D : DataW Nat) : Prop :=
  w.ownsMap Try.prog 116 elR b n D ∧ ∀ c k, okI c → okI k → D.atKey (klA c k) (.lit (.int .i64 0)) = .lit (.int .i64 (F c k))
theorem MapF.keep {w w' : World} {b n : Nat} {F : Int → Int → Int} {D : DataW Nat} {row : Option Nat} (h : MapF w b n F D) (hg : w.grownBy w' row) (hne : some b ≠ row) : MapF w' b n F D := ⟨h.1.kept hg hne, h.2⟩
theorem spot_map : Try.prog.underlying 111 = some (.map 116 117) := by kernel_rfl
theorem zero_el (w : World) : (zeroValue 117).run Try.prog w = .ok (.agg #[.int .i64 0]) w := by
  simp [go_sem]
theorem MapF.look {w : World} {b n : Nat} {F : Int → Int → Int} {D : DataW Nat} (h : MapF w b n F D) {c k : Int} (hc : okI c) (hk : okI k) :
    (Instr.lookup 111 (.map (some b)) (spV c k) false).run Try.prog w = .ok (.agg #[.int .i64 (F c k)]) w := by
  obtain ⟨v, ps, h1, h2⟩ := h.1.lookup spot_keyed spot_map (zero_el w) (elR_mk 0) (spot_key hc hk)
  rw [h.2 c k hc hk] at h2
  obtain ⟨x, rfl, hx⟩ := elR_inv h2
  cases hx
  exact h1
theorem MapF.put {w : World} {b n : Nat} {F : Int → Int → Int} {D : DataW Nat} (h : MapF w b n F D) {c k : Int} (hc : okI c) (hk : okI k) (hn : n < maxLen) (x : Int) :
    ∃ w', (Instr.mapUpdate 111 (.map (some b)) (spV c k) (.agg #[.int .i64 x])).run Try.prog w = .ok () w' ∧ MapF w' b (n + 1) (fun c' k' => if c' = c ∧ k' = k then x else F c' k') (D.put (klA c k) (.lit (.int .i64 x))) ∧ w.grownBy w' (some b) := by
  obtain ⟨w', h1, h2, h3⟩ := h.1.update spot_keyed spot_map hn (spot_key hc hk) (elR_mk x)
  refine ⟨w', h1, ⟨h2, fun c' k' hc' hk' => ?_⟩, h3⟩
  by_cases he : c' = c ∧ k' = k
  · show _ = DataW.lit (.int .i64 (if c' = c ∧ k' = k then x else F c' k'))
    rw [if_pos he, he.1, he.2]
    obtain ⟨es, e, _⟩ := h.1.entries spot_keyed
    exact atKey_put_same ⟨es, e⟩ (klA_lit _ _) _ _
  · show _ = DataW.lit (.int .i64 (if c' = c ∧ k' = k then x else F c' k'))
    rw [if_neg he, atKey_put_other (fun e => he (klA_inj hc' hk' hc hk e))]
    exact h.2 c' k' hc' hk'
theorem MapF.has {w : World} {b n : Nat} {F : Int → Int → Int} {D : DataW Nat} (h : MapF w b n F D) {c k : Int} (hc : okI c) (hk : okI k) (hF : F c k ≠ 0) : has D (klA c k) = true := by
  cases e : Maps.has D (klA c k)
  · have := (atKey_of_not_has e (.lit (.int .i64 0))).symm.trans (h.2 c k hc hk)
    injection this with this
    injection this with _ this
    exact absurd this.symm hF
  · rfl
theorem MapF.made (w : World) : MapF (w.alloc (.map #[] 0)) w.heap.size 0 (fun _ _ => 0) (.map []) :=
  ⟨World.ownsMap_made w _ _ _, fun c k _ _ => rfl⟩
/-- Every entry is a place, and counts. -/
def Full (F : Int → Int → Int) (D : DataW Nat) : Prop := ∀ c k, okI c → okI k → Maps.has D (klA c k) = true → 0 < F c k
theorem wf_okI {x : Int} (h : (Lit.int .i64 x).wf = true) : okI x := by
  have e : (Lit.int .i64 x).wf = (decide (-9223372036854775808 ≤ x) && decide (x ≤ 9223372036854775807)) := by rfl
  rw [e] at h
  simpa [okI] using h
theorem lit_inv {v : Value} {l : List Lit} {d : Nat} (h : Try.prog.keyLits (d + 1) 3 [v] = some l) : ∃ x, okI x ∧ v = .int .i64 x ∧ l = [.int .i64 x] := by
  have hu : Try.prog.underlying 3 = some (.int .i64) := by kernel_rfl
  cases v <;> simp [Program.keyLits, hu] at h
  obtain ⟨⟨rfl, hw⟩, rfl⟩ := h
  exact ⟨_, wf_okI hw, rfl, rfl⟩
theorem key_inv {key : Value} {kl : Lit} (h : keyOf Try.prog 116 key = some kl) : ∃ c k, okI c ∧ okI k ∧ key = spV c k ∧ kl = klA c k := by
  obtain ⟨ls, hl, hf⟩ : ∃ ls, Try.prog.keyLits (Try.prog.types.size + 1) 116 key.cells.toList = some ls ∧ key.formed Try.prog 116 = true := by
    unfold keyOf at h
    simp only [spot_under] at h
    split at h
    · rename_i hf
      simp only [Bool.and_eq_true] at hf
      cases e : Try.prog.keyLits (Try.prog.types.size + 1) 116 key.cells.toList
      · rw [e] at h
        cases h
      · exact ⟨_, rfl, hf.2⟩
    · cases h
  have t0 : spotF0.type = 3 := by kernel_rfl
  have t1 : spotF1.type = 3 := by kernel_rfl
  have o0 : spotF0.offset = 0 := by kernel_rfl
  have o1 : spotF1.offset = 1 := by kernel_rfl
  have c0 : Try.prog.cellsOf 3 = 1 := by kernel_rfl
  have c1 : Try.prog.cellsOf 116 = 2 := by kernel_rfl
  have n0 : spotFs.all (fun f => f.name != "_") = true := by kernel_rfl
  obtain ⟨d, hd⟩ : ∃ d, Try.prog.types.size + 1 = d + 1 + 1 := ⟨Try.prog.types.size - 1, by
    have : 0 < Try.prog.types.size := of_decide_eq_true (by kernel_rfl)
    omega⟩
  obtain ⟨a, rfl⟩ : ∃ a, key = .agg a := by
    cases key <;> simp [Value.formed, spot_under] at hf
    exact ⟨_, rfl⟩
  have hs : a.toList.length = 2 := by
    simp only [Value.formed, spot_under, c1] at hf
    simpa using hf
  obtain ⟨x, y, hxy⟩ : ∃ x y, a.toList = [x, y] := by
    cases e : a.toList with
    | nil => rw [e] at hs; cases hs
    | cons x r =>
      cases r with
      | nil => rw [e] at hs; cases hs
      | cons y r' =>
        cases r' with
        | nil => exact ⟨x, y, rfl⟩
        | cons z q => rw [e] at hs; simp at hs
  have hc : (Value.agg a).cells.toList = [x, y] := hxy
  rw [hc, hd] at hl
  unfold Program.keyLits at hl
  simp only [spot_under, c1, n0, List.length_cons, List.length_nil, and_self, if_true, spot_fs] at hl
  simp [t0, t1, o0, o1, c0] at hl
  cases ex : Try.prog.keyLits (d + 1) 3 [x] with
  | none => simp [ex] at hl
  | some lx =>
    cases ey : Try.prog.keyLits (d + 1) 3 [y] with
    | none => simp [ex, ey] at hl
    | some ly =>
      obtain ⟨c, hc1, rfl, _⟩ := lit_inv ex
      obtain ⟨k, hk1, rfl, _⟩ := lit_inv ey
      have ha : a = #[.int .i64 c, .int .i64 k] := Array.toList_inj.1 hxy
      subst ha
      refine ⟨c, k, hc1, hk1, rfl, ?_⟩
      have := spot_key hc1 hk1
      rw [this] at h
      exact (Option.some.inj h).symm
end Go.Proofs.Ytcibkoodnfkogaa
