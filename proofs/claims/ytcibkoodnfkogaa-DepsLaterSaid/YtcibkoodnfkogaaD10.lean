/- deps.Of and deps.Loop. -/
import Derived.Test.YtcibkoodnfkogaaD9
namespace Go.Proofs.Ytcibkoodnfkogaa
open Go.RowKit
set_option linter.unusedVariables false
set_option linter.unusedSimpArgs false
/-- Dependences lie from address A on. -/
def EdgesIn (w : World) (A : Option Addr) (l : List Edge) : Prop :=
  l ≠ [] → ∃ g off, A = some ⟨g, off, none⟩ ∧ ∀ (i : Nat) (x : Edge), l[i]? = some x → ∀ (k : Nat) (c : Value), x.cells[k]? = some c → w.cell? ⟨g, off + i * 5 + k, none⟩ = some c
theorem EdgesIn.keep {w w' : World} {A : Option Addr} {l : List Edge} (h : EdgesIn w A l) (hb : Below w.heap.size w w') : EdgesIn w' A l := fun hl => by
  obtain ⟨g, off, ha, hx⟩ := h hl
  exact ⟨g, off, ha, fun i x hi k c hc => cell_keep (hx i x hi k c hc) hb⟩
theorem edgesV_get (l : List Edge) (i : Nat) (x : Edge) (h : l[i]? = some x) (j : Nat) (hj : j < 5) : (edgesV l)[i * 5 + j]? = x.cells[j]? := by
  induction l generalizing i with
  | nil => simp at h
  | cons a l ih =>
    unfold edgesV at *
    rw [List.flatMap_cons]
    rcases i with _ | i
    · simp at h
      subst h
      rw [List.getElem?_append_left (by show _ < 5; omega)]
      simp
    · rw [List.getElem?_append_right (by show 5 ≤ _; omega)]
      rw [show (i + 1) * 5 + j - a.cells.length = i * 5 + j by show _ - 5 = _; omega]
      exact ih i (by simpa using h)
theorem own_edges {w : World} {base : Nat} {e : TypeId} {v : Value} {l : List Edge} (h : w.ownsRow base e 5 v l.length (edgesV l)) : ∃ (A : Option Addr) (c : Nat), v = .slice A l.length c ∧ l.length ≤ c ∧ EdgesIn w A l := by
  rcases h.2 with ⟨he, h0⟩ | ⟨k, cap, cur, he, hbg, hk, hrest⟩
  · have : l = [] := List.eq_nil_of_length_eq_zero h0
    subst this
    exact ⟨none, 0, he, Nat.le_refl _, fun h => absurd rfl h⟩
  · subst he
    refine ⟨_, cap, rfl, ?_, fun _ => ⟨k, 0, rfl, fun i x hi j c hc => ?_⟩⟩
    · exact hrest.1
    · have hj : j < 5 := (List.getElem?_eq_some_iff.1 hc).1
      have hil := (List.getElem?_eq_some_iff.1 hi).1
      rw [Nat.zero_add, h.cellAt _ (by omega), edgesV_get l i x hi j hj, hc]
/-- Dependences and an error are answered. -/
def EdgeP (l : List Edge) (er : Int) (w : World) (e : Ending) (w' : World) : Prop :=
  ∃ (A : Option Addr) (c : Nat), e = .returned (.tuple #[.slice A l.length c, .int .i64 er]) ∧ EdgesIn w' A l ∧ Below w.heap.size w w'
theorem lat_all {l : List Op} {t : List Int} (h : depE l t = 0) : l.length ≤ 1024 ∧ ∀ c : Nat, c < 4 → 1 ≤ t[4 + c]?.getD 0 ∧ t[4 + c]?.getD 0 ≤ 8 := by
  unfold depE at h
  cases ht : tabOk t with
  | false => rw [ht] at h; simp at h
  | true =>
    rw [ht, if_pos rfl] at h
    by_cases hl : 1024 < l.length
    · rw [if_pos hl] at h; omega
    · exact ⟨by omega, fun c hc => lat_bd ht c hc⟩
set_option maxHeartbeats 4000000 in
set_option maxRecDepth 100000 in
theorem of_dep (A : Option Addr) (l : List Op) (cap : Nat) (t : List Int) (w : World) (HL : OpsIn w A l) (hwf : ∀ o ∈ l, o.wf) (hm : l.length ≤ 1000000000000000000) (hcap : l.length ≤ cap) (ht : t.length = 13) :
    Calls Try.prog 55 #[.slice A l.length cap, tabV t] w (EdgeP (ofE l t) (depE l t) w) := by
  have CR := hid (fun (w' : World) (hb : Below w.heap.size w w') => right_any A l cap t w' (HL.keep hb) hwf hm ht)
  have CN := hid (fun (w' : World) (hb : Below w.heap.size w w') (h : l.length ≤ 1024) => new_any A l cap t w' (HL.keep hb) hwf h ht)
  have CO := hid (fun (w0 w1 : World) (hb : Below w.heap.size w w0) (g : Nat) (F : FindAt w0 w1 w1.heap.size g A cap l t (.slice none 0 0) []) (h : l.length ≤ 1024) (hl : ∀ c : Nat, c < 4 → 1 ≤ t[4 + c]?.getD 0 ∧ t[4 + c]?.getD 0 ≤ 8) => once_any F (HL.keep hb) hwf h hcap (by simp) hl)
  have LA := hid (fun (h : depE l t = 0) => lat_all h)
  clear HL hwf hm hcap
  have EQ : Hid (ofE l t = if depE l t == 0 then onceE l t l.length else []) := hid rfl
  generalize ofE l t = E at EQ ⊢
  obtain ⟨t0, t1, t2, t3, t4, t5, t6, t7, t8, t9, t10, t11, t12, rfl⟩ := tab13 ht
  unfold tabV at CR CN ⊢
  simp only [List.map_cons, List.map_nil] at CR CN ⊢
  generalize hT : [t0, t1, t2, t3, t4, t5, t6, t7, t8, t9, t10, t11, t12] = t at CR CN CO LA EQ ⊢
  clear ht hT
  obtain ⟨d, hd⟩ : ∃ d, depE l t = d := ⟨_, rfl⟩
  rw [hd] at CR EQ LA ⊢
  cases hd0 : (d == 0) with
  | false =>
    have hd1 : (d != 0) = true := by unfold bne; rw [hd0]; rfl
    have EN : Hid (E = []) := hid (by rw [EQ.out, hd0]; rfl)
    go_enter Try.func55, Try.ntmps55
    go_wp2_with fail
    with_reducible refine (CR.out _ ?_).mono ?_
    · ((with_reducible (repeat (first | assumption | exact Below.refl _ _ | refine bset ?_ (Nat.le_refl _) _ | refine balloc ?_ _ | refine bdrew ?_ | refine bdrewN ?_ _))); done)
    rintro e w1 ⟨rfl, hb⟩
    have B1 := hid (btrans (a := w) (by ((with_reducible (repeat (first | assumption | exact Below.refl _ _ | refine bset ?_ (Nat.le_refl _) _ | refine balloc ?_ _ | refine bdrew ?_ | refine bdrewN ?_ _))); done)) hb)
    clear hb
    go_wp2
    go_ret2
    refine ⟨none, 0, ?_, ?_, B1.out⟩
    · rw [EN.out]; rfl
    · rw [EN.out]; exact fun h => absurd rfl h
  | true =>
    obtain rfl : d = 0 := eq_of_beq hd0
    obtain ⟨hl, hlat⟩ := LA.out rfl
    have HLAT := hid hlat
    have EN : Hid (E = onceE l t l.length) := hid (by rw [EQ.out]; rfl)
    clear hlat hd0 hd
    go_enter Try.func55, Try.ntmps55
    go_wp2_with fail
    with_reducible refine (CR.out _ ?_).mono ?_
    · ((with_reducible (repeat (first | assumption | exact Below.refl _ _ | refine bset ?_ (Nat.le_refl _) _ | refine balloc ?_ _ | refine bdrew ?_ | refine bdrewN ?_ _))); done)
    rintro e w1 ⟨rfl, hb⟩
    have B1 := hid (btrans (a := w) (by ((with_reducible (repeat (first | assumption | exact Below.refl _ _ | refine bset ?_ (Nat.le_refl _) _ | refine balloc ?_ _ | refine bdrew ?_ | refine bdrewN ?_ _))); done)) hb)
    obtain ⟨hc, hf⟩ := bcell hb
    have hz := bsize hb
    clear hb
    go_wp2_with fail
    with_reducible refine (CN.out _ B1.out hl).mono ?_
    rintro e w2 ⟨rfl, hF⟩
    have F := hid hF
    clear hF
    go_wp2_with fail
    with_reducible refine (CO.out _ _ B1.out _ F.out hl HLAT.out).mono ?_
    rintro e w3 ⟨v3, rfl, hF3, _⟩
    have z16 := hF3.cv
    have B3 := hid (btrans B1.out hF3.bel)
    have OW := hid hF3.own
    clear hF3 F
    obtain ⟨A3, c3, rfl, _, hE⟩ := own_edges OW.out
    have HE := hid hE
    clear hE OW
    rw [List.nil_append] at z16 HE
    rw [← EN.out] at z16 HE
    go_wp2
    go_ret2
    exact ⟨A3, c3, rfl, HE.out, B3.out⟩
set_option maxHeartbeats 4000000 in
set_option maxRecDepth 100000 in
theorem loop_dep (A : Option Addr) (l : List Op) (cap : Nat) (t : List Int) (w : World) (HL : OpsIn w A l) (hwf : ∀ o ∈ l, o.wf) (hm : l.length ≤ 1000000000000000000) (hcap : l.length ≤ cap) (ht : t.length = 13) :
    Calls Try.prog 57 #[.slice A l.length cap, tabV t] w (EdgeP (loopE l t) (depE l t) w) := by
  have CR := hid (fun (w' : World) (hb : Below w.heap.size w w') => right_any A l cap t w' (HL.keep hb) hwf hm ht)
  have CN := hid (fun (w' : World) (hb : Below w.heap.size w w') (h : l.length ≤ 1024) => new_any A l cap t w' (HL.keep hb) hwf h ht)
  have CO := hid (fun (w0 w1 : World) (hb : Below w.heap.size w w0) (g : Nat) (F : FindAt w0 w1 w1.heap.size g A cap l t (.slice none 0 0) []) (h : l.length ≤ 1024) (hl : ∀ c : Nat, c < 4 → 1 ≤ t[4 + c]?.getD 0 ∧ t[4 + c]?.getD 0 ≤ 8) => once_any F (HL.keep hb) hwf h hcap (by simp) hl)
  have CA := hid (fun (w0 w1 : World) (hb : Below w.heap.size w w0) (B g : Nat) (v : Value) (F : FindAt w0 w1 B g A cap l t v (onceE l t l.length)) (h : l.length ≤ 1024) (hl : ∀ c : Nat, c < 4 → 1 ≤ t[4 + c]?.getD 0 ∧ t[4 + c]?.getD 0 ≤ 8) => around_any F (HL.keep hb) hwf h (by have := onceE_len l t l.length h; omega) hl)
  have LA := hid (fun (h : depE l t = 0) => lat_all h)
  clear HL hwf hm hcap
  have EQ : Hid (loopE l t = if depE l t == 0 then onceE l t l.length ++ arndE l t l.length else []) := hid rfl
  generalize loopE l t = E at EQ ⊢
  obtain ⟨t0, t1, t2, t3, t4, t5, t6, t7, t8, t9, t10, t11, t12, rfl⟩ := tab13 ht
  unfold tabV at CR CN ⊢
  simp only [List.map_cons, List.map_nil] at CR CN ⊢
  generalize hT : [t0, t1, t2, t3, t4, t5, t6, t7, t8, t9, t10, t11, t12] = t at CR CN CO CA LA EQ ⊢
  clear ht hT
  obtain ⟨d, hd⟩ : ∃ d, depE l t = d := ⟨_, rfl⟩
  rw [hd] at CR EQ LA ⊢
  cases hd0 : (d == 0) with
  | false =>
    have hd1 : (d != 0) = true := by unfold bne; rw [hd0]; rfl
    have EN : Hid (E = []) := hid (by rw [EQ.out, hd0]; rfl)
    go_enter Try.func57, Try.ntmps57
    go_wp2_with fail
    with_reducible refine (CR.out _ ?_).mono ?_
    · ((with_reducible (repeat (first | assumption | exact Below.refl _ _ | refine bset ?_ (Nat.le_refl _) _ | refine balloc ?_ _ | refine bdrew ?_ | refine bdrewN ?_ _))); done)
    rintro e w1 ⟨rfl, hb⟩
    have B1 := hid (btrans (a := w) (by ((with_reducible (repeat (first | assumption | exact Below.refl _ _ | refine bset ?_ (Nat.le_refl _) _ | refine balloc ?_ _ | refine bdrew ?_ | refine bdrewN ?_ _))); done)) hb)
    clear hb
    go_wp2
    go_ret2
    refine ⟨none, 0, ?_, ?_, B1.out⟩
    · rw [EN.out]; rfl
    · rw [EN.out]; exact fun h => absurd rfl h
  | true =>
    obtain rfl : d = 0 := eq_of_beq hd0
    obtain ⟨hl, hlat⟩ := LA.out rfl
    have HLAT := hid hlat
    have EN : Hid (E = onceE l t l.length ++ arndE l t l.length) := hid (by rw [EQ.out]; rfl)
    clear hlat hd0 hd
    go_enter Try.func57, Try.ntmps57
    go_wp2_with fail
    with_reducible refine (CR.out _ ?_).mono ?_
    · ((with_reducible (repeat (first | assumption | exact Below.refl _ _ | refine bset ?_ (Nat.le_refl _) _ | refine balloc ?_ _ | refine bdrew ?_ | refine bdrewN ?_ _))); done)
    rintro e w1 ⟨rfl, hb⟩
    have B1 := hid (btrans (a := w) (by ((with_reducible (repeat (first | assumption | exact Below.refl _ _ | refine bset ?_ (Nat.le_refl _) _ | refine balloc ?_ _ | refine bdrew ?_ | refine bdrewN ?_ _))); done)) hb)
    obtain ⟨hc, hf⟩ := bcell hb
    have hz := bsize hb
    clear hb
    go_wp2_with fail
    with_reducible refine (CN.out _ B1.out hl).mono ?_
    rintro e w2 ⟨rfl, hF⟩
    have F := hid hF
    clear hF
    go_wp2_with fail
    with_reducible refine (CO.out _ _ B1.out _ F.out hl HLAT.out).mono ?_
    rintro e w3 ⟨v3, rfl, hF3, _⟩
    rw [List.nil_append] at hF3
    have F3 := hid hF3
    clear hF3 F
    go_wp2_with fail
    with_reducible refine (CA.out _ _ B1.out _ _ _ F3.out hl HLAT.out).mono ?_
    rintro e w4 ⟨v4, rfl, hF4, _⟩
    have z16 := hF4.cv
    have B3 := hid (btrans B1.out hF4.bel)
    have OW := hid hF4.own
    clear hF4 F3
    obtain ⟨A3, c3, rfl, _, hE⟩ := own_edges OW.out
    have HE := hid hE
    clear hE OW
    rw [← EN.out] at z16 HE
    go_wp2
    go_ret2
    exact ⟨A3, c3, rfl, HE.out, B3.out⟩
end Go.Proofs.Ytcibkoodnfkogaa
