/- DepsTell: the walk. -/
import Derived.Test.YtcibkoodnfkogaaE7
namespace Go.Proofs.Ytcibkoodnfkogaa
open Go.RowKit
set_option linter.unusedVariables false
set_option linter.unusedSimpArgs false
theorem tell_pack (A : Option Addr) (L : List Op) (n cap : Nat) (t : List Int) (w : World) (hn : L.length = n) (HL : OpsIn w A L) (hwf : ∀ o ∈ L, o.wf) (hm : n ≤ 1000000000000000000) (hcap : n ≤ cap) (ht : t.length = 13) :
    (∀ w' : World, Below w.heap.size w w' → Calls Try.prog 55 #[.slice A n cap, tabV t] w' (EdgeP (ofE L t) (depE L t) w')) ∧
    (∀ w' : World, Below w.heap.size w w' → Calls Try.prog 56 #[.slice A n cap, tabV t] w' (ROfP (ofE L t) (depE L t) w')) ∧
    (∀ w' : World, Below w.heap.size w w' → Calls Try.prog 57 #[.slice A n cap, tabV t] w' (EdgeP (loopE L t) (depE L t) w')) ∧
    (∀ w' : World, Below w.heap.size w w' → Calls Try.prog 58 #[.slice A n cap, tabV t] w' (ROfP (loopE L t) (depE L t) w')) := by
  subst hn
  exact ⟨fun w' hb => of_dep A L cap t w' (HL.keep hb) hwf hm hcap ht, fun w' hb => rof_dep A L cap t w' (HL.keep hb) hwf hm ht, fun w' hb => loop_dep A L cap t w' (HL.keep hb) hwf hm hcap ht, fun w' hb => rloop_dep A L cap t w' (HL.keep hb) hwf hm ht⟩
theorem cut_ops {w : World} {A : Option Addr} {l : List Op} (h : OpsIn w A l) (n : Nat) : OpsIn w A (cut l 0 n) := fun hne => by
  have hl : l ≠ [] := by rintro rfl; exact hne (by simp [cut])
  obtain ⟨g, off, ha, hx⟩ := h hl
  refine ⟨g, off, ha, fun i x hi => hx i x ?_⟩
  unfold cut at hi
  rw [List.drop_zero] at hi
  have h2 : i < n := by have := (List.getElem?_eq_some_iff.1 hi).1; rw [List.length_take] at this; omega
  rw [List.getElem?_take, if_pos h2] at hi
  exact hi
set_option maxHeartbeats 4000000 in
set_option maxRecDepth 100000 in
theorem DepsTell_walk (A : Option Addr) (l : List Op) (cap : Nat) (t : List Int) (w : World) (hl : OpsIn w A l) (hw : ∀ o ∈ l, o.wf) (hc : l.length ≤ cap) (hmx : cap ≤ 8796093022208) (ht : t.length = 13) (_ : ∀ n ∈ t, -9223372036854775808 ≤ n ∧ n ≤ 9223372036854775807) :
    Calls Try.prog 16 #[.slice A l.length cap, tabV t] w fun e w' => e = .returned (.bool true) ∧ Below w.heap.size w w' := by
  have CW := hid (fun w => wakes11_any w)
  obtain ⟨L, n, hn, HLL, hwL, hnc, hways⟩ : ∃ (L : List Op) (n : Nat), L.length = n ∧ OpsIn w A L ∧ (∀ o ∈ L, o.wf) ∧ n ≤ cap ∧ ((200 < l.length ∧ l.length ≤ 1024 ∧ n = 200) ∨ (¬ 200 < l.length ∧ n = l.length) ∨ (200 < l.length ∧ ¬ l.length ≤ 1024 ∧ n = l.length)) := by
    by_cases h1 : 200 < l.length
    · by_cases h2 : l.length ≤ 1024
      · exact ⟨cut l 0 200, 200, by rw [cut_length l 0 200 (by omega) (by omega)], cut_ops hl 200, fun o ho => hw o (cut_mem ho), by omega, .inl ⟨h1, h2, rfl⟩⟩
      · exact ⟨l, _, rfl, hl, hw, hc, .inr (.inr ⟨h1, h2, rfl⟩)⟩
    · exact ⟨l, _, rfl, hl, hw, hc, .inr (.inl ⟨h1, rfl⟩)⟩
  obtain ⟨c1, c2, c3, c4⟩ := tell_pack A L n cap t w hn HLL hwL (by omega) hnc ht
  have hn1 : (ofE L t).length ≤ 1000000000000000000 := by have := ofE_len L t; omega
  have hn2 : (loopE L t).length ≤ 1000000000000000000 := by have := loopE_len L t; omega
  generalize ofE L t = E1 at c1 c2 hn1
  generalize loopE L t = E2 at c3 c4 hn2
  generalize depE L t = d at c1 c2 c3 c4
  clear HLL hwL hl hw hn
  obtain ⟨t0, t1, t2, t3, t4, t5, t6, t7, t8, t9, t10, t11, t12, rfl⟩ := tab13 ht
  clear ht
  unfold tabV at c1 c2 c3 c4 ⊢
  simp only [List.map_cons, List.map_nil] at c1 c2 c3 c4 ⊢
  have C1 := hid c1
  have C2 := hid c2
  have C3 := hid c3
  have C4 := hid c4
  clear c1 c2 c3 c4 L
  rcases hways with ⟨h1, h2, rfl⟩ | ⟨h1, rfl⟩ | ⟨h1, h2, rfl⟩
  · have h1i : (200 : Int) < (l.length : Int) := by omega
    have h2i : (l.length : Int) ≤ (1024 : Int) := by omega
    go_enter Try.func16, Try.ntmps16
    go_wp2_with fail
    with_reducible refine (C1.out _ ?_).mono ?_
    · ((with_reducible (repeat (first | assumption | exact Below.refl _ _ | refine bset ?_ (Nat.le_refl _) _ | refine balloc ?_ _ | refine bdrew ?_ | refine bdrewN ?_ _))); done)
    rintro e w1 ⟨A1, c1, rfl, hE1, hb⟩
    have B1 := hid (btrans (a := w) (by ((with_reducible (repeat (first | assumption | exact Below.refl _ _ | refine bset ?_ (Nat.le_refl _) _ | refine balloc ?_ _ | refine bdrew ?_ | refine bdrewN ?_ _))); done)) hb)
    have HE1 := hid hE1
    obtain ⟨hc1, hf1⟩ := bcell hb
    have hz1 := bsize hb
    clear hb hE1
    go_wp2_with fail
    with_reducible refine (C2.out _ B1.out).mono ?_
    rintro e w2 ⟨v2, rfl, hown, _, hb⟩
    obtain ⟨A2, c2, rfl, _, hE2⟩ := own_edges hown
    have B2 := hid (btrans B1.out hb)
    have HE2 := hid hE2
    replace HE1 := hid (HE1.out.keep hb)
    obtain ⟨hc2, hf2⟩ := bcell hb
    have hz2 : w.heap.size < w2.heap.size := Nat.lt_of_lt_of_le hz1 hb.size
    clear hb hE2 hown
    go_wp2_with fail
    with_reducible refine (C3.out _ B2.out).mono ?_
    rintro e w3 ⟨A3, c3, rfl, hE3, hb⟩
    have B3 := hid (btrans B2.out hb)
    have HE3 := hid hE3
    replace HE1 := hid (HE1.out.keep hb)
    replace HE2 := hid (HE2.out.keep hb)
    obtain ⟨hc3, hf3⟩ := bcell hb
    have hz3 : w.heap.size < w3.heap.size := Nat.lt_of_lt_of_le hz2 hb.size
    clear hb hE3
    go_wp2_with fail
    with_reducible refine (C4.out _ B3.out).mono ?_
    rintro e w4 ⟨v4, rfl, hown, _, hb⟩
    obtain ⟨A4, c4, rfl, _, hE4⟩ := own_edges hown
    have B4 := hid (btrans B3.out hb)
    have HE4 := hid hE4
    replace HE1 := hid (HE1.out.keep hb)
    replace HE2 := hid (HE2.out.keep hb)
    replace HE3 := hid (HE3.out.keep hb)
    clear hb hE4 hown hc1 hf1 hc2 hf2 hc3 hf3
    go_wp2_with fail
    with_reducible refine (edges_same _ _ _ _ _ _ HE1.out HE2.out hn1).mono ?_
    rintro e w5 ⟨rfl, n5, rfl⟩
    have B5 := hid (bdrewN B4.out n5)
    replace HE3 := hid (HE3.out.keep (bdrewN (Below.refl _ _) n5))
    replace HE4 := hid (HE4.out.keep (bdrewN (Below.refl _ _) n5))
    go_wp2_with fail
    with_reducible refine (edges_same _ _ _ _ _ _ HE3.out HE4.out hn2).mono ?_
    rintro e w6 ⟨rfl, n6, rfl⟩
    have B6 := hid (bdrewN B4.out (n5 + n6))
    go_wp2_with fail
    with_reducible refine (CW.out _).mono ?_
    rintro e w7 ⟨rfl, hb⟩
    have B7 := hid (btrans B6.out hb)
    clear hb
    go_wp2
    go_ret
    exact ⟨rfl, B7.out⟩
  · have h1i : ¬ (200 : Int) < (l.length : Int) := by omega
    go_enter Try.func16, Try.ntmps16
    go_wp2_with fail
    with_reducible refine (C1.out _ ?_).mono ?_
    · ((with_reducible (repeat (first | assumption | exact Below.refl _ _ | refine bset ?_ (Nat.le_refl _) _ | refine balloc ?_ _ | refine bdrew ?_ | refine bdrewN ?_ _))); done)
    rintro e w1 ⟨A1, c1, rfl, hE1, hb⟩
    have B1 := hid (btrans (a := w) (by ((with_reducible (repeat (first | assumption | exact Below.refl _ _ | refine bset ?_ (Nat.le_refl _) _ | refine balloc ?_ _ | refine bdrew ?_ | refine bdrewN ?_ _))); done)) hb)
    have HE1 := hid hE1
    obtain ⟨hc1, hf1⟩ := bcell hb
    have hz1 := bsize hb
    clear hb hE1
    go_wp2_with fail
    with_reducible refine (C2.out _ B1.out).mono ?_
    rintro e w2 ⟨v2, rfl, hown, _, hb⟩
    obtain ⟨A2, c2, rfl, _, hE2⟩ := own_edges hown
    have B2 := hid (btrans B1.out hb)
    have HE2 := hid hE2
    replace HE1 := hid (HE1.out.keep hb)
    obtain ⟨hc2, hf2⟩ := bcell hb
    have hz2 : w.heap.size < w2.heap.size := Nat.lt_of_lt_of_le hz1 hb.size
    clear hb hE2 hown
    go_wp2_with fail
    with_reducible refine (C3.out _ B2.out).mono ?_
    rintro e w3 ⟨A3, c3, rfl, hE3, hb⟩
    have B3 := hid (btrans B2.out hb)
    have HE3 := hid hE3
    replace HE1 := hid (HE1.out.keep hb)
    replace HE2 := hid (HE2.out.keep hb)
    obtain ⟨hc3, hf3⟩ := bcell hb
    have hz3 : w.heap.size < w3.heap.size := Nat.lt_of_lt_of_le hz2 hb.size
    clear hb hE3
    go_wp2_with fail
    with_reducible refine (C4.out _ B3.out).mono ?_
    rintro e w4 ⟨v4, rfl, hown, _, hb⟩
    obtain ⟨A4, c4, rfl, _, hE4⟩ := own_edges hown
    have B4 := hid (btrans B3.out hb)
    have HE4 := hid hE4
    replace HE1 := hid (HE1.out.keep hb)
    replace HE2 := hid (HE2.out.keep hb)
    replace HE3 := hid (HE3.out.keep hb)
    clear hb hE4 hown hc1 hf1 hc2 hf2 hc3 hf3
    go_wp2_with fail
    with_reducible refine (edges_same _ _ _ _ _ _ HE1.out HE2.out hn1).mono ?_
    rintro e w5 ⟨rfl, n5, rfl⟩
    have B5 := hid (bdrewN B4.out n5)
    replace HE3 := hid (HE3.out.keep (bdrewN (Below.refl _ _) n5))
    replace HE4 := hid (HE4.out.keep (bdrewN (Below.refl _ _) n5))
    go_wp2_with fail
    with_reducible refine (edges_same _ _ _ _ _ _ HE3.out HE4.out hn2).mono ?_
    rintro e w6 ⟨rfl, n6, rfl⟩
    have B6 := hid (bdrewN B4.out (n5 + n6))
    go_wp2_with fail
    with_reducible refine (CW.out _).mono ?_
    rintro e w7 ⟨rfl, hb⟩
    have B7 := hid (btrans B6.out hb)
    clear hb
    go_wp2
    go_ret
    exact ⟨rfl, B7.out⟩
  · have h1i : (200 : Int) < (l.length : Int) := by omega
    have h2i : ¬ (l.length : Int) ≤ (1024 : Int) := by omega
    go_enter Try.func16, Try.ntmps16
    go_wp2_with fail
    with_reducible refine (C1.out _ ?_).mono ?_
    · ((with_reducible (repeat (first | assumption | exact Below.refl _ _ | refine bset ?_ (Nat.le_refl _) _ | refine balloc ?_ _ | refine bdrew ?_ | refine bdrewN ?_ _))); done)
    rintro e w1 ⟨A1, c1, rfl, hE1, hb⟩
    have B1 := hid (btrans (a := w) (by ((with_reducible (repeat (first | assumption | exact Below.refl _ _ | refine bset ?_ (Nat.le_refl _) _ | refine balloc ?_ _ | refine bdrew ?_ | refine bdrewN ?_ _))); done)) hb)
    have HE1 := hid hE1
    obtain ⟨hc1, hf1⟩ := bcell hb
    have hz1 := bsize hb
    clear hb hE1
    go_wp2_with fail
    with_reducible refine (C2.out _ B1.out).mono ?_
    rintro e w2 ⟨v2, rfl, hown, _, hb⟩
    obtain ⟨A2, c2, rfl, _, hE2⟩ := own_edges hown
    have B2 := hid (btrans B1.out hb)
    have HE2 := hid hE2
    replace HE1 := hid (HE1.out.keep hb)
    obtain ⟨hc2, hf2⟩ := bcell hb
    have hz2 : w.heap.size < w2.heap.size := Nat.lt_of_lt_of_le hz1 hb.size
    clear hb hE2 hown
    go_wp2_with fail
    with_reducible refine (C3.out _ B2.out).mono ?_
    rintro e w3 ⟨A3, c3, rfl, hE3, hb⟩
    have B3 := hid (btrans B2.out hb)
    have HE3 := hid hE3
    replace HE1 := hid (HE1.out.keep hb)
    replace HE2 := hid (HE2.out.keep hb)
    obtain ⟨hc3, hf3⟩ := bcell hb
    have hz3 : w.heap.size < w3.heap.size := Nat.lt_of_lt_of_le hz2 hb.size
    clear hb hE3
    go_wp2_with fail
    with_reducible refine (C4.out _ B3.out).mono ?_
    rintro e w4 ⟨v4, rfl, hown, _, hb⟩
    obtain ⟨A4, c4, rfl, _, hE4⟩ := own_edges hown
    have B4 := hid (btrans B3.out hb)
    have HE4 := hid hE4
    replace HE1 := hid (HE1.out.keep hb)
    replace HE2 := hid (HE2.out.keep hb)
    replace HE3 := hid (HE3.out.keep hb)
    clear hb hE4 hown hc1 hf1 hc2 hf2 hc3 hf3
    go_wp2_with fail
    with_reducible refine (edges_same _ _ _ _ _ _ HE1.out HE2.out hn1).mono ?_
    rintro e w5 ⟨rfl, n5, rfl⟩
    have B5 := hid (bdrewN B4.out n5)
    replace HE3 := hid (HE3.out.keep (bdrewN (Below.refl _ _) n5))
    replace HE4 := hid (HE4.out.keep (bdrewN (Below.refl _ _) n5))
    go_wp2_with fail
    with_reducible refine (edges_same _ _ _ _ _ _ HE3.out HE4.out hn2).mono ?_
    rintro e w6 ⟨rfl, n6, rfl⟩
    have B6 := hid (bdrewN B4.out (n5 + n6))
    go_wp2_with fail
    with_reducible refine (CW.out _).mono ?_
    rintro e w7 ⟨rfl, hb⟩
    have B7 := hid (btrans B6.out hb)
    clear hb
    go_wp2
    go_ret
    exact ⟨rfl, B7.out⟩
end Go.Proofs.Ytcibkoodnfkogaa
