/- Plain law: the order of the taken makes no difference. -/
import Derived.Test.YtcibkoodnfkogaaRV11
namespace Go.Proofs.Ytcibkoodnfkogaa
open Go.RowKit Go.Maps
set_option linter.unusedVariables false
set_option linter.unusedSimpArgs false
/-- What is busy behind a list of asks. -/
def sumG (t : List Int) (tn : Int → Int) : List Ask → Int → Int → Int
  | [], _, _ => 0
  | x :: l, c, k => moreC tn x.c (tn x.k) (t[8 + x.c.toNat]?.getD 0).toNat c k + sumG t tn l c k
theorem moreC_nn (tn : Int → Int) (cl a : Int) (n : Nat) (c k : Int) : 0 ≤ moreC tn cl a n c k := by
  unfold moreC
  split
  · exact (moreF_bd tn a n k).1
  · exact Int.le_refl _
theorem sumG_nn (t : List Int) (tn : Int → Int) : ∀ (l : List Ask) (c k : Int), 0 ≤ sumG t tn l c k
  | [], _, _ => Int.le_refl _
  | x :: l, c, k => by
    have h1 := moreC_nn tn x.c (tn x.k) (t[8 + x.c.toNat]?.getD 0).toNat c k
    have h2 := sumG_nn t tn l c k
    show 0 ≤ _ + _
    omega
theorem sumG_append (t : List Int) (tn : Int → Int) : ∀ (l m : List Ask) (c k : Int), sumG t tn (l ++ m) c k = sumG t tn l c k + sumG t tn m c k
  | [], m, c, k => by show sumG t tn m c k = 0 + _; omega
  | x :: l, m, c, k => by
    have := sumG_append t tn l m c k
    show _ + sumG t tn (l ++ m) c k = _ + _ + _
    omega
theorem sumG_snoc (t : List Int) (tn : Int → Int) (l : List Ask) (x : Ask) : takeG t tn (sumG t tn l) x.c x.k = sumG t tn (l ++ [x]) := by
  funext c k
  rw [sumG_append]
  show _ + _ = _ + (_ + 0)
  omega
theorem sumG_cons (t : List Int) (tn : Int → Int) (l : List Ask) (x : Ask) : takeG t tn (sumG t tn l) x.c x.k = sumG t tn (x :: l) := by
  funext c k
  show _ + _ = _ + _
  exact Int.add_comm _ _
/-- Nowhere more than there are. -/
def CapG (t : List Int) (G : Int → Int → Int) : Prop := ∀ c k, 0 ≤ c → c < 4 → okI k → G c k ≤ t[c.toNat]?.getD 0
theorem cap_nil {t : List Int} {tn : Int → Int} (hok : tabOk t = true) : CapG t (sumG t tn []) := by
  intro c k h0 h4 _
  have := units_bd hok c.toNat (by omega)
  show (0 : Int) ≤ _
  omega
theorem cap_take {t : List Int} {tn : Int → Int} {any : Bool} {G : Int → Int → Int} {cl cy : Int} (h : CapG t G) (hF : FreeP t tn any G cl cy) : CapG t (takeG t tn G cl cy) := by
  intro c k h0 h4 hk
  have hG := h c k h0 h4 hk
  have hM := moreC_nn tn cl (tn cy) (t[8 + cl.toNat]?.getD 0).toNat c k
  show G c k + _ ≤ _
  by_cases hp : 0 < moreC tn cl (tn cy) (t[8 + cl.toNat]?.getD 0).toNat c k
  · obtain rfl := moreC_cl hp
    rw [moreC_at] at hp ⊢
    exact hF.2.2 k hk hp
  · omega
theorem free_rest {t : List Int} {tn : Int → Int} {l : List Ask} (h : CapG t (sumG t tn l)) {i : Nat} (hi : i < l.length) (hc : 0 ≤ l[i].c ∧ l[i].c < 4) : FreeP t tn true (sumG t tn (l.drop (i + 1))) l[i].c l[i].k := by
  refine ⟨hc, Or.inl rfl, fun k hk hp => ?_⟩
  have h1 := h l[i].c k hc.1 hc.2 hk
  have e : l = l.take i ++ l[i] :: l.drop (i + 1) := by rw [← List.drop_eq_getElem_cons hi, List.take_append_drop]
  have h2 : sumG t tn l l[i].c k = sumG t tn (l.take i) l[i].c k + (moreC tn l[i].c (tn l[i].k) (t[8 + l[i].c.toNat]?.getD 0).toNat l[i].c k + sumG t tn (l.drop (i + 1)) l[i].c k) := by
    have := sumG_append t tn (l.take i) (l[i] :: l.drop (i + 1)) l[i].c k
    rw [← e] at this
    exact this
  have h3 := sumG_nn t tn (l.take i) l[i].c k
  rw [moreC_at] at h2
  omega
theorem sumG_drop (t : List Int) (tn : Int → Int) (l : List Ask) (i : Nat) (hi : i < l.length) : takeG t tn (sumG t tn (l.drop (i + 1))) l[i].c l[i].k = sumG t tn (l.drop i) := by
  rw [sumG_cons, ← List.drop_eq_getElem_cons hi]
theorem ring_more (ev k : Int) (h : 0 < ev) : ringT ev (k + ev) = ringT ev k := by
  rw [ringT_eq _ _ h, ringT_eq _ _ h, Int.add_emod_right]
end Go.Proofs.Ytcibkoodnfkogaa
