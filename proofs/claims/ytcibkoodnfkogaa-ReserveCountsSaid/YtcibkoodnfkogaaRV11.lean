/- Plain law: a wide ring is a row. -/
import Derived.Test.YtcibkoodnfkogaaRV10
namespace Go.Proofs.Ytcibkoodnfkogaa
open Go.RowKit Go.Maps
set_option linter.unusedVariables false
set_option linter.unusedSimpArgs false
theorem moreF_congr {tn tn' : Int → Int} {a : Int} : ∀ {n : Nat}, (∀ j : Nat, j < n → tn (a + j) = tn' (a + j)) → moreF tn a n = moreF tn' a n
  | 0, _ => rfl
  | n + 1, h => by
    funext k
    show moreF tn a n k + (if tn (a + n) = k then 1 else 0) = moreF tn' a n k + if tn' (a + n) = k then 1 else 0
    rw [moreF_congr (n := n) (fun j hj => h j (by omega)), h n (by omega)]
theorem moreF_id {a : Int} : ∀ {n : Nat} {k : Int}, 0 < moreF (fun x => x) a n k → a ≤ k ∧ k < a + n
  | 0, k, h => by simp [moreF] at h
  | n + 1, k, h => by
    by_cases h0 : 0 < moreF (fun x => x) a n k
    · have := moreF_id h0
      omega
    · have hb := moreF_bd (fun x => x) a n k
      unfold moreF at h
      split at h
      · rename_i e
        have e' : a + n = k := e
        omega
      · omega
theorem ring_id {x : Int} (h : 0 ≤ x ∧ x < 110) : ringT 110 x = x := by
  rw [ringT_eq _ _ (by omega)]
  omega
def Same (Ga Gb : Int → Int → Int) : Prop := ∀ c k, okI c → 0 ≤ k → k ≤ 109 → Ga c k = Gb c k
theorem more_wide {cy : Int} (h : 0 ≤ cy ∧ cy ≤ 99) {n : Nat} (hn : n ≤ 4) : moreF (ringT 110) cy n = moreF (fun x => x) cy n := moreF_congr (fun j hj => ring_id (by omega))
theorem busyN {t : List Int} (hok : tabOk t = true) {cl : Int} (h : 0 ≤ cl ∧ cl < 4) : (t[8 + cl.toNat]?.getD 0).toNat ≤ 4 := by
  have := busy_bd hok cl.toNat (by omega)
  omega
theorem free_wide {t : List Int} (hok : tabOk t = true) {Ga Gb : Int → Int → Int} (hS : Same Ga Gb) {cl cy : Int} (hcl : okI cl) (h : 0 ≤ cy ∧ cy ≤ 99) : FreeP t (ringT 110) true Ga cl cy ↔ FreeP t (fun x => x) false Gb cl cy := by
  unfold FreeP
  rw [ring_id (by omega : 0 ≤ cy ∧ cy < 110)]
  constructor
  · intro hh
    refine ⟨hh.1, Or.inr (by omega), fun k hk hp => ?_⟩
    have hn := busyN hok hh.1
    have hb : cy ≤ k ∧ k < cy + ((t[8 + cl.toNat]?.getD 0).toNat : Nat) := moreF_id hp
    have := hh.2.2 k hk (by rw [more_wide h hn]; exact hp)
    rw [more_wide h hn, hS cl k hcl (by omega) (by omega)] at this
    exact this
  · intro hh
    refine ⟨hh.1, Or.inl rfl, fun k hk hp => ?_⟩
    have hn := busyN hok hh.1
    rw [more_wide h hn] at hp ⊢
    have hb : cy ≤ k ∧ k < cy + ((t[8 + cl.toNat]?.getD 0).toNat : Nat) := moreF_id hp
    rw [hS cl k hcl (by omega) (by omega)]
    exact hh.2.2 k hk hp
theorem take_wide {t : List Int} (hok : tabOk t = true) {Ga Gb : Int → Int → Int} (hS : Same Ga Gb) {cl cy : Int} (h : 0 ≤ cy ∧ cy ≤ 99) (h2 : 0 ≤ cl ∧ cl < 4) : Same (takeG t (ringT 110) Ga cl cy) (takeG t (fun x => x) Gb cl cy) := by
  intro c k hc h0 h1
  unfold takeG moreC
  rw [ring_id (by omega : 0 ≤ cy ∧ cy < 110), more_wide h (busyN hok h2), hS c k hc h0 h1]
/-- Both answer alike, and stay alike. -/
theorem both_wide {t : List Int} (hok : tabOk t = true) {Ga Gb : Int → Int → Int} (hS : Same Ga Gb) {cl cy : Int} (hcl : okI cl) (h : 0 ≤ cy ∧ cy ≤ 99) {r s : Bool} (hr : r = true ↔ FreeP t (ringT 110) true Ga cl cy) (hs : s = true ↔ FreeP t (fun x => x) false Gb cl cy) :
    r = s ∧ Same (if r = true then takeG t (ringT 110) Ga cl cy else Ga) (if s = true then takeG t (fun x => x) Gb cl cy else Gb) := by
  have e : r = true ↔ s = true := by rw [hr, hs]; exact free_wide hok hS hcl h
  have e2 : r = s := by cases r <;> cases s <;> simp_all
  subst e2
  refine ⟨rfl, ?_⟩
  cases r
  · simpa using hS
  · simp only [if_true]
    exact take_wide hok hS h (hs.1 rfl).1
end Go.Proofs.Ytcibkoodnfkogaa
