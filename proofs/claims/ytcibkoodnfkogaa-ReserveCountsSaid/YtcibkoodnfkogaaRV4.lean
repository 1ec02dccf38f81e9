/- Rounds over what an operation takes more; is it free? -/
import Derived.Test.YtcibkoodnfkogaaRV3
namespace Go.Proofs.Ytcibkoodnfkogaa
open Go.RowKit Go.Maps
set_option linter.unusedVariables false
set_option linter.unusedSimpArgs false
theorem MapF.congr {w : World} {b n : Nat} {F F' : Int → Int → Int} {D : DataW Nat} (h : MapF w b n F D) (he : ∀ c k, okI c → okI k → F c k = F' c k) : MapF w b n F' D := ⟨h.1, fun c k hc hk => by rw [h.2 c k hc hk, he c k hc hk]⟩
set_option maxHeartbeats 4000000 in
set_option maxRecDepth 100000 in
theorem wpList_next_spot {w : World} {ops : Array Oper} {rest : List Oper} {o : Oper} {a : Act} {Q : Exit → Act → World → Prop} (hg : o.guard = none) (it : Operand) (hop : o.op = Op.next it false) (bm r n : Nat) (D : DataW Nat) (F : Int → Int → Int) (left : Lit → Bool) (cnt : Nat)
    (hit : a.eval it = .pointer (some ⟨r, 0, none⟩)) (h : w.ranges Try.prog 116 elR bm r n D left cnt) (hD : ∀ c k, okI c → okI k → D.atKey (klA c k) (.lit (.int .i64 0)) = .lit (.int .i64 (F c k))) (hF : Full F D)
    (hDone : cnt = 0 → (∀ kl, left kl = false) → wpList Try.prog ops Q rest (a.put o.dst (.tuple #[.bool false])) w)
    (hMore : ∀ (c k : Int) (w' : World) (cnt' : Nat), okI c → okI k → left (klA c k) = true → 0 < F c k → w'.ranges Try.prog 116 elR bm r n D (fun z => left z && !z.sameKey (klA c k)) cnt' → cnt' < cnt →
      w.grownBy w' (some r) → w'.heap.size = w.heap.size → (Instr.entry (.pointer (some ⟨r, 0, none⟩))).run Try.prog w' = .ok (.tuple #[spV c k, .agg #[.int .i64 (F c k)]]) w' → wpList Try.prog ops Q rest (a.put o.dst (.tuple #[.bool true, spV c k, .agg #[.int .i64 (F c k)]])) w') :
    wpList Try.prog ops Q (o :: rest) a w := by
  refine wpList_next_ranges w hg it hop 116 spot_keyed elR (fun x : Int × Int => spV x.1 x.2) (fun x : Int => .agg #[.int .i64 x]) (fun key kl hk => ?_) (fun v y hv => ?_) bm r n D left cnt hit h hDone ?_
  · obtain ⟨c, k, _, _, e, _⟩ := key_inv hk
    exact ⟨(c, k), e⟩
  · obtain ⟨x, e, _⟩ := elR_inv hv
    exact ⟨x, e⟩
  · rintro ⟨c, k⟩ x kl y w' cnt' hkey hl hR hat hrg hlt hgb hs hen
    obtain ⟨c', k', hc, hk, e, rfl⟩ := key_inv hkey
    injection e with e
    have e1 : c = c' ∧ k = k' := by simpa using e
    obtain ⟨rfl, rfl⟩ := e1
    rw [elR_mk] at hR
    cases hR
    have hx := (hat (.lit (.int .i64 0))).symm.trans (hD c k hc hk)
    have hx2 : x = F c k := by injection hx with hx; injection hx
    subst hx2
    have hh : Maps.has D (klA c k) = true := by
      cases e : Maps.has D (klA c k)
      · have := (atKey_of_not_has e .nil).symm.trans (hat .nil)
        cases this
      · rfl
    exact hMore c k w' cnt' hc hk hl (hF c k hc hk hh) hrg hlt hgb hs hen
/-- What is busy. -/
structure Busy (w : World) (b nb : Nat) (G : Int → Int → Int) : Prop where
  map : ∃ D, MapF w b nb G D
  bd : ∀ c k, 0 ≤ c → c < 4 → okI k → 0 ≤ G c k ∧ G c k ≤ 8
theorem Busy.keep {w w' : World} {b nb : Nat} {G : Int → Int → Int} (h : Busy w b nb G) {row : Option Nat} (hg : w.grownBy w' row) (hne : some b ≠ row) : Busy w' b nb G := by
  obtain ⟨D, hD⟩ := h.map
  exact ⟨⟨D, hD.keep hg hne⟩, h.bd⟩
/-- Is there room for it? -/
def FreeP (t : List Int) (tn : Int → Int) (any : Bool) (G : Int → Int → Int) (cl cy : Int) : Prop :=
  (0 ≤ cl ∧ cl < 4) ∧ (any = true ∨ (0 ≤ cy ∧ cy ≤ 65536)) ∧ ∀ k, okI k → 0 < moreF tn (tn cy) (t[8 + cl.toNat]?.getD 0).toNat k → G cl k + moreF tn (tn cy) (t[8 + cl.toNat]?.getD 0).toNat k ≤ t[cl.toNat]?.getD 0
set_option maxHeartbeats 4000000 in
set_option maxRecDepth 100000 in
theorem free_no {w : World} {p b : Nat} {t : List Int} {F : FuncId} {rcv : Value} {any : Bool} (h : ResC w p b t F rcv any) (ht : t.length = 13) (cl cy : Int) (hn : ¬ ((0 ≤ cl ∧ cl < 4) ∧ (any = true ∨ (0 ≤ cy ∧ cy ≤ 65536)))) :
    Calls Try.prog 19 #[.pointer (some ⟨p, 0, none⟩), .int .i64 cl, .int .i64 cy] w fun e w' => e = .returned (.bool false) ∧ Below w.heap.size w w' := by
  have r14 := h.any ht
  have hp := h.lt
  by_cases h1 : cl < 0
  · go_enter Try.func19, Try.ntmps19
    go_wp2
    go_ret
    exact ⟨rfl, by ((with_reducible (repeat (first | assumption | exact Below.refl _ _ | refine bset ?_ (Nat.le_refl _) _ | refine balloc ?_ _ | refine bdrew ?_ | refine bdrewN ?_ _))); done)⟩
  by_cases h2 : 4 ≤ cl
  · go_enter Try.func19, Try.ntmps19
    go_wp2
    go_ret
    exact ⟨rfl, by ((with_reducible (repeat (first | assumption | exact Below.refl _ _ | refine bset ?_ (Nat.le_refl _) _ | refine balloc ?_ _ | refine bdrew ?_ | refine bdrewN ?_ _))); done)⟩
  have h3 : any = false := by cases any; rfl; exact absurd ⟨⟨by omega, by omega⟩, Or.inl rfl⟩ hn
  subst h3
  by_cases h4 : cy < 0
  · go_enter Try.func19, Try.ntmps19
    go_wp2
    go_ret
    exact ⟨rfl, by ((with_reducible (repeat (first | assumption | exact Below.refl _ _ | refine bset ?_ (Nat.le_refl _) _ | refine balloc ?_ _ | refine bdrew ?_ | refine bdrewN ?_ _))); done)⟩
  have h5 : 65536 < cy := by
    refine Int.not_le.1 fun h5 => hn ⟨⟨by omega, by omega⟩, Or.inr ⟨by omega, h5⟩⟩
  · go_enter Try.func19, Try.ntmps19
    go_wp2
    go_ret
    exact ⟨rfl, by ((with_reducible (repeat (first | assumption | exact Below.refl _ _ | refine bset ?_ (Nat.le_refl _) _ | refine balloc ?_ _ | refine bdrew ?_ | refine bdrewN ?_ _))); done)⟩
end Go.Proofs.Ytcibkoodnfkogaa
