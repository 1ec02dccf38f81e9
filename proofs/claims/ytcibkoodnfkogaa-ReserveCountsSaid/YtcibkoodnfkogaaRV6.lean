/- It is taken. -/
import Derived.Test.YtcibkoodnfkogaaRV5
namespace Go.Proofs.Ytcibkoodnfkogaa
open Go.RowKit Go.Maps
set_option linter.unusedVariables false
set_option linter.unusedSimpArgs false
def takeG (t : List Int) (tn : Int → Int) (G : Int → Int → Int) (cl cy : Int) : Int → Int → Int := fun c k => G c k + moreC tn cl (tn cy) (t[8 + cl.toNat]?.getD 0).toNat c k
def TakeR (t : List Int) (tn : Int → Int) (any : Bool) (G : Int → Int → Int) (cl cy : Int) (b nb : Nat) (w : World) (e : Ending) (w' : World) : Prop :=
  ∃ r : Bool, e = .returned (.bool r) ∧ (r = true ↔ FreeP t tn any G cl cy) ∧ Busy w' b (nb + 4) (if r = true then takeG t tn G cl cy else G) ∧ w.grownBy w' (some b)
theorem owns_size {w : World} {b n : Nat} {D : DataW Nat} (h : w.ownsMap Try.prog 116 elR b n D) : Maps.size D ≤ n := by
  obtain ⟨es, clock, _, _, hs, rfl⟩ := h
  simp only [Maps.size, length_sorted, List.length_map, Array.length_toList]
  exact hs
theorem res_ne {w : World} {p b : Nat} {t : List Int} {F : FuncId} {rcv : Value} {any : Bool} {nb : Nat} {G : Int → Int → Int} (h : ResC w p b t F rcv any) (HB : Busy w b nb G) : p ≠ b := by
  intro e
  obtain ⟨D, ⟨es, clock, hb, _⟩, _⟩ := HB.map
  unfold ResC at h
  rw [e, hb] at h
  cases h
theorem gb_trans {w w' w'' : World} {row row' : Option Nat} (h : w.grownBy w' row) (k : w'.grownBy w'' row') (hr : ∀ j, row' = some j → w.heap.size ≤ j ∨ row = some j) : w.grownBy w'' row := h.andThen k hr
theorem gb_drew {w w' : World} {row : Option Nat} (h : w.grownBy w' row) : w.grownBy w'.drew row := ⟨h.os, h.tape, h.output, h.size, h.block⟩
set_option maxHeartbeats 4000000 in
set_option maxRecDepth 100000 in
theorem take_any {w : World} {p b : Nat} {t : List Int} {F : FuncId} {rcv : Value} {any : Bool} {tn : Int → Int} {nb : Nat} {G : Int → Int → Int} (h : ResC w p b t F rcv any) (ht : t.length = 13) (hok : tabOk t = true) (HT : Turns F rcv tn) (HB : Busy w b nb G) (hnb : nb ≤ 1000000) (cl : Int) (cy : Int) (hcy : inC cy) (hcy1 : -1099511627776 ≤ cy ∧ cy ≤ 1099511627776) (hcy2 : -1099511627776 ≤ tn cy ∧ tn cy ≤ 1099511627776) :
    Calls Try.prog 20 #[.pointer (some ⟨p, 0, none⟩), .int .i64 cl, .int .i64 cy] w (TakeR t tn any G cl cy b nb w) := by
  have CF := hid (free_any h ht hok HT HB cl cy hcy hcy1 hcy2)
  by_cases hfp : FreeP t tn any G cl cy
  rotate_left
  · have hno : Hid (∀ w', Below w.heap.size w w' → TakeR t tn any G cl cy b nb w (.returned (.bool false)) w') := hid (fun w' hb => by
      refine ⟨false, rfl, ⟨fun hh => (by cases hh), fun hh => (hfp hh).elim⟩, ?_, gb_left (gb_of_below hb) _⟩
      have := HB.keep (row := none) (gb_of_below hb) (by simp)
      obtain ⟨D, hD⟩ := this.map
      exact ⟨⟨D, hD.1.mono (by omega), hD.2⟩, this.bd⟩)
    have hfq := hid hfp
    clear h HT HB ht hok hfp
    go_enter Try.func20, Try.ntmps20
    go_wp2_with fail
    with_reducible refine CF.out.mono ?_
    rintro e w1 ⟨r, rfl, hr, hb⟩
    have hr0 : r = false := by cases r; rfl; exact (hfq.out (hr.1 rfl)).elim
    subst hr0
    clear hr
    go_wp2
    go_ret
    exact hno.out _ hb
  obtain ⟨⟨hc0, hc4⟩, hany, hfit⟩ := hfp
  obtain ⟨c, rfl⟩ := Int.eq_ofNat_of_zero_le hc0
  have hcn : c < 4 := by omega
  have hpb := res_ne h HB
  have hplt := h.lt
  obtain ⟨DG, hG⟩ := HB.map
  have hblt : b < w.heap.size := hG.1.lt
  have CM : Hid (∀ w', Below w.heap.size w w' → Calls Try.prog 65 #[.pointer (some ⟨p, 0, none⟩), .int .i64 c, .int .i64 cy] w' fun e w'' =>
      ∃ bm, e = .returned (.map (some bm)) ∧ w'.heap.size ≤ bm ∧ MoreAt w'' bm 4 (moreC tn c (tn cy) (t[8 + c]?.getD 0).toNat) ∧ Below w'.heap.size w' w'') := hid (fun w' hb => more_any (h.keep (row := none) (gb_of_below hb) (by simp)) ht hok HT c hcn cy hcy hcy1 hcy2)
  have r15 := hid (h.map ht)
  have hBb : Hid (∀ k, okI k → 0 ≤ G c k ∧ G c k ≤ 8) := hid (fun k hk => HB.bd c k hc0 hc4 hk)
  have hMb : Hid (∀ k, moreC tn c (tn cy) (t[8 + c]?.getD 0).toNat c k ≤ 4) := hid (fun k => by
    rw [moreC_at]
    have := (moreF_bd tn (tn cy) (t[8 + c]?.getD 0).toNat k).2
    have := busy_bd hok c hcn
    omega)
  have hUb := units_bd hok c hcn
  have hyes : Hid (∀ w' DG', MapF w' b (nb + 4) (takeG t tn G c cy) DG' → w.grownBy w' (some b) → TakeR t tn any G c cy b nb w (.returned (.bool true)) w') := hid (fun w' DG' hD hg => by
    refine ⟨true, rfl, ⟨fun _ => ⟨⟨hc0, hc4⟩, hany, hfit⟩, fun _ => rfl⟩, ⟨⟨DG', hD⟩, fun c' k h0 h4 hk => ?_⟩, hg⟩
    show 0 ≤ takeG t tn G c cy c' k ∧ takeG t tn G c cy c' k ≤ 8
    unfold takeG moreC
    have hb0 := HB.bd c' k h0 h4 hk
    split
    · rename_i e
      subst e
      have hm := moreF_bd tn (tn cy) (t[8 + (c : Int).toNat]?.getD 0).toNat k
      by_cases hp : 0 < moreF tn (tn cy) (t[8 + (c : Int).toNat]?.getD 0).toNat k
      · have := hfit k hk hp
        simp only [Int.toNat_natCast] at this hm ⊢
        omega
      · omega
    · omega)
  have hFt : Hid (FreeP t tn any G c cy) := hid ⟨⟨hc0, hc4⟩, hany, hfit⟩
  have hTG : Hid (takeG t tn G c cy = fun c' k => G c' k + moreC tn c (tn cy) (t[8 + c]?.getD 0).toNat c' k) := hid (by unfold takeG; simp only [Int.toNat_natCast])
  generalize hn : (t[8 + c]?.getD 0).toNat = n at *
  clear h HT HB ht hok hfit hany
  go_enter Try.func20, Try.ntmps20
  go_wp2_with fail
  with_reducible refine CF.out.mono ?_
  rintro e w1 ⟨r, rfl, hr, hb1⟩
  have hr0 : r = true := hr.2 hFt.out
  subst hr0
  clear hr
  have hG1 := hG.keep (row := none) (gb_of_below hb1) (by simp)
  go_wp2_with fail
  with_reducible refine (CM.out w1 hb1).mono ?_
  rintro e w2 ⟨bm, rfl, hbm, hMA, hb2⟩
  obtain ⟨D, hM, hF⟩ := hMA
  have hG2 := hG1.keep (row := none) (gb_of_below hb2) (by simp)
  have hs1 := hb1.size
  have hs2 := hb2.size
  have hbb : bm ≠ b := by omega
  have B2 := hid (btrans hb1 hb2)
  clear hb1 hb2
  go_wp2_with (first | (at_range; refine wpList_range_own _ rfl _ 111 rfl 116 117 spot_keyed spot_map _ bm 4 _ rfl hM.1 ?_; intro w0 hrg0 hg0 hs0) | go_in)
  go_frame
  have hsz := owns_size hM.1
  have hG0 := hG2.keep hg0 (by simp)
  have B0 := hid (gb_trans (gb_left (gb_of_below B2.out) (some b)) hg0 (fun j hj => by cases hj))
  go_loopw [20] (fun _ wr => ∃ (left : Lit → Bool) (cnt : Nat) (DG' : DataW Nat), wr.ranges Try.prog 116 elR bm w2.heap.size 4 D left cnt ∧ cnt ≤ 4 ∧ Hid (MapF wr b (nb + (4 - cnt)) (fun c' k => if left (klA c' k) = true then G c' k else G c' k + moreC tn c (tn cy) n c' k) DG') ∧ Hid (w.grownBy wr (some b))) (fun _ wr => wr.rangeLeft bm w2.heap.size)
  case atStart =>
    refine ⟨_, _, DG, hrg0, hsz, hid (MapF.congr ⟨hG0.1.mono (by omega), hG0.2⟩ (fun c' k hc' hk => ?_)), B0⟩
    show G c' k = if Maps.has D (klA c' k) = true then G c' k else G c' k + moreC tn c (tn cy) n c' k
    split
    · rfl
    · rename_i hh
      by_cases hz : moreC tn c (tn cy) n c' k = 0
      · omega
      · exact (hh (hM.has hc' hk hz)).elim
  case round =>
    obtain ⟨left, cnt, DG', hrg, hcnt, hGr, hB⟩ := hrel
    go_wp2_with (first | (at_next; refine wpList_next_spot rfl _ rfl bm w2.heap.size 4 D _ left cnt rfl hrg hM.2 hF ?_ ?_) | go_in)
    · intro hc0 hl0
      go_wp2
      go_ret
      refine hyes.out _ DG' ?_ hB.out
      rw [hTG.out]
      refine MapF.congr ⟨hGr.out.1.mono (by omega), hGr.out.2⟩ (fun c' k _ _ => ?_)
      show (if left (klA c' k) = true then G c' k else G c' k + moreC tn c (tn cy) n c' k) = _
      rw [hl0, if_neg (by simp)]
    · intro c' k w3 cnt1 hc' hk hl hpos hrg2 hlt hg2 hs2 hen
      obtain rfl := moreC_cl hpos
      go_upto_region 6 with (fail)
      have hGs := MapF.drew (((hGr.out.keep hg2 (by simp; omega)).keep (row := none) (World.grownBy_alloc w3 (Obj.cells #[Value.int IntKind.i64 ↑c, Value.int IntKind.i64 k] 116) none) (by simp)).keep (row := none) (World.grownBy_alloc _ (Obj.cells #[Value.int IntKind.i64 (moreC tn (↑c) (tn cy) n (↑c) k)] 117) none) (by simp))
      have B3 := hid (gb_trans hB.out hg2 (fun j hj => by cases hj; exact Or.inl (by omega)))
      have B4 := hid (gb_trans (gb_trans B3.out (World.grownBy_alloc w3 (Obj.cells #[Value.int IntKind.i64 ↑c, Value.int IntKind.i64 k] 116) none) (fun j hj => by cases hj)) (World.grownBy_alloc _ (Obj.cells #[Value.int IntKind.i64 (moreC tn (↑c) (tn cy) n (↑c) k)] 117) none) (fun j hj => by cases hj))
      have s15 := B4.out.cell r15.out (by simp; omega)
      have hlook := hGs.look hc' hk
      rw [if_pos hl] at hlook
      obtain ⟨w9, hupd, hD9, hg9⟩ := hGs.put hc' hk (by unfold maxLen; omega) (G c k + moreC tn c (tn cy) n c k)
      have hwa : IntKind.i64.wrap (G c k + moreC tn c (tn cy) n c k) = G c k + moreC tn c (tn cy) n c k := by
        have := hBb.out k hk
        have := hMb.out k
        rw [IntKind.wrap_i64]
        omega
      have hfld := el_field
      have hrg4 := hid ((ranges_drew ((hrg2.alloc (Obj.cells #[Value.int IntKind.i64 ↑c, Value.int IntKind.i64 k] 116)).alloc (Obj.cells #[Value.int IntKind.i64 (moreC tn (↑c) (tn cy) n (↑c) k)] 117))).kept hg9 (by intro e; cases e; exact hbb rfl) (by intro e; cases e; omega))
      have B9 := hid (gb_trans (gb_drew B4.out) hg9 (fun j hj => by cases hj; exact Or.inr rfl))
      have M9 : Hid (MapF w9 b (nb + (4 - cnt1)) (fun c1 k1 => if (left (klA c1 k1) && !(klA c1 k1).sameKey (klA c k)) = true then G c1 k1 else G c1 k1 + moreC tn c (tn cy) n c1 k1) (DG'.put (klA c k) (.lit (.int .i64 (G c k + moreC tn c (tn cy) n c k))))) := hid (by
        refine MapF.congr ⟨hD9.1.mono (by omega), hD9.2⟩ (fun c1 k1 hc1 hk1 => ?_)
        show (if c1 = c ∧ k1 = k then G c k + moreC tn c (tn cy) n c k else if left (klA c1 k1) = true then G c1 k1 else G c1 k1 + moreC tn c (tn cy) n c1 k1) = _
        by_cases he : c1 = c ∧ k1 = k
        · obtain ⟨rfl, rfl⟩ := he
          rw [if_pos ⟨rfl, rfl⟩, WideAt.sameKey_self (klA_lit _ _)]
          simp
        · have hne : (klA c1 k1).sameKey (klA c k) = false := sameKey_ne (fun e => he (klA_inj hc1 hk1 hc' hk e))
          rw [if_neg he, hne]
          simp)
      clear hGs B3 B4 hD9 hg9 hg2 hG0 hG1 hG2 hrg0 hg0
      generalize hm : moreC tn c (tn cy) n c k = m at *
      generalize hgk : G c k = gk at *
      go_region
      go_wp2_with fail
      go_roundw
      case rel => exact ⟨_, cnt1, _, hrg4.out, by omega, M9, B9⟩
      case measure =>
        have e1 : World.rangeLeft w9 bm w2.heap.size = cnt1 := hrg4.out.left_eq
        have e2 : World.rangeLeft wr bm w2.heap.size = cnt := hrg.left_eq
        rw [e1, e2]
        exact hlt
end Go.Proofs.Ytcibkoodnfkogaa
