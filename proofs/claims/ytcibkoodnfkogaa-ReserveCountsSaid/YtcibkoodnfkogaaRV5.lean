/- Is it free? -/
import Derived.Test.YtcibkoodnfkogaaRV4
namespace Go.Proofs.Ytcibkoodnfkogaa
open Go.RowKit Go.Maps
set_option linter.unusedVariables false
set_option linter.unusedSimpArgs false
theorem moreC_cl {tn : Int → Int} {cl a : Int} {n : Nat} {c k : Int} (h : 0 < moreC tn cl a n c k) : c = cl := by
  unfold moreC at h
  split at h
  · assumption
  · omega
theorem moreC_at (tn : Int → Int) (cl a : Int) (n : Nat) (k : Int) : moreC tn cl a n cl k = moreF tn a n k := by unfold moreC; rw [if_pos rfl]
theorem gb_left {w w' : World} (h : w.grownBy w' none) (row : Option Nat) : w.grownBy w' row := ⟨h.os, h.tape, h.output, h.size, fun k hk _ => h.block k hk (by simp)⟩
theorem ranges_drew {w : World} {bm r n : Nat} {D : DataW Nat} {left : Lit → Bool} {cnt : Nat} (h : w.ranges Try.prog 116 elR bm r n D left cnt) : w.drew.ranges Try.prog 116 elR bm r n D left cnt := h
def FreeR (t : List Int) (tn : Int → Int) (any : Bool) (G : Int → Int → Int) (cl cy : Int) (w : World) (e : Ending) (w' : World) : Prop := ∃ r : Bool, e = .returned (.bool r) ∧ (r = true ↔ FreeP t tn any G cl cy) ∧ Below w.heap.size w w'
set_option maxHeartbeats 4000000 in
set_option maxRecDepth 100000 in
theorem free_any {w : World} {p b : Nat} {t : List Int} {F : FuncId} {rcv : Value} {any : Bool} {tn : Int → Int} {nb : Nat} {G : Int → Int → Int} (h : ResC w p b t F rcv any) (ht : t.length = 13) (hok : tabOk t = true) (HT : Turns F rcv tn) (HB : Busy w b nb G) (cl : Int) (cy : Int) (hcy : inC cy) (hcy1 : -1099511627776 ≤ cy ∧ cy ≤ 1099511627776) (hcy2 : -1099511627776 ≤ tn cy ∧ tn cy ≤ 1099511627776) :
    Calls Try.prog 19 #[.pointer (some ⟨p, 0, none⟩), .int .i64 cl, .int .i64 cy] w (FreeR t tn any G cl cy w) := by
  by_cases hc : (0 ≤ cl ∧ cl < 4) ∧ (any = true ∨ (0 ≤ cy ∧ cy ≤ 65536))
  rotate_left
  · refine (free_no h ht cl cy hc).mono ?_
    rintro e w' ⟨rfl, hb⟩
    exact ⟨false, rfl, ⟨fun hh => (by cases hh), fun hh => (hc ⟨hh.1, hh.2.1⟩).elim⟩, hb⟩
  obtain ⟨⟨hc0, hc4⟩, hany⟩ := hc
  obtain ⟨c, rfl⟩ := Int.eq_ofNat_of_zero_le hc0
  have hcn : c < 4 := by omega
  have hP : Hid (∀ r : Bool, (r = true ↔ ∀ k, okI k → 0 < moreC tn c (tn cy) (t[8 + c]?.getD 0).toNat c k → G c k + moreC tn c (tn cy) (t[8 + c]?.getD 0).toNat c k ≤ t[c]?.getD 0) → (r = true ↔ FreeP t tn any G c cy)) := hid (by
    intro r hr
    rw [hr]
    unfold FreeP
    simp only [Int.toNat_natCast, moreC_at]
    exact ⟨fun hh => ⟨⟨hc0, hc4⟩, hany, hh⟩, fun hh => hh.2.2⟩)
  have CM := hid (more_any h ht hok HT c hcn cy hcy hcy1 hcy2)
  have r14 := h.any ht
  have r15 := hid (h.map ht)
  have rU := hid (h.tab ht c (by omega))
  have hp := h.lt
  have hUb := units_bd hok c hcn
  have hBb : Hid (∀ k, okI k → 0 ≤ G c k ∧ G c k ≤ 8) := hid (fun k hk => HB.bd c k hc0 hc4 hk)
  obtain ⟨DG, hG⟩ := HB.map
  have hblt : b < w.heap.size := hG.1.lt
  have hMb : Hid (∀ k, moreC tn c (tn cy) (t[8 + c]?.getD 0).toNat c k ≤ 4) := hid (fun k => by
    rw [moreC_at]
    have := (moreF_bd tn (tn cy) (t[8 + c]?.getD 0).toNat k).2
    have := busy_bd hok c hcn
    omega)
  generalize hU : t[c]?.getD 0 = U at *
  generalize hn : (t[8 + c]?.getD 0).toNat = n at *
  clear h ht hok HT HB hcy hcy1 hcy2 hU hn
  have hany' : any = true ∨ (any = false ∧ 0 ≤ cy ∧ cy ≤ 65536) := by cases any <;> simp_all
  clear hany
  rcases hany' with rfl | ⟨rfl, h4, h5⟩
  all_goals
    go_enter Try.func19, Try.ntmps19
    go_wp2_with fail
    with_reducible refine CM.out.mono ?_
    rintro e w1 ⟨bm, rfl, hbm, hMA, hb⟩
    obtain ⟨D, hM, hF⟩ := hMA
    go_wp2_with (first | (at_range; refine wpList_range_own _ rfl _ 111 rfl 116 117 spot_keyed spot_map _ bm 4 _ rfl hM.1 ?_; intro w0 hrg0 hg0 hs0) | go_in)
    go_frame
    have B0 := hid (Below.grown (row := none) hb hg0 (hb.size) (fun k hk => by cases hk))
    go_loopw [40] (fun _ wr => ∃ (left : Lit → Bool) (cnt : Nat), wr.ranges Try.prog 116 elR bm w1.heap.size 4 D left cnt ∧ Hid (∀ k, okI k → 0 < moreC tn c (tn cy) n c k → left (klA c k) = false → G c k + moreC tn c (tn cy) n c k ≤ U) ∧ Hid (Below w.heap.size w wr)) (fun _ wr => wr.rangeLeft bm w1.heap.size)
    case atStart => exact ⟨_, _, hrg0, hid (fun k hk hpos hl => by rw [hM.has (by unfold okI; omega) hk (by omega)] at hl; cases hl), B0⟩
    case round =>
      obtain ⟨left, cnt, hrg, hdone, hB⟩ := hrel
      go_wp2_with (first | (at_next; refine wpList_next_spot rfl _ rfl bm w1.heap.size 4 D _ left cnt rfl hrg hM.2 hF ?_ ?_) | go_in)
      · intro hc0 hl0
        go_wp2
        go_ret
        exact ⟨true, rfl, hP.out true ⟨fun _ k hk hpos => hdone.out k hk hpos (hl0 _), fun _ => rfl⟩, hB.out⟩
      · intro c' k w2 cnt1 hc' hk hl hpos hrg2 hlt hg2 hs2 hen
        obtain rfl := moreC_cl hpos
        go_upto_region 6 with (fail)
        have B2 := hid (Below.grown (row := some w1.heap.size) hB.out hg2 hB.out.size (fun k hk => by cases hk; exact hb.size))
        have BW := hid (balloc (balloc B2.out (Obj.cells #[Value.int IntKind.i64 ↑c, Value.int IntKind.i64 k] 116)) (Obj.cells #[Value.int IntKind.i64 (moreC tn (↑c) (tn cy) n (↑c) k)] 117))
        have hGW := MapF.drew (hG.keep (row := none) (gb_of_below BW.out) (by simp))
        have hlook := hGW.look hc' hk
        have s15 := cell_keep r15.out BW.out
        have sU := cell_keep rU.out BW.out
        have hGb := hBb.out k hk
        have hMk := hMb.out k
        have hwa : IntKind.i64.wrap (G c k + moreC tn c (tn cy) n c k) = G c k + moreC tn c (tn cy) n c k := by rw [IntKind.wrap_i64]; omega
        have hfld := el_field
        have hrg3 := hid (ranges_drew ((hrg2.alloc (Obj.cells #[Value.int IntKind.i64 ↑c, Value.int IntKind.i64 k] 116)).alloc (Obj.cells #[Value.int IntKind.i64 (moreC tn (↑c) (tn cy) n (↑c) k)] 117)))
        clear hGW B2 hg2
        generalize hm : moreC tn c (tn cy) n c k = m at *
        generalize hgk : G c k = gk at *
        by_cases hle : gk + m ≤ U
        · have hle2 : ¬ U < gk + m := by omega
          go_region
          go_wp2_with fail
          refine ⟨⟨_, cnt1, hrg3.out, hid (fun k' hk' hpos' hl' => ?_), hid (bdrew BW.out)⟩, ?_⟩
          · by_cases hkk : k' = k
            · subst hkk
              rw [hgk, hm]
              exact hle
            · refine hdone.out k' hk' hpos' ?_
              have hne : (klA c k').sameKey (klA c k) = false := sameKey_ne (fun e => hkk (klA_inj hc' hk' hc' hk e).2)
              simp only [hne, Bool.not_false, Bool.and_true] at hl'
              exact hl'
          · have e1 : World.rangeLeft _ bm w1.heap.size = cnt1 := hrg3.out.left_eq
            have e2 : World.rangeLeft wr bm w1.heap.size = cnt := hrg.left_eq
            rw [e2]
            refine Nat.lt_of_le_of_lt (Nat.le_of_eq ?_) hlt
            exact e1
        · have hle2 : U < gk + m := by omega
          go_region
          go_wp2
          go_ret
          refine ⟨false, rfl, hP.out false ⟨fun hh => (by cases hh), fun hh => ?_⟩, bdrew BW.out⟩
          have := hh k hk (by rw [hm]; exact hpos)
          rw [hm, hgk] at this
          omega
end Go.Proofs.Ytcibkoodnfkogaa
