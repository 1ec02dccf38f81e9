/- The walk of ReserveCounts. -/
import Derived.Test.YtcibkoodnfkogaaRV15
namespace Go.Proofs.Ytcibkoodnfkogaa
open Go.RowKit Go.Maps
set_option linter.unusedVariables false
set_option linter.unusedSimpArgs false
def TabC (w : World) (g : Nat) (t : List Int) : Prop := ∀ j, j < 4 → w.cell? ⟨g, j, none⟩ = some (.int .i64 (t[j]?.getD 0))
theorem TabC.keep {w w' : World} {g : Nat} {t : List Int} (h : TabC w g t) (hb : Below w.heap.size w w') : TabC w' g t := fun j hj => cell_keep (h j hj) hb
/-- A row of the call's own grows, or moves. -/
theorem Two.grow {t : List Int} {a b : Tn} {w0 w w' : World} {pa ba pb bb na nb base : Nat} {Ga Gb : Int → Int → Int} (h : Two t a b w0 pa ba pb bb w na nb Ga Gb) {row : Option Nat} (hg : w.grownBy w' row) (hr : ∀ k, row = some k → base ≤ k) (h0 : w0.heap.size ≤ base) (h1 : pa < base) (h2 : ba < base) (h3 : pb < base) (h4 : bb < base) : Two t a b w0 pa ba pb bb w' na nb Ga Gb := by
  have hne : ∀ k, k < base → some k ≠ row := fun k hk e => by have := hr k e.symm; omega
  exact ⟨h.ra.keep hg (hne _ h1), h.rb.keep hg (hne _ h3), h.ga.keep hg (hne _ h2), h.gb.keep hg (hne _ h4), Below.grown h.bel hg h.bel.size (fun k hk => by have := hr k hk; omega), h.la, h.lb, h.d1, h.d2, h.d3⟩
theorem bool_same {a b : Bool} {p : Prop} (h : a = true ↔ p) (k : b = true ↔ p) : a = b := by
  cases a <;> cases b
  · rfl
  · exact (h.2 (k.1 rfl)).symm ▸ rfl
  · exact (k.2 (h.1 rfl)).symm ▸ rfl
  · rfl
theorem AsksIn.grow {w w' : World} {A : Option Addr} {l : List Ask} {b base : Nat} (h : AsksIn w A l) (hg : w.grownBy w' (some b)) (hA : ∀ a, A = some a → base ≤ a.block) (hb : b < base) : AsksIn w' A l := fun hl => by
  obtain ⟨g, off, rfl, hx⟩ := h hl
  have hgb := hA _ rfl
  have hne : some g ≠ some b := by simp only at hgb; simp; omega
  exact ⟨g, off, rfl, fun i x hi => ⟨hg.cell (hx i x hi).c0 hne, hg.cell (hx i x hi).c1 hne, hg.cell (hx i x hi).c2 hne⟩⟩
theorem cl4 (x : Int) : 0 ≤ (wrap64 (x.tmod 4 + 4)).tmod 4 ∧ (wrap64 (x.tmod 4 + 4)).tmod 4 < 4 := by
  have h := tmod_bd x 4 (by omega)
  have e : wrap64 (x.tmod 4 + 4) = x.tmod 4 + 4 := by unfold wrap64; omega
  rw [e, Int.tmod_eq_emod_of_nonneg (by omega)]
  omega
theorem ring_in {ev cy : Int} (h : 1 ≤ ev ∧ ev ≤ 65536) (hc : -1099511627776 ≤ cy ∧ cy ≤ 1099511627776) : inCy (tnR ev).tn cy := by
  refine ⟨hc, ?_⟩
  show _ ≤ ringT ev cy ∧ ringT ev cy ≤ _
  rw [ringT_eq _ _ (by omega)]
  have := Int.emod_nonneg cy (show ev ≠ 0 by omega)
  have := Int.emod_lt_of_pos cy (show 0 < ev by omega)
  omega
set_option maxHeartbeats 4000000 in
set_option maxRecDepth 100000 in
theorem ReserveCounts_walk (t : List Int) (ev : Int) (A : Option Addr) (l : List Ask) (cap : Nat) (w : World) (ht : t.length = 13) (_htw : ∀ n ∈ t, -9223372036854775808 ≤ n ∧ n ≤ 9223372036854775807) (hl : AsksIn w A l) (hw : ∀ x ∈ l, x.wf) (hc : l.length ≤ cap) (hm : cap ≤ 8796093022208) :
    Calls Try.prog 4 #[tabV t, .int .i64 ev, .slice A l.length cap] w fun e w' => e = .returned (.bool true) ∧ Below w.heap.size w w' := by
  cases hok : tabOk t
  · exact counts_no A l cap t ev 20 w ht (by omega) (hid (ring_no t ev ht hok))
  by_cases hev : 1 ≤ ev ∧ ev ≤ 65536
  rotate_left 1
  · exact counts_no A l cap t ev 2 w ht (by omega) (hid (ring_arg t ev ht hok hev))
  have CR := hid (ring_yes t ev ht hok hev)
  have CW := hid wakes13_any
  have HTn : Turns (tnR ev).F (tnR ev).rcv (tnR ev).tn := ring_turn ev hev.1 hev.2
  have TW := hid (fun (e1 e2 : Ending) (w0 w1 w2 : World) (hs : Below w0.heap.size w0 w0) (h1 : NewR t (tnR ev).F (tnR ev).rcv (tnR ev).any w0 e1 w1) (h2 : NewR t (tnR ev).F (tnR ev).rcv (tnR ev).any w1 e2 w2) => two_new (a := tnR ev) (b := tnR ev) hs h1 h2)
  have CF := hid (fun (W w0 : World) (pa ba pb bb na nb : Nat) (Ga Gb : Int → Int → Int) (h : Two t (tnR ev) (tnR ev) w0 pa ba pb bb W na nb Ga Gb) => h.freeA ht hok HTn)
  have CTA := hid (fun (W w0 : World) (pa ba pb bb na nb : Nat) (Ga Gb : Int → Int → Int) (h : Two t (tnR ev) (tnR ev) w0 pa ba pb bb W na nb Ga Gb) => h.takeA ht hok HTn)
  have CTB := hid (fun (W w0 : World) (pa ba pb bb na nb : Nat) (Ga Gb : Int → Int → Int) (h : Two t (tnR ev) (tnR ev) w0 pa ba pb bb W na nb Ga Gb) => h.takeB ht hok HTn)
  have CUA := hid (fun (W w0 : World) (pa ba pb bb na nb : Nat) (Ga Gb : Int → Int → Int) (h : Two t (tnR ev) (tnR ev) w0 pa ba pb bb W na nb Ga Gb) => h.usedA ht HTn)
  have CUB := hid (fun (W w0 : World) (pa ba pb bb na nb : Nat) (Ga Gb : Int → Int → Int) (h : Two t (tnR ev) (tnR ev) w0 pa ba pb bb W na nb Ga Gb) => h.usedB ht HTn)
  have hokh := hid hok
  have hevh := hid hev
  have hth := hid ht
  obtain ⟨t0, t1, t2, t3, t4, t5, t6, t7, t8, t9, t10, t11, t12, rfl⟩ := tabL13 ht
  clear ht hok HTn hev
  obtain ⟨T, hT⟩ : ∃ T, T = [t0, t1, t2, t3, t4, t5, t6, t7, t8, t9, t10, t11, t12] := ⟨_, rfl⟩
  rw [← hT] at CF CTA CTB CUA CUB CR TW hokh hth
  unfold tabV at CR
  rw [hT] at CR
  rw [hT] at TW
  unfold tabV
  simp only [List.map_cons, List.map_nil] at *
  go_enter Try.func4, Try.ntmps4
  go_wp2_with fail
  with_reducible refine (CR.out _).mono ?_
  rintro e w1 h1
  have h1' := h1
  obtain ⟨pa0, ba0, he, -, -, -, -, hb⟩ := h1'
  subst he
  obtain ⟨hc1, hf1⟩ := bcell hb
  have hz := bsize hb
  have h1h := hid h1
  have hbh := hid hb
  clear h1 hb
  go_wp2_with fail
  with_reducible refine (CR.out _).mono ?_
  rintro e w2 h2
  have h2' := h2
  obtain ⟨pb0, bb0, he, -, -, -, -, hb2⟩ := h2'
  subst he
  obtain ⟨pa, ba, pb, bb, e1, e2, HT, hlt1, hlt2, hlt3, hlt4⟩ := TW.out _ _ _ _ _ (Below.refl _ _) h1h.out h2
  injection e1 with e1
  injection e1 with e1
  have e1' : pa0 = pa := by simpa using e1
  injection e2 with e2
  injection e2 with e2
  have e2' : pb0 = pb := by simpa using e2
  subst e1' e2'
  rw [← hT] at HT
  obtain ⟨wB, hwB⟩ : ∃ wB, wB = w.alloc (.cells #[Value.int IntKind.i64 t0, Value.int IntKind.i64 t1, Value.int IntKind.i64 t2, Value.int IntKind.i64 t3, Value.int IntKind.i64 t4, Value.int IntKind.i64 t5, Value.int IntKind.i64 t6, Value.int IntKind.i64 t7, Value.int IntKind.i64 t8, Value.int IntKind.i64 t9, Value.int IntKind.i64 t10, Value.int IntKind.i64 t11, Value.int IntKind.i64 t12] 28) := ⟨_, rfl⟩
  rw [← hwB] at HT
  have BB : Hid (Below w.heap.size w wB) := hid (by rw [hwB]; exact balloc (Below.refl _ _) _)
  have hsB : wB.heap.size = w.heap.size + 1 := by rw [hwB]; simp
  have TC : Hid (TabC wB w.heap.size T) := hid (by
    rw [hwB, hT]
    intro j hj
    rw [cell_of_row _ _ _ _ _ _ (heap_alloc_new _ _)]
    obtain rfl | rfl | rfl | rfl : j = 0 ∨ j = 1 ∨ j = 2 ∨ j = 3 := by omega
    all_goals rfl)
  have HT0 := hid HT
  have hsB2 := HT.bel.size
  clear HT e1 e2 h1h h2 hbh hc1 hf1 hz hb2 TW CR hwB
  obtain ⟨ii, iz, hii, hiz, h3, h24, hz3⟩ := ask_info
  have HII := hid hii
  have HIZ := hid hiz
  have HIU := hid (Try.underlying29)
  replace h3 := hid h3
  replace h24 := hid h24
  replace hz3 := hid hz3
  clear hii hiz
  obtain ⟨hev1, hev2⟩ := hevh.out
  go_upto_block 0 with (fail)
  go_cut [11] (fun v11 wx => ∃ (na : Nat) (L : List Ask), L.length ≤ 40 ∧ na ≤ 160 ∧ Hid (Two T (tnR ev) (tnR ev) wB pa0 ba pb0 bb wx na 0 (sumG T (tnR ev).tn L) (fun _ _ => 0)) ∧ Hid (OwnK wx w2.heap.size v11 L) ∧ Hid (CapG T (sumG T (tnR ev).tn L)) ∧ Hid (∀ x ∈ L, (0 ≤ x.c ∧ x.c < 4) ∧ (-1048576 ≤ x.k ∧ x.k ≤ 1048576)))
  case first =>
    go_wp2_with fail
    go_loopg [11, 52] l.length (fun g v11 v wr => ∃ (i na : Nat) (L : List Ask), i ≤ l.length ∧ v = .int .i64 i ∧ Hid (g + i = l.length) ∧ w2.heap.size ≤ wr.heap.size ∧ L.length ≤ i ∧ L.length ≤ 40 ∧ na ≤ 4 * i ∧ na ≤ 160 ∧ Hid (Two T (tnR ev) (tnR ev) wB pa0 ba pb0 bb wr na 0 (sumG T (tnR ev).tn L) (fun _ _ => 0)) ∧ Hid (OwnK wr w2.heap.size v11 L) ∧ Hid (CapG T (sumG T (tnR ev).tn L)) ∧ Hid (∀ x ∈ L, (0 ≤ x.c ∧ x.c < 4) ∧ (-1048576 ≤ x.k ∧ x.k ≤ 1048576)))
    case atStart => exact ⟨0, 0, [], by omega, rfl, by exact Nat.add_zero _, Nat.le_refl _, by simp, by simp, by omega, by omega, HT0, hid (OwnK.nil _ _), hid (cap_nil hokh.out), hid (fun x hx => by cases hx)⟩
    case round =>
      obtain ⟨i, na, L, hi, rfl, hg, hsz, hLi, hL40, hna, hna2, HTw, HO, HC, HL⟩ := hrel
      by_cases hlt : i < l.length
      · obtain ⟨gA, off, rfl, hx⟩ := hl.get i hlt
        have hwf := hw _ (List.getElem_mem hlt)
        generalize l[i] = x at *
        have hx1 := (hx.keep BB.out).keep HTw.out.bel
        obtain ⟨c0, c1, c2⟩ := hx1
        have hij : (i : Int) < (l.length : Int) := by omega
        by_cases h40 : 40 ≤ (i : Int)
        · go_wp2_with fail
          go_meet
          case rel => exact ⟨na, L, hL40, hna2, hid (HTw.out.alloc _), hid (own_below HO.out (balloc (Below.refl _ _) _)), HC, HL⟩
        · go_upto_region 12 with (fail)
          obtain ⟨y, hy⟩ : ∃ y : Ask, y = ⟨(wrap64 (x.c.tmod 4 + 4)).tmod 4, x.k.tmod 1048576, x.t⟩ := ⟨_, rfl⟩
          have hyc : (wrap64 (x.c.tmod 4 + 4)).tmod 4 = y.c := by rw [hy]
          have hyk : x.k.tmod 1048576 = y.k := by rw [hy]
          have hyt : x.t = y.t := by rw [hy]
          have hb1 : 0 ≤ y.c ∧ y.c < 4 := by rw [← hyc]; exact cl4 x.c
          have hb2 : -1048576 ≤ y.k ∧ y.k ≤ 1048576 := by rw [← hyk]; have := tmod_bd x.k 1048576 (by omega); omega
          have hin : inCy (tnR ev).tn y.k := ring_in hevh.out (by omega)
          rw [hyc, hyk, hyt]
          clear hy hyc hyk hyt c0 c1 c2 hx hwf
          have HTX := hid (HTw.out.alloc (Obj.cells #[Value.int IntKind.i64 y.c, Value.int IntKind.i64 y.k, Value.bool y.t] 34))
          have OX := hid (own_below HO.out (balloc (Below.refl _ _) (Obj.cells #[Value.int IntKind.i64 y.c, Value.int IntKind.i64 y.k, Value.bool y.t] 34)))
          have FA := hid (CF.out _ _ _ _ _ _ _ _ _ _ HTX.out y.c y.k hin)
          have xb : ∀ j v, j < 3 → y.cells[j]? = some v → (wr.alloc (Obj.cells #[Value.int IntKind.i64 y.c, Value.int IntKind.i64 y.k, Value.bool y.t] 34)).cell? ⟨wr.heap.size, j, none⟩ = some v := fun j v hj hv => by
            rw [cell_of_row _ _ _ _ _ _ (heap_alloc_new _ _)]
            rw [← hv]
            simp [Ask.cells]
          have x0 := xb 0 _ (by omega) rfl
          have x1 := xb 1 _ (by omega) rfl
          have x2 := xb 2 _ (by omega) rfl
          clear xb
          go_wp2_with fail
          with_reducible refine FA.out.mono ?_
          rintro e w3 hF
          obtain ⟨r, he, hr, hb3⟩ := hF
          subst he
          have hs3 := hb3.size
          simp only [World.size_alloc] at hs3
          replace x0 := cell_keep x0 hb3
          replace x1 := cell_keep x1 hb3
          replace x2 := cell_keep x2 hb3
          have HT3 := hid (HTX.out.keep hb3)
          have O3 := hid (own_below OX.out hb3)
          have TA := hid (CTA.out _ _ _ _ _ _ _ _ _ _ HT3.out (by omega) y.c y.k hin)
          clear hb3 HTX OX FA
          go_wp2_with fail
          with_reducible refine TA.out.mono ?_
          rintro e w4 hT4
          obtain ⟨r', he, hr', hT4, hg4⟩ := hT4
          subst he
          have hrr : r' = r := bool_same hr' hr
          subst hrr
          have hXb : some wr.heap.size ≠ some ba := by simp; omega
          replace x0 := hg4.cell x0 hXb
          replace x1 := hg4.cell x1 hXb
          replace x2 := hg4.cell x2 hXb
          have hs4 := hg4.size
          have O4 := hid (own_grow O3.out hg4 hlt2)
          have HR := hid hr
          have HT4 := hid hT4
          clear hr hr' hT4 hg4 TA HT3 O3
          cases r'
          · go_wp2_with fail
            go_roundg (l.length - (i + 1))
            case measure => have := hg.out; omega
            case rel => exact ⟨i + 1, na + 4, L, by omega, by go_num, by show _ + _ = _; omega, by omega, by omega, hL40, by omega, by omega, HT4, O4, HC, HL⟩
          · go_wp2_with (at_builtin; refine wpList_append_lies _ (by rfl) _ _ _ (by rfl) w2.heap.size 34 ii iz 3 24 HIU.out HII.out HIZ.out h3.out h24.out hz3.out (by omega) u11 L.length (L.flatMap Ask.cells) (by rfl) ?hown ⟨w4.heap.size, 0, none⟩ 1 1 (Ask.cells y) (by rfl) (by rfl) ?hnews ?hone (by omega) ?h63 ?hbytes ?hbase _ rfl ?_)
            case hown => exact own_below O4.out (balloc (Below.refl _ _) _)
            case hnews => exact World.news_of_block (heap_new_at _ _ _ (by simp))
            case hone => exact ask_one y
            case h63 => unfold maxLen; omega
            case hbytes => omega
            case hbase => simp; omega
            intro g3 d3 w7 hown7 hgrow7 hat hlt7
            have OB := hid (World.ownsRow.lt O4.out)
            have O7 := hid (OwnK.snoc hown7)
            have HT7 := hid ((HT4.out.alloc _).grow hgrow7 (fun k hk => (OB.out k hk).1) (by omega) hlt1 hlt2 hlt3 hlt4)
            have hs7 := hgrow7.size
            simp only [World.size_alloc] at hs7
            have HC7 := hid (cap_take HC.out (HR.out.1 (by first | rfl | trivial)))
            clear hown7 hgrow7 hat hlt7
            go_wp2
            go_roundg (l.length - (i + 1))
            case measure => have := hg.out; omega
            case rel =>
              refine ⟨i + 1, na + 4, L ++ [y], by omega, by go_num, by show _ + _ = _; omega, by omega, by rw [List.length_append]; show _ + 1 ≤ _; omega, by rw [List.length_append]; show _ + 1 ≤ _; omega, by omega, by omega, ?_, ?_, ?_, ?_⟩
              · have := HT7.out
                simp only [if_true, sumG_snoc] at this
                exact hid this
              · have := O7.out
                simpa using hid this
              · have := HC7.out
                rw [sumG_snoc] at this
                exact hid this
              · refine hid (fun x hx => ?_)
                rcases List.mem_append.1 hx with hx | hx
                · exact HL.out x hx
                · rw [List.mem_singleton.1 hx]; exact ⟨hb1, hb2⟩
      · obtain rfl : i = l.length := by omega
        go_wp2_with fail
        go_meet
        case rel => exact ⟨na, L, hL40, hna2, HTw, HO, HC, HL⟩
  case rest =>
    obtain ⟨na, L, hL40, hna2, HTw, HO, HC, HL⟩ := hcut
    obtain ⟨A3, cap3, rfl, hcap3, hAs, hA3⟩ := HO.out.open
    have HAs := hid hAs
    have HA3 := hid hA3
    have hLD : Hid (L.drop L.length = []) := hid (List.drop_length)
    clear hAs hA3 hl hw
    go_wp2_with fail
    go_loopg [15] L.length (fun g v wr => ∃ (j nb : Nat), j ≤ L.length ∧ v = .int .i64 ((j : Int) - 1) ∧ Hid (g = j) ∧ nb ≤ 4 * (L.length - j) ∧ Hid (Two T (tnR ev) (tnR ev) wB pa0 ba pb0 bb wr na nb (sumG T (tnR ev).tn L) (sumG T (tnR ev).tn (L.drop j))) ∧ Hid (AsksIn wr A3 L))
    case atStart =>
      refine ⟨L.length, 0, Nat.le_refl _, rfl, hid rfl, by omega, ?_, HAs⟩
      rw [hLD.out]
      exact HTw
    case round =>
      obtain ⟨j, nb, hj, rfl, hg, hnb, HT2, HX⟩ := hrel
      cases j with
      | zero =>
        rw [show ((0 : Nat) : Int) - 1 = -1 from rfl]
        have hT2' : Hid (Two T (tnR ev) (tnR ev) wB pa0 ba pb0 bb wr na nb (sumG T (tnR ev).tn L) (sumG T (tnR ev).tn L)) := by
          have := HT2.out
          rw [List.drop_zero] at this
          exact hid this
        clear HT2 HX HAs HA3 HO hLD CTB CTA CF HL
        generalize sumG T (tnR ev).tn L = G at *
        go_wp2_with fail
        go_loopg [109] 4 (fun g v wr => ∃ c : Nat, c ≤ 4 ∧ v = .int .i64 c ∧ Hid (g + c = 4) ∧ Hid (Two T (tnR ev) (tnR ev) wB pa0 ba pb0 bb wr na nb G G))
        case atStart => exact ⟨0, by omega, rfl, by exact Nat.add_zero _, hT2'⟩
        case round =>
          obtain ⟨c, hc4, rfl, hg, HT4⟩ := hrel
          by_cases hlt : (c : Int) < 4
          · go_upto_block 6 with (fail)
            obtain ⟨m, hm2⟩ : ∃ m : Nat, (m : Int) = if 60 < ev then 60 else ev := by
              refine ⟨(if 60 < ev then 60 else ev).toNat, Int.toNat_of_nonneg ?_⟩
              split <;> omega
            have hm60 : m ≤ 60 := by
              have h := hm2
              split at h <;> omega
            rw [← hm2]
            clear hm2
            go_wp2_with fail
            go_loopg [114] m (fun g v wr => ∃ k : Nat, k ≤ m ∧ v = .int .i64 k ∧ Hid (g + k = m) ∧ Hid (Two T (tnR ev) (tnR ev) wB pa0 ba pb0 bb wr na nb G G))
            case atStart => exact ⟨0, by omega, rfl, by exact Nat.add_zero _, HT4⟩
            case round =>
              obtain ⟨k, hk, rfl, hg4, HT5⟩ := hrel
              by_cases hkm : (k : Int) < (m : Int)
              · obtain ⟨wo, rfl⟩ : ∃ wo : World, wo = wr := ⟨_, rfl⟩
                have hin1 : inCy (tnR ev).tn k := ring_in hevh.out (by omega)
                have hin2 : inCy (tnR ev).tn (k + ev) := ring_in hevh.out (by omega)
                have hcI : okI (c : Int) := by unfold okI; omega
                have eR : (tnR ev).tn (k + ev) = (tnR ev).tn k := ring_more ev k (by omega)
                have hu1 := HC.out c ((tnR ev).tn k) (by omega) hlt (by have := hin1.2; unfold okI; omega)
                rw [Int.toNat_natCast] at hu1
                have D1 := hid (fun W (h : Two T (tnR ev) (tnR ev) wB pa0 ba pb0 bb W na nb G G) => CUA.out _ _ _ _ _ _ _ _ _ _ h c k hcI hin1)
                have D2 := hid (fun W (h : Two T (tnR ev) (tnR ev) wB pa0 ba pb0 bb W na nb G G) => CUB.out _ _ _ _ _ _ _ _ _ _ h c k hcI hin1)
                have D3 := hid (fun W (h : Two T (tnR ev) (tnR ev) wB pa0 ba pb0 bb W na nb G G) => CUA.out _ _ _ _ _ _ _ _ _ _ h c (k + ev) hcI hin2)
                rw [eR] at D3
                have x0 := (TC.out.keep (bdrew HT5.out.bel)) c (by omega)
                generalize (tnR ev).tn k = kk at *
                generalize G c kk = u at *
                generalize T[c]?.getD 0 = U at *
                have hgt : (decide (U < u)) = false := by simp; omega
                have hgt2 : ¬ U < u := by omega
                have hwk : IntKind.i64.wrap (k + ev) = k + ev := by rw [IntKind.wrap_i64]; omega
                have HTD := HT5.out.drew
                clear eR hin1 hin2 hcI hu1
                go_upto_region 29 with (fail)
                go_region_held3 (fun w' => w'.cell? ⟨w.heap.size, c, none⟩ = some (.int .i64 U)) (assumption) (first
                  | ((with_reducible refine (D1.out _ HTD).mono ?_); rintro e w3 ⟨rfl, hb3⟩; have HT3 := HTD.keep hb3; have x3 := cell_keep x0 hb3)
                  | ((with_reducible refine (D2.out _ HT3).mono ?_); rintro e w4 ⟨rfl, hb4⟩; have HT4 := HT3.keep hb4; have x4 := cell_keep x3 hb4)
                  | ((with_reducible refine (D1.out _ HT4).mono ?_); rintro e w5 ⟨rfl, hb5⟩; have HT5 := HT4.keep hb5; have x5 := cell_keep x4 hb5)
                  | ((with_reducible refine (D1.out _ HT5).mono ?_); rintro e w6 ⟨rfl, hb6⟩; have HT6 := HT5.keep hb6; have x6 := cell_keep x5 hb6)
                  | ((with_reducible refine (D3.out _ HT6).mono ?_); rintro e w7 ⟨rfl, hb7⟩; have HT7 := HT6.keep hb7; have x7 := cell_keep x6 hb7))
                go_wp2_with fail
                go_roundg (m - (k + 1))
                case measure => have := hg4.out; omega
                case rel => exact ⟨k + 1, by omega, by go_num, by show _ + _ = _; omega, hid HT7⟩
              · obtain rfl : k = m := by omega
                go_wp2_with fail
                go_roundg (4 - (c + 1))
                case measure => have := hg.out; omega
                case rel => exact ⟨c + 1, by omega, by go_num, by show _ + _ = _; omega, HT5⟩
          · obtain rfl : c = 4 := by omega
            go_wp2_with fail
            with_reducible refine (CW.out _).mono ?_
            rintro e w5 ⟨rfl, hb5⟩
            go_wp2
            go_ret
            exact ⟨rfl, btrans (btrans BB.out HT4.out.bel) hb5⟩
      | succ k =>
        have ek : ((k + 1 : Nat) : Int) - 1 = k := by omega
        rw [ek]
        have hk : k < L.length := by omega
        obtain ⟨g, off, rfl, hx⟩ := HX.out.get k hk
        have hLk := HL.out _ (List.getElem_mem hk)
        have hFR := hid (free_rest HC.out hk hLk.1)
        have hSD := hid (sumG_drop T (tnR ev).tn L k hk)
        generalize L[k] = y at *
        obtain ⟨c0, c1, -⟩ := hx
        have hin : inCy (tnR ev).tn y.k := ring_in hevh.out (by omega)
        have hij : (k : Int) < (L.length : Int) := by omega
        have HTD := hid HT2.out.drew
        have TB : Hid (Calls Try.prog 20 #[.pointer (some ⟨pb0, 0, none⟩), .int .i64 y.c, .int .i64 y.k] wr.drew fun e w' => e = .returned (.bool true) ∧ Two T (tnR ev) (tnR ev) wB pa0 ba pb0 bb w' na (nb + 4) (sumG T (tnR ev).tn L) (sumG T (tnR ev).tn (L.drop k)) ∧ wr.drew.grownBy w' (some bb)) := hid (by
          refine (CTB.out _ _ _ _ _ _ _ _ _ _ HTD.out (by omega) y.c y.k hin).mono ?_
          rintro e w3 ⟨r, rfl, hr, HT3, hg3⟩
          obtain rfl : r = true := hr.2 hFR.out
          refine ⟨rfl, ?_, hg3⟩
          simp only [if_true, hSD.out] at HT3
          exact HT3)
        have hXb : some g ≠ some bb := by have := HA3.out _ rfl; simp only at this; simp; omega
        go_upto_region 21 with (fail)
        go_region_held3 (fun w' => w'.cell? ⟨g, off + k * 3, none⟩ = some (.int .i64 y.c) ∧ w'.cell? ⟨g, off + k * 3 + 1, none⟩ = some (.int .i64 y.k)) (first | exact ⟨x0, x1⟩ | exact ⟨c0, c1⟩) (first
          | ((with_reducible refine TB.out.mono ?_); rintro e w3 ⟨rfl, HT3, hg3⟩; have x0 := hg3.cell c0 hXb; have x1 := hg3.cell c1 hXb))
        go_wp2_with fail
        go_roundg k
        case measure => have := hg.out; omega
        case rel => exact ⟨k, nb + 4, by omega, by go_num, rfl, by omega, hid HT3, hid (AsksIn.grow (w := wr.drew) (HX.out.keep (bdrew (Below.refl _ _))) hg3 HA3.out hlt4)⟩
end Go.Proofs.Ytcibkoodnfkogaa
