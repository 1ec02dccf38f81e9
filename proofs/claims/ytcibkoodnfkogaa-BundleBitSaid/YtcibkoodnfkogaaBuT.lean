/- With one bit of a word turned: refused, or others: the walk. -/
import Derived.Test.YtcibkoodnfkogaaBu10
import Derived.Test.YtcibkoodnfkogaaBuB
import Derived.BigGuard
namespace Go.Proofs.Ytcibkoodnfkogaa
open Go.RowKit
set_option linter.unusedVariables false
set_option linter.unusedSimpArgs false
theorem p64i : (2 : Nat) ^ 64 = 18446744073709551616 := by decide
theorem xor_flip (x : Int) (q : Nat) (hq : q < 64) (h0 : 0 ≤ x) (h1 : x ≤ 18446744073709551615) :
    0 ≤ bits .xor .u64 x (IntKind.u64.wrap (2 ^ q)) ∧ bits .xor .u64 x (IntKind.u64.wrap (2 ^ q)) ≤ 18446744073709551615 ∧ bits .xor .u64 x (IntKind.u64.wrap (2 ^ q)) ≠ x := by
  obtain ⟨a, rfl⟩ : ∃ a : Nat, x = a := ⟨x.toNat, by omega⟩
  have hp : (2 : Nat) ^ q < 18446744073709551616 := by
    have := Nat.pow_lt_pow_right (a := 2) (by decide) hq
    rw [p64i] at this
    exact this
  have hw : IntKind.u64.wrap (2 ^ q) = (((2 ^ q : Nat)) : Int) := by
    rw [wrap_u64, show ((2 : Int) ^ q) = ((2 ^ q : Nat) : Int) by rw [Int.natCast_pow]; rfl]
    generalize (2 : Nat) ^ q = m at hp
    omega
  rw [hw]
  have hlt : (BitVec.ofNat 64 a ^^^ BitVec.ofNat 64 (2 ^ q)).toNat < 18446744073709551616 := by
    have := (BitVec.ofNat 64 a ^^^ BitVec.ofNat 64 (2 ^ q)).isLt
    rw [p64i] at this
    exact this
  have hwr := wraps_u64 (((BitVec.ofNat 64 a ^^^ BitVec.ofNat 64 (2 ^ q)).toNat : Nat) : Int) (Int.natCast_nonneg _) (by
    generalize (BitVec.ofNat 64 a ^^^ BitVec.ofNat 64 (2 ^ q)).toNat = m at hlt
    rw [show (2 : Int) ^ 64 = 18446744073709551616 by decide]
    omega)
  have hx : bits .xor .u64 (a : Int) ((2 ^ q : Nat) : Int) = (((BitVec.ofNat 64 a ^^^ BitVec.ofNat 64 (2 ^ q)).toNat : Nat) : Int) := by
    simp only [Go.bits, BitVec.ofInt_natCast]
    exact hwr
  rw [hx]
  clear hw hwr hx
  refine ⟨by omega, by generalize (BitVec.ofNat 64 a ^^^ BitVec.ofNat 64 (2 ^ q)).toNat = m at hlt; omega, fun h => ?_⟩
  have h2 : (BitVec.ofNat 64 a ^^^ BitVec.ofNat 64 (2 ^ q)).toNat = a := Int.ofNat.inj h
  have h3 := congrArg (fun n : Nat => n.testBit q) h2
  simp only [BitVec.testBit_toNat, BitVec.getLsbD_xor, BitVec.getLsbD_ofNat, decide_eq_true hq, Bool.true_and, Nat.testBit_two_pow_self] at h3
  cases hh : a.testBit q <;> rw [hh] at h3 <;> cases h3
theorem set_far {w : World} {p q : Addr} {x u : Value} (h : w.cell? q = some x) (hne : p.block ≠ q.block) : (w.setCell p u).cell? q = some x := (World.cell?_setCell_other w _ _ _ (fun e => hne (by rw [e]))).trans h
theorem decL_wf2 {ws t : List Int} (hl : ws.length ≤ 2097152) : ∀ b ∈ decL t ws, ∀ j, j < 4 → (b j).length ≤ 1000000000000000000 := fun b hb => by
  unfold decL at hb
  obtain ⟨i, hi, rfl⟩ := List.mem_map.1 hb
  intro j hj
  unfold readO
  have h1 := trim_le (seg t (chunk (tabW t).toNat ws i) j)
  have h2 : (seg t (chunk (tabW t).toNat ws i) j).length ≤ ws.length := by
    unfold seg chunk
    rw [List.length_take, List.length_drop, List.length_take, List.length_drop]
    omega
  rw [List.length_map]
  omega
theorem rows_same {a b : Nat → List Op} (t : List Int) (h : sameB a b) : rowsW a t 4 = rowsW b t 4 := by
  have hr : ∀ j, j < 4 → rowW a t j = rowW b t j := fun j hj => by unfold rowW; rw [h j hj]
  rw [rowsW_step, rowsW_step, rowsW_step, rowsW_step, rowsW_step, rowsW_step, rowsW_step, rowsW_step, hr 0 (by omega), hr 1 (by omega), hr 2 (by omega), hr 3 (by omega)]
  rfl
theorem enc_same {a b : List (Nat → List Op)} (t : List Int) (h : sameL a b) : encL t a = encL t b := by
  have hm : a.map (fun x => rowsW x t 4) = b.map (fun x => rowsW x t 4) := by
    refine List.ext_getElem (by rw [List.length_map, List.length_map, h.1]) fun i h1 h2 => ?_
    rw [List.getElem_map, List.getElem_map]
    rw [List.length_map] at h1 h2
    exact rows_same t (h.2 i _ _ (List.getElem?_eq_getElem h1) (List.getElem?_eq_getElem h2))
  unfold encL
  rw [List.flatMap_def, List.flatMap_def, hm]
theorem decE_or {ws t : List Int} {n : Nat} (ht : tabOk t = true) (h0 : ws.length ≠ 0) (hl : ws.length = n * (tabW t).toNat) (hn : n ≤ 65536) : decE t ws = 0 ∨ decE t ws = 210 := by
  have hW : (tabW t).toNat ≠ 0 := fun e => by rw [e, Nat.mul_zero] at hl; exact h0 hl
  have hm : ws.length % (tabW t).toNat = 0 := by rw [hl]; exact Nat.mul_mod_left _ _
  have hd : ws.length / (tabW t).toNat = n := by rw [hl]; exact Nat.mul_div_cancel _ (by omega)
  have hno : ¬ (tabW t = 0 ∨ ws.length % (tabW t).toNat ≠ 0) := by
    rintro (x | x)
    · rw [x] at hW; exact hW rfl
    · exact x hm
  unfold decE
  rw [if_neg (fun x => x (tabE_ok ht)), if_neg h0, if_neg hno, hd, if_neg (by omega)]
  split
  · exact .inl rfl
  · exact .inr rfl
theorem round_mod (x : Int) (L : Nat) (h1 : 1 ≤ L) (h2 : L ≤ 2097152) : ∃ p : Nat, (wrap64 (x.tmod (L : Int) + (L : Int))).tmod (L : Int) = (p : Int) ∧ p < L := by
  have a1 := Int.tmod_lt_of_pos x (show (0 : Int) < (L : Int) by omega)
  have a2 := Int.lt_tmod_of_pos x (show (0 : Int) < (L : Int) by omega)
  have hw : wrap64 (x.tmod (L : Int) + (L : Int)) = x.tmod (L : Int) + (L : Int) := by
    generalize x.tmod (L : Int) = y at *
    unfold wrap64
    omega
  rw [hw]
  have b1 := Int.tmod_nonneg (L : Int) (show 0 ≤ x.tmod (L : Int) + (L : Int) by omega)
  have b2 := Int.tmod_lt_of_pos (x.tmod (L : Int) + (L : Int)) (show (0 : Int) < (L : Int) by omega)
  exact ⟨((x.tmod (L : Int) + (L : Int)).tmod (L : Int)).toNat, by omega, by omega⟩
set_option maxHeartbeats 4000000 in
set_option maxRecDepth 100000 in
theorem BundleBit_walk (A : Option Addr) (l : List (Nat → List Op)) (c : Nat) (t : List Int) (at_ bit : Int) (w : World) (hl : BunsIn w A l) (hw : ∀ b ∈ l, BunWf b) (hc : l.length ≤ c) (hmx : c ≤ 1466015503700) (ht : t.length = 13) (_ : ∀ n ∈ t, -9223372036854775808 ≤ n ∧ n ≤ 9223372036854775807) :
    Calls Try.prog 14 #[.slice A l.length c, .agg (t.map (Value.int .i64)).toArray, .int .i64 at_, .int .i64 bit] w fun e w' => e = .returned (.bool true) ∧ Below w.heap.size w w' := by
  have C1 := hid (fun (w : World) (h : BunsIn w A l) => encode_any A l c t w h hw ht (by omega))
  have CW := hid (fun w => wakes19_any w)
  have HL := hid hl
  have hV : Value.agg (t.map (Value.int .i64)).toArray = tabX (t[(0 : Nat)]?.getD 0) (t[(1 : Nat)]?.getD 0) (t[(2 : Nat)]?.getD 0) (t[(3 : Nat)]?.getD 0) (t[(4 : Nat)]?.getD 0) (t[(5 : Nat)]?.getD 0) (t[(6 : Nat)]?.getD 0) (t[(7 : Nat)]?.getD 0) (t[(8 : Nat)]?.getD 0) (t[(9 : Nat)]?.getD 0) (t[(10 : Nat)]?.getD 0) (t[(11 : Nat)]?.getD 0) (t[(12 : Nat)]?.getD 0) := tabV_X ht
  rw [tabV_X ht] at C1
  rw [hV]
  clear hV
  have hbox := hid (fun w T => TabIn.boxW ht w T)
  have C3 : Hid (∀ (w : World) (A : Option Addr) (ws : List Int) (cap : Nat), WordsIn w A ws → (∀ x ∈ ws, 0 ≤ x ∧ x ≤ 18446744073709551615) → ws.length ≤ cap → cap ≤ 9223372036854775807 → Calls Try.prog 48 #[.slice A ws.length cap, tabX (t[(0 : Nat)]?.getD 0) (t[(1 : Nat)]?.getD 0) (t[(2 : Nat)]?.getD 0) (t[(3 : Nat)]?.getD 0) (t[(4 : Nat)]?.getD 0) (t[(5 : Nat)]?.getD 0) (t[(6 : Nat)]?.getD 0) (t[(7 : Nat)]?.getD 0) (t[(8 : Nat)]?.getD 0) (t[(9 : Nat)]?.getD 0) (t[(10 : Nat)]?.getD 0) (t[(11 : Nat)]?.getD 0) (t[(12 : Nat)]?.getD 0)] w (DecP t ws w)) := hid fun w A ws cap h1 h2 h3 h4 => by
    have := decode_any A ws cap t w h1 h2 h3 h4 ht
    rw [tabV_X ht] at this
    exact this
  have hlc : (l.length : Int) ≤ 1466015503700 := by omega
  by_cases hE : encE l t = 0
  case neg =>
    clear hl hw hc hmx ht
    go_enter Try.func14, Try.ntmps14
    go_wp2_with fail
    refine (C1.out _ (BunsIn.keep (w := w) HL.out ?_)).mono ?_
    · ((with_reducible (repeat (first | assumption | exact Below.refl _ _ | refine bset ?_ (Nat.le_refl _) _ | refine balloc ?_ _ | refine bdrew ?_ | refine bdrewN ?_ _))); done)
    rintro e w1 ⟨v, rfl, hb, hv, _⟩
    obtain rfl := hv hE
    have B1 := hid (btrans (a := w) (by ((with_reducible (repeat (first | assumption | exact Below.refl _ _ | refine bset ?_ (Nat.le_refl _) _ | refine balloc ?_ _ | refine bdrew ?_ | refine bdrewN ?_ _))); done)) hb)
    clear hb hv
    go_wp2_with fail
    with_reducible refine (CW.out _).mono ?_
    rintro e w2 ⟨rfl, hb⟩
    go_wp2_with fail
    go_ret
    exact ⟨rfl, btrans B1.out hb⟩
  have hbd := hid (encL_bd hw hE)
  have hsm := encL_small hE
  have hok := hid (encE_zero hE)
  have hww := hid (fun (x : Nat → List Op) (hx : x ∈ l) j (hj : j < 4) => (hw x hx j hj).2)
  have hlenW := hid (encL_length hE)
  generalize hws : encL t l = ws at hbd hsm hlenW
  have HWS := hid hws
  have hE' := hid hE
  clear hl hw hc hmx ht hws hE
  by_cases hn : ws.length = 0
  · have hni : ((ws.length : Int) == 0) = true := by rw [hn]; rfl
    clear hn
    go_enter Try.func14, Try.ntmps14
    go_wp2_with fail
    refine (C1.out _ (BunsIn.keep (w := w) HL.out ?_)).mono ?_
    · ((with_reducible (repeat (first | assumption | exact Below.refl _ _ | refine bset ?_ (Nat.le_refl _) _ | refine balloc ?_ _ | refine bdrew ?_ | refine bdrewN ?_ _))); done)
    rintro e w1 ⟨v, rfl, hb, _, hown⟩
    have hown2 := hown hE'.out
    rw [HWS.out] at hown2
    rw [hE'.out]
    obtain ⟨A2, cap2, rfl, hwi, hc2, hm2, _⟩ := own_slice hown2
    have B1 := hid (btrans (a := w) (by ((with_reducible (repeat (first | assumption | exact Below.refl _ _ | refine bset ?_ (Nat.le_refl _) _ | refine balloc ?_ _ | refine bdrew ?_ | refine bdrewN ?_ _))); done)) hb)
    clear hb hown hown2 hwi hm2
    go_wp2_with fail
    with_reducible refine (CW.out _).mono ?_
    rintro e w2 ⟨rfl, hb⟩
    go_wp2_with fail
    go_ret
    exact ⟨rfl, btrans B1.out hb⟩
  have hni : ((ws.length : Int) == 0) = false := by rw [Bool.eq_false_iff]; intro h; have := eq_of_beq h; omega
  have hn1 : (1 : Int) ≤ (ws.length : Int) := by omega
  have hsmi : (ws.length : Int) ≤ 2097152 := by omega
  go_enter Try.func14, Try.ntmps14
  go_wp2_with fail
  refine (C1.out _ (BunsIn.keep (w := w) HL.out ?_)).mono ?_
  · ((with_reducible (repeat (first | assumption | exact Below.refl _ _ | refine bset ?_ (Nat.le_refl _) _ | refine balloc ?_ _ | refine bdrew ?_ | refine bdrewN ?_ _))); done)
  rintro e w1 ⟨v, rfl, hb, _, hown⟩
  have hown2 := hown hE'.out
  rw [HWS.out] at hown2
  rw [hE'.out]
  obtain ⟨g2, cap2, rfl, hgb, hg2⟩ := World.ownsRow.form hown2 (by omega)
  have HOWN : Hid (OwnW w1 w.heap.size (.slice (some ⟨g2, 0, none⟩) ws.length cap2) ws) := hid (own_base hown2 (by simp))
  have hgb2 : w.heap.size + 1 ≤ g2 := by simpa using hgb
  have B1 := hid (btrans (a := w) (by ((with_reducible (repeat (first | assumption | exact Below.refl _ _ | refine bset ?_ (Nat.le_refl _) _ | refine balloc ?_ _ | refine bdrew ?_ | refine bdrewN ?_ _))); done)) hb)
  have TT := hid ((hbox.out w 28).keep hb)
  clear hb hown hown2 hbox
  obtain ⟨p, hp, hpl⟩ := round_mod at_ ws.length (by omega) hsm
  obtain ⟨q, hq, hq64⟩ := round_mod bit 64 (by omega) (by omega)
  have hq' : (wrap64 (bit.tmod 64 + 64)).tmod 64 = (q : Int) := hq
  clear hq
  have hpx := hid (List.getElem?_eq_getElem hpl)
  have hcp : w1.cell? ⟨g2, p, none⟩ = some (.int .u64 ws[p]) := by
    rw [World.ownsRow.cellAt HOWN.out p (by omega)]
    unfold u64V
    rw [List.getElem?_map, hpx.out]
    rfl
  have hcf : w1.frozen? ⟨g2, p, none⟩ = false := World.ownsRow.frozenAt HOWN.out p
  have hxb := hbd.out ws[p] (List.getElem_mem hpl)
  obtain ⟨hx0, hx1⟩ := hxb
  have hpi : (p : Int) < (ws.length : Int) := by omega
  have hp0 : (0 : Int) ≤ (p : Int) := by omega
  have hq0 : (0 : Int) ≤ (q : Int) := by omega
  have hq1 : (q : Int) < 64 := by omega
  generalize hX : ws[p] = x at hcp hx0 hx1
  replace hX := hid hX
  obtain ⟨hX0, hX1, hXne⟩ := xor_flip x q (by omega) hx0 hx1
  go_upto_region 6 with (fail)
  generalize bits .xor .u64 x (IntKind.u64.wrap (2 ^ q)) = Y at hX0 hX1 hXne ⊢
  obtain ⟨V, hV⟩ : ∃ V : World, V = w1.setCell ⟨g2, p, none⟩ (.int .u64 Y) := ⟨_, rfl⟩
  rw [← hV]
  have hsl : Hid ((ws.set p Y).length = ws.length) := hid (List.length_set ..)
  have WV : Hid (WordsIn V (some ⟨g2, 0, none⟩) (ws.set p Y)) := by
    have h2 := (World.ownsRow.stored HOWN.out p (.int .u64 Y)).1
    rw [← hV] at h2
    refine hid (own_words (base := w.heap.size) (n := ws.length) (cap := cap2) ?_ (by rw [hsl.out]))
    unfold OwnW u64V
    rw [hsl.out, List.map_set]
    exact h2
  have BV : Hid (Below w.heap.size w V) := hid (by subst hV; exact B1.out.setCell (by show w.heap.size ≤ g2; omega) _)
  have TV : Hid (TabIn V w.heap.size t) := hid (fun j hj => by subst hV; exact set_far (TT.out j hj) (by show g2 ≠ w.heap.size; omega))
  have HBX : Hid (∀ y ∈ ws.set p Y, 0 ≤ y ∧ y ≤ 18446744073709551615) := hid (fun y hy => by
    rcases List.mem_or_eq_of_mem_set hy with h | h
    · exact hbd.out y h
    · subst h; exact ⟨hX0, hX1⟩)
  have hcc : ws.length ≤ cap2 ∧ cap2 ≤ 9223372036854775807 := by
    rcases HOWN.out.2 with ⟨h, _⟩ | ⟨_, _, _, h, _, _, h1, h2, _⟩
    · cases h
    · injection h with _ _ h
      subst h
      unfold maxLen at h2
      exact ⟨h1, by omega⟩
  have hdo := decE_or (ws := ws.set p Y) (n := l.length) hok.out.1 (by rw [hsl.out]; omega) (by rw [hsl.out]; exact hlenW.out) hok.out.2.1
  have hns : Hid (decE t (ws.set p Y) = 0 → ¬ sameL (decL t (ws.set p Y)) l) := hid (fun h0 hs => by
    have h1 := (enc_dec (fun y hy => (HBX.out y hy).1) h0).2
    rw [enc_same t hs, HWS.out] at h1
    have h2 : ws[p]? = (ws.set p Y)[p]? := by rw [← h1]
    rw [hpx.out, List.getElem?_set_self hpl] at h2
    injection h2 with h2
    exact hXne (by rw [← h2]; exact hX.out))
  have hkl : Hid ((decL t (ws.set p Y)).length = l.length) := hid (by
    have hW0 : (tabW t).toNat ≠ 0 := fun e => by have := hlenW.out; rw [e, Nat.mul_zero] at this; omega
    unfold decL
    rw [List.length_map, List.length_range, hsl.out, hlenW.out]
    exact Nat.mul_div_cancel _ (by omega))
  have hkw := hid (decL_wf2 (t := t) (ws := ws.set p Y) (by rw [hsl.out]; omega))
  have KD : Hid (Calls Try.prog 48 #[.slice (some ⟨g2, 0, none⟩) ws.length cap2, tabX (t[(0 : Nat)]?.getD 0) (t[(1 : Nat)]?.getD 0) (t[(2 : Nat)]?.getD 0) (t[(3 : Nat)]?.getD 0) (t[(4 : Nat)]?.getD 0) (t[(5 : Nat)]?.getD 0) (t[(6 : Nat)]?.getD 0) (t[(7 : Nat)]?.getD 0) (t[(8 : Nat)]?.getD 0) (t[(9 : Nat)]?.getD 0) (t[(10 : Nat)]?.getD 0) (t[(11 : Nat)]?.getD 0) (t[(12 : Nat)]?.getD 0)] V (DecP t (ws.set p Y) V)) := hid (by
    have := C3.out V (some ⟨g2, 0, none⟩) (ws.set p Y) cap2 WV.out HBX.out (by rw [hsl.out]; exact hcc.1) hcc.2
    rw [hsl.out] at this
    exact this)
  generalize ws.set p Y = ws2 at hdo hns hkl hkw KD
  clear hV hp hq' hpx hcp hcf hX0 hX1 hXne WV HBX hX hcc
  have k0 := TV.out 0 (by omega)
  have k1 := TV.out 1 (by omega)
  have k2 := TV.out 2 (by omega)
  have k3 := TV.out 3 (by omega)
  have k4 := TV.out 4 (by omega)
  have k5 := TV.out 5 (by omega)
  have k6 := TV.out 6 (by omega)
  have k7 := TV.out 7 (by omega)
  have k8 := TV.out 8 (by omega)
  have k9 := TV.out 9 (by omega)
  have k10 := TV.out 10 (by omega)
  have k11 := TV.out 11 (by omega)
  have k12 := TV.out 12 (by omega)
  go_wp2_with fail
  refine KD.out.mono ?_
  rintro e w3 ⟨A3, n3, c3, rfl, hb, hne, hdd⟩
  have B3 := hid (btrans BV.out hb)
  clear hb k0 k1 k2 k3 k4 k5 k6 k7 k8 k9 k10 k11 k12
  rcases hdo with hd | hd
  · obtain ⟨rfl, hn3, hc65, hbin, _⟩ := hdd hd
    rw [hd]
    have HB := hid hbin
    have hns2 := hid (hns.out hd)
    clear hdd hne hbin
    go_wp2_with fail
    refine (same_no A3 A (decL t ws2) l c3 c w3 HB.out (HL.out.keep B3.out) hkl.out hns2.out (by have := hkl.out; omega) hkw.out (fun x hx j hj => Nat.le_trans (hww.out x hx j hj) (by decide))).mono ?_
    rintro e w4 ⟨rfl, hb⟩
    have B4 := hid (btrans B3.out hb)
    clear hb
    go_wp2_with fail
    with_reducible refine (CW.out _).mono ?_
    rintro e w5 ⟨rfl, hb⟩
    go_wp2_with fail
    go_ret
    exact ⟨rfl, btrans B4.out hb⟩
  · obtain ⟨rfl, rfl, rfl⟩ := hne (by rw [hd]; decide)
    rw [hd]
    clear hdd hne
    go_wp2_with fail
    with_reducible refine (CW.out _).mono ?_
    rintro e w5 ⟨rfl, hb⟩
    go_wp2_with fail
    go_ret
    exact ⟨rfl, btrans B3.out hb⟩
end Go.Proofs.Ytcibkoodnfkogaa
