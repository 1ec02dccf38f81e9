/- The contract of the document's Decode. -/
import Derived.Test.YtcibkoodnfkogaaR11
import Derived.IntWalk
namespace Go.Proofs.Ytcibkoodnfkogaa
open Go.RowKit
set_option linter.unusedVariables false
set_option linter.unusedSimpArgs false
set_option maxHeartbeats 4000000 in
set_option maxRecDepth 100000 in
theorem rdecode_any (A : Option Addr) (ws : List Int) (cap : Nat) (t : List Int) (w : World) (hl : WordsIn w A ws) (hwx : ∀ x ∈ ws, 0 ≤ x ∧ x ≤ 18446744073709551615) (hc : ws.length ≤ cap) (hcm : cap ≤ 9223372036854775807) (ht : t.length = 13) :
    Calls Try.prog 52 #[.slice A ws.length cap, tabV t] w (RDecP t ws w) := by
  obtain ⟨a0, a1, a2, a3, a4, a5, a6, a7, a8, a9, a10, a11, a12, rfl⟩ := thirteen ht
  have C2 := hid (fun (w : World) => rtcheck_any [a0, a1, a2, a3, a4, a5, a6, a7, a8, a9, a10, a11, a12] w ht)
  have C3 := hid (fun (w : World) => rwidth_any [a0, a1, a2, a3, a4, a5, a6, a7, a8, a9, a10, a11, a12] w ht)
  have RB := hid (fun (w : World) (A : Option Addr) (cap : Nat) (ws : List Int) (h1 : WordsIn w A ws) (h2 : ws.length ≤ cap) (h3 : (ws.length : Int) = sumU [a0, a1, a2, a3, a4, a5, a6, a7, a8, a9, a10, a11, a12] 4) (h4 : tabOk [a0, a1, a2, a3, a4, a5, a6, a7, a8, a9, a10, a11, a12] = true) (h5 : cap ≤ 9223372036854775807) (h6 : ∀ x ∈ ws, 0 ≤ x ∧ x ≤ 18446744073709551615) => rbundle_any A cap ws [a0, a1, a2, a3, a4, a5, a6, a7, a8, a9, a10, a11, a12] w h1 h2 h3 h4 ht h5 h6)
  have HL := hid hl
  clear hl ht
  have hV : tabV [a0, a1, a2, a3, a4, a5, a6, a7, a8, a9, a10, a11, a12] = tabX a0 a1 a2 a3 a4 a5 a6 a7 a8 a9 a10 a11 a12 := rfl
  rw [hV] at C2 C3 RB ⊢
  clear hV
  generalize htt : [a0, a1, a2, a3, a4, a5, a6, a7, a8, a9, a10, a11, a12] = t at C2 C3 RB ⊢
  have hbox := hid (fun w T => htt ▸ TabIn.box a0 a1 a2 a3 a4 a5 a6 a7 a8 a9 a10 a11 a12 w T)
  have h13 : Hid (∀ (x : World) (g : Nat), TabIn x g t → x.cell? ⟨g, 0, none⟩ = some (.int .i64 a0) ∧ x.cell? ⟨g, 1, none⟩ = some (.int .i64 a1) ∧ x.cell? ⟨g, 2, none⟩ = some (.int .i64 a2) ∧ x.cell? ⟨g, 3, none⟩ = some (.int .i64 a3) ∧ x.cell? ⟨g, 4, none⟩ = some (.int .i64 a4) ∧ x.cell? ⟨g, 5, none⟩ = some (.int .i64 a5) ∧ x.cell? ⟨g, 6, none⟩ = some (.int .i64 a6) ∧ x.cell? ⟨g, 7, none⟩ = some (.int .i64 a7) ∧ x.cell? ⟨g, 8, none⟩ = some (.int .i64 a8) ∧ x.cell? ⟨g, 9, none⟩ = some (.int .i64 a9) ∧ x.cell? ⟨g, 10, none⟩ = some (.int .i64 a10) ∧ x.cell? ⟨g, 11, none⟩ = some (.int .i64 a11) ∧ x.cell? ⟨g, 12, none⟩ = some (.int .i64 a12)) := hid (by
    subst htt
    intro x g h
    exact ⟨h 0 (by omega), h 1 (by omega), h 2 (by omega), h 3 (by omega), h 4 (by omega), h 5 (by omega), h 6 (by omega), h 7 (by omega), h 8 (by omega), h 9 (by omega), h 10 (by omega), h 11 (by omega), h 12 (by omega)⟩)
  have HX := hid hwx
  clear htt hwx
  by_cases hT : tabE t = 0
  case neg =>
    have e0 : decE t ws = tabE t := by unfold decE; rw [if_pos hT]
    have hT2 : ¬ decE t ws = 0 := by rw [e0]; exact hT
    have E0 := hid e0
    have E1 := hid hT2
    clear e0 hT2
    go_enter Try.func52, Try.ntmps52
    go_wp2_with fail
    with_reducible refine (C2.out _).mono ?_
    rintro e w1 ⟨rfl, hb⟩
    go_wp2_with fail
    go_ret2
    refine ⟨none, 0, 0, ?_, btrans (a := w) ?_ hb, fun _ => rfl, fun h => absurd h E1.out⟩
    · rw [E0.out]; rfl
    · ((with_reducible (repeat (first | assumption | exact Below.refl _ _ | refine bset ?_ (Nat.le_refl _) _ | refine balloc ?_ _ | refine bdrew ?_ | refine bdrewN ?_ _))); done)
  rw [hT] at C2
  have hok := hid (tabE_iff0 hT)
  have e0 : decE t ws = if ws.length = 0 then 0 else if tabW t = 0 ∨ ws.length % (tabW t).toNat ≠ 0 then 210 else if 65536 < ws.length / (tabW t).toNat then 3 else
    if (List.range (ws.length / (tabW t).toNat)).all (fun i => readB t (chunk (tabW t).toNat ws i)) then 0 else 210 := by unfold decE; rw [if_neg (fun h => h hT)]
  have hws := tabW_sum hok.out
  have hwb := sumU_bd hok.out 4 (by omega)
  obtain ⟨W, hW⟩ : ∃ W : Nat, tabW t = W := ⟨(tabW t).toNat, by omega⟩
  have hW32 : W ≤ 32 := by omega
  have hD : Hid (decL t ws = (List.range (ws.length / W)).map fun i => readO t (chunk W ws i)) := hid (by unfold decL; rw [hW, Int.toNat_natCast])
  rw [hW, Int.toNat_natCast] at e0
  rw [hW] at C3
  have hWs : Hid ((W : Int) = sumU t 4) := hid (by rw [← hW]; exact hws)
  clear hT hws hwb hW
  have E0 := hid e0
  clear e0
  have hci : (ws.length : Int) ≤ (cap : Int) := by omega
  have hcmi : (cap : Int) ≤ 9223372036854775807 := by omega
  by_cases hn : ws.length = 0
  · have E1 : Hid (decE t ws = 0) := hid (by rw [E0.out, if_pos hn])
    have E2 : Hid (decL t ws = []) := hid (by rw [hD.out, hn]; simp)
    have hni : (ws.length : Int) = 0 := by omega
    have hnb : ((ws.length : Int) == 0) = true := by rw [hni]; rfl
    clear hn
    go_enter Try.func52, Try.ntmps52
    go_wp2_with fail
    with_reducible refine (C2.out _).mono ?_
    rintro e w1 ⟨rfl, hb⟩
    have B1 := hid (btrans (a := w) (by ((with_reducible (repeat (first | assumption | exact Below.refl _ _ | refine bset ?_ (Nat.le_refl _) _ | refine balloc ?_ _ | refine bdrew ?_ | refine bdrewN ?_ _))); done)) hb)
    have hc := (bcell hb).1
    have hz := bsize hb
    clear hb
    go_wp2_with fail
    with_reducible refine (C3.out _).mono ?_
    rintro e w2 ⟨rfl, hb⟩
    clear hc hz
    go_wp2_with fail
    go_ret2
    refine ⟨none, 0, 0, ?_, btrans B1.out hb, fun _ => rfl, fun _ => ⟨by rw [E2.out]; rfl, by rw [E2.out]; exact fun h => absurd rfl h⟩⟩
    rw [E1.out]; rfl
  have hnb : ((ws.length : Int) == 0) = false := by rw [Bool.eq_false_iff]; intro h; have := eq_of_beq h; omega
  have hn0 : (0 : Int) < (ws.length : Int) := by omega
  replace E0 := hid (E0.out.trans (if_neg hn))
  by_cases hW0 : W = 0
  · have E1 : Hid (decE t ws = 210) := hid (by rw [E0.out, if_pos (.inl (by omega))])
    have hwi : ((W : Int) == 0) = true := by rw [hW0]; rfl
    have E2 : Hid (¬ decE t ws = 0) := hid (by rw [E1.out]; omega)
    clear hW0 hn
    go_enter Try.func52, Try.ntmps52
    go_wp2_with fail
    with_reducible refine (C2.out _).mono ?_
    rintro e w1 ⟨rfl, hb⟩
    have B1 := hid (btrans (a := w) (by ((with_reducible (repeat (first | assumption | exact Below.refl _ _ | refine bset ?_ (Nat.le_refl _) _ | refine balloc ?_ _ | refine bdrew ?_ | refine bdrewN ?_ _))); done)) hb)
    have hc := (bcell hb).1
    have hz := bsize hb
    clear hb
    go_wp2_with fail
    with_reducible refine (C3.out _).mono ?_
    rintro e w2 ⟨rfl, hb⟩
    clear hc hz
    go_wp2_with fail
    go_ret2
    refine ⟨none, 0, 0, ?_, btrans B1.out hb, fun _ => rfl, fun h => absurd h E2.out⟩
    rw [E1.out]; rfl
  have hwi : ((W : Int) == 0) = false := by rw [Bool.eq_false_iff]; intro h; have := eq_of_beq h; omega
  have hw1 : (1 : Int) ≤ (W : Int) := by omega
  by_cases hrem : ws.length % W = 0
  case neg =>
    have E1 : Hid (decE t ws = 210) := hid (by rw [E0.out, if_pos (.inr hrem)])
    have E2 : Hid (¬ decE t ws = 0) := hid (by rw [E1.out]; omega)
    have hr : (((ws.length : Int) % (W : Int)) != 0) = true := by
      unfold bne
      rw [← Int.natCast_emod]
      have : (((ws.length % W : Nat) : Int) == 0) = false := by rw [Bool.eq_false_iff]; intro h; have := eq_of_beq h; omega
      rw [this]; rfl
    clear hW0 hn hrem
    go_enter Try.func52, Try.ntmps52
    go_wp2_with fail
    with_reducible refine (C2.out _).mono ?_
    rintro e w1 ⟨rfl, hb⟩
    have B1 := hid (btrans (a := w) (by ((with_reducible (repeat (first | assumption | exact Below.refl _ _ | refine bset ?_ (Nat.le_refl _) _ | refine balloc ?_ _ | refine bdrew ?_ | refine bdrewN ?_ _))); done)) hb)
    have hc := (bcell hb).1
    have hz := bsize hb
    clear hb
    go_wp2_with fail
    with_reducible refine (C3.out _).mono ?_
    rintro e w2 ⟨rfl, hb⟩
    clear hc hz
    go_wp2_with fail
    go_ret2
    refine ⟨none, 0, 0, ?_, btrans B1.out hb, fun _ => rfl, fun h => absurd h E2.out⟩
    rw [E1.out]; rfl
  have hr : (((ws.length : Int) % (W : Int)) != 0) = false := by
    unfold bne
    rw [← Int.natCast_emod, hrem]
    rfl
  replace E0 := hid (E0.out.trans (if_neg (by rintro (h | h); · omega
                                              · exact h hrem)))
  obtain ⟨nb, hnbq⟩ : ∃ nb, ws.length / W = nb := ⟨_, rfl⟩
  have hlen : ws.length = nb * W := by have := Nat.div_add_mod ws.length W; rw [hrem, hnbq, Nat.mul_comm] at this; omega
  have hq : (ws.length : Int) / (W : Int) = (nb : Int) := by rw [← Int.natCast_ediv, hnbq]
  have hnbb : (nb : Int) ≤ 9223372036854775807 := by have := Nat.div_le_self ws.length W; omega
  rw [hnbq] at E0 hD
  have HLEN := hid hlen
  clear hlen hrem hW0 hn hnbq
  by_cases h6 : 65536 < nb
  · have E1 : Hid (decE t ws = 3) := hid (by rw [E0.out, if_pos h6])
    have E2 : Hid (¬ decE t ws = 0) := hid (by rw [E1.out]; omega)
    have h6i : (65536 : Int) < (nb : Int) := by omega
    go_enter Try.func52, Try.ntmps52
    go_wp2_with fail
    with_reducible refine (C2.out _).mono ?_
    rintro e w1 ⟨rfl, hb⟩
    have B1 := hid (btrans (a := w) (by ((with_reducible (repeat (first | assumption | exact Below.refl _ _ | refine bset ?_ (Nat.le_refl _) _ | refine balloc ?_ _ | refine bdrew ?_ | refine bdrewN ?_ _))); done)) hb)
    have hc := (bcell hb).1
    have hz := bsize hb
    clear hb
    go_wp2_with fail
    with_reducible refine (C3.out _).mono ?_
    rintro e w2 ⟨rfl, hb⟩
    clear hc hz
    go_wp2_with fail
    go_ret2
    refine ⟨none, 0, 0, ?_, btrans B1.out hb, fun _ => rfl, fun h => absurd h E2.out⟩
    rw [E1.out]; rfl
  replace E0 := hid (E0.out.trans (if_neg h6))
  have h6i : ¬ (65536 : Int) < (nb : Int) := by omega
  have h6j : (nb : Int) ≤ 65536 := by omega
  obtain ⟨ii, z, hi, hz, h4, h96, hz4⟩ := bun_info2
  have HI := hid hi
  have HZ := hid hz
  have HU := hid (Try.underlying74)
  replace h4 := hid h4
  replace h96 := hid h96
  replace hz4 := hid hz4
  clear hi hz
  have hmW : Hid (∀ i : Nat, i < nb → i * W + W ≤ ws.length) := hid (fun i hi => by rw [HLEN.out, ← Nat.succ_mul]; exact Nat.mul_le_mul_right W hi)
  go_enter Try.func52, Try.ntmps52
  go_wp2_with fail
  with_reducible refine (C2.out _).mono ?_
  rintro e w1 ⟨rfl, hb⟩
  have B1 := hid (btrans (a := w) (by ((with_reducible (repeat (first | assumption | exact Below.refl _ _ | refine bset ?_ (Nat.le_refl _) _ | refine balloc ?_ _ | refine bdrew ?_ | refine bdrewN ?_ _))); done)) hb)
  have TT : Hid (TabIn w1 w.heap.size t) := hid ((hbox.out w 28).keep hb)
  have hc1 := (bcell hb).1
  have hz := bsize hb
  clear hb
  go_wp2_with fail
  with_reducible refine (C3.out _).mono ?_
  rintro e w2 ⟨rfl, hb⟩
  have B2 := hid (btrans B1.out hb)
  have T2 := hid (TT.out.keep hb)
  clear hc1 hz hb
  go_wp2_with fail
  obtain ⟨ga, offa, rfl, hx0⟩ := HL.out (by intro h; rw [h] at hn0; simp at hn0)
  clear hx0
  go_loopg [8, 9] nb (fun gk v8 v9 wr => ∃ (i p : Nat) (xs : List Value), i ≤ nb ∧ Hid (i * W = p) ∧ v9 = .int .i64 p ∧ Hid (gk + i = nb) ∧ Hid (∀ k, k < i → readB t (chunk W ws k) = true) ∧ Hid (wr.ownsRow (w.heap.size + 1) 91 4 v8 i xs) ∧ Hid (Rows4 wr (w.heap.size + 1) v8.ownBlock ((List.range i).map fun k => readO t (chunk W ws k)) xs) ∧ Hid (TabIn wr w.heap.size t) ∧ Hid (Below w.heap.size w wr))
  case atStart => exact ⟨0, 0, [], by omega, hid (Nat.zero_mul _), rfl, by exact Nat.add_zero _, hid (fun k hk => by omega), hid (World.ownsRow_nil _ _ _ _), hid (fun j b hj => by simp at hj), T2, B2⟩
  case round =>
    obtain ⟨i, p, xs, hi, HP, rfl, hg, hall, hown, hrows, htr, hbw⟩ := hrel
    by_cases hlt : i < nb
    · have hpw : p + W ≤ ws.length := by rw [← HP.out]; exact hmW.out i hlt
      have hpwi : (p : Int) + (W : Int) ≤ (cap : Int) := by omega
      have hpli : (p : Int) < (ws.length : Int) := by omega
      have hpc : p < cap := by omega
      have hp0 : (0 : Int) ≤ (p : Int) := by omega
      have hpS : Hid ((i + 1) * W = p + W) := hid (by rw [Nat.succ_mul, HP.out])
      have hck : Hid ((chunk W ws i).length = W) := hid (by unfold chunk; rw [HP.out, List.length_take, List.length_drop]; omega)
      have hcx : Hid (∀ x ∈ chunk W ws i, 0 ≤ x ∧ x ≤ 18446744073709551615) := hid (fun x hx => HX.out x (List.mem_of_mem_drop (List.mem_of_mem_take hx)))
      have hcw : Hid (WordsIn wr (some ⟨ga, offa + p, none⟩) (chunk W ws i)) := hid (by unfold chunk; rw [HP.out]; have := (HL.out.drop p).take W |>.keep hbw.out; simpa [add_none] using this)
      have KR : Hid (∀ v : World, Below wr.heap.size wr v → Calls Try.prog 86 #[.slice (some ⟨ga, offa + p, none⟩) W (cap - p), tabX a0 a1 a2 a3 a4 a5 a6 a7 a8 a9 a10 a11 a12] v (BunP t (chunk W ws i) v)) := hid (fun v hv => by
        have := RB.out v (some ⟨ga, offa + p, none⟩) (cap - p) (chunk W ws i) (hcw.out.keep hv) (by rw [hck.out]; omega) (by rw [hck.out]; exact hWs.out) hok.out (by omega) hcx.out
        rw [hck.out] at this
        exact this)
      have hrd : Hid (∀ h : readB t (chunk W ws i) = false, decE t ws = 210) := hid (fun h => by
        rw [E0.out, if_neg]
        intro ha
        have := List.all_eq_true.1 ha i (List.mem_range.2 hlt)
        rw [h] at this
        cases this)
      obtain ⟨q0, q1, q2, q3, q4, q5, q6, q7, q8, q9, q10, q11, q12⟩ := h13.out _ _ htr.out
      have hwz : w.heap.size < wr.heap.size := World.block_lt_of_cell? wr _ q0
      have v1 : ((p : Int) + (W : Int)).toNat = p + W := by omega
      have v2 : ¬ cap = p := by omega
      have v3 : max ((p : Int) + (W : Int)) 0 = (p : Int) + (W : Int) := by omega
      have v4 : IntKind.i64.wrap (p : Int) = (p : Int) := IntWalk.i64_in _ (by omega)
      have v6 : IntKind.i64.wrap ((p : Int) + (W : Int)) = (p : Int) + (W : Int) := IntWalk.i64_in _ (by omega)
      have v7 : (0 : Int) ≤ (p : Int) + (W : Int) := by omega
      have v8 : (p : Int) ≤ (p : Int) + (W : Int) := by omega
      have v9 : p + W - p = W := by omega
      unfold BunP at KR
      go_upto_region 16 with (fail)
      go_cut [10, 11] (fun v10 v11 wx => ∃ (k : Nat) (vs : Nat → Option Addr × Nat × Nat), v10 = .pointer (some ⟨k, 0, none⟩) ∧ v11 = .bool (readB t (chunk W ws i)) ∧ wx.cell? ⟨k, 0, none⟩ = some (.slice (vs 0).1 (vs 0).2.1 (vs 0).2.2) ∧ wx.cell? ⟨k, 1, none⟩ = some (.slice (vs 1).1 (vs 1).2.1 (vs 1).2.2) ∧ wx.cell? ⟨k, 2, none⟩ = some (.slice (vs 2).1 (vs 2).2.1 (vs 2).2.2) ∧ wx.cell? ⟨k, 3, none⟩ = some (.slice (vs 3).1 (vs 3).2.1 (vs 3).2.2) ∧ Hid (Below wr.heap.size wr wx) ∧
        Hid (readB t (chunk W ws i) = true → RowB wx (w.heap.size + 1) u8.ownBlock (readO t (chunk W ws i)) [.slice (vs 0).1 (vs 0).2.1 (vs 0).2.2, .slice (vs 1).1 (vs 1).2.1 (vs 1).2.2, .slice (vs 2).1 (vs 2).2.1 (vs 2).2.2, .slice (vs 3).1 (vs 3).2.1 (vs 3).2.2]))
      case first =>
        go_wp2
        go_region_with ((with_reducible refine (KR.out _ (by ((with_reducible (repeat (first | assumption | exact Below.refl _ _ | refine bset ?_ (Nat.le_refl _) _ | refine balloc ?_ _ | refine bdrew ?_ | refine bdrewN ?_ _))); done))).mono ?_); rintro e w5 ⟨vs, rfl, hb5, hvs⟩; obtain ⟨hc, hf⟩ := bcell hb5; have hz := hb5.size; (try simp at hz); (try (have hz0 : wr.heap.size < w5.heap.size := (by omega))))
        all_goals
          have B5 : Hid (Below wr.heap.size wr w5) := hid (btrans (a := wr) (by ((with_reducible (repeat (first | assumption | exact Below.refl _ _ | refine bset ?_ (Nat.le_refl _) _ | refine balloc ?_ _ | refine bdrew ?_ | refine bdrewN ?_ _))); done)) hb5)
          clear hc hf
          go_wp2
          go_meet
          case rel =>
            have hlo : ∀ k, u8.ownBlock = some k → k < wr.heap.size := fun k hk => (hown.out.lt k hk).2
            have HV : Hid (readB t (chunk W ws i) = true → ∀ j, j < 4 → OwnO w5 (wr.heap.size) (.slice (vs j).1 (vs j).2.1 (vs j).2.2) (readO t (chunk W ws i) j)) := hid fun hrb j hj => (by first | exact hvs hrb j hj | exact (hvs hrb j hj).base (by simp) | exact hvs trivial j hj | exact (hvs trivial j hj).base (by simp))
            first
              | (refine ⟨w5.heap.size, vs, rfl, rfl, ?_, ?_, ?_, ?_, hid (balloc B5.out _), hid fun h => ?_⟩
                 · rw [cell_of_row _ _ _ _ _ _ (heap_alloc_new _ _)]; rfl
                 · rw [cell_of_row _ _ _ _ _ _ (heap_alloc_new _ _)]; rfl
                 · rw [cell_of_row _ _ _ _ _ _ (heap_alloc_new _ _)]; rfl
                 · rw [cell_of_row _ _ _ _ _ _ (heap_alloc_new _ _)]; rfl
                 · exact RowB.own (v := fun j => .slice (vs j).1 (vs j).2.1 (vs j).2.2) (fun j hj => own_below (HV.out h j hj) (balloc (Below.refl _ _) _)) (by omega) hlo)
              | (have hN : Nil4 w5 wr.heap.size := ((nil4_new wr _).keep (bdrew (Below.refl _ _))).keep hb5
                 obtain ⟨c0, c1, c2, c3⟩ := set4_cells hN (.slice (vs 0).1 (vs 0).2.1 (vs 0).2.2) (.slice (vs 1).1 (vs 1).2.1 (vs 1).2.2) (.slice (vs 2).1 (vs 2).2.1 (vs 2).2.2) (.slice (vs 3).1 (vs 3).2.1 (vs 3).2.2)
                 refine ⟨wr.heap.size, vs, rfl, rfl, c0, c1, c2, c3, hid (set4_below B5.out (Nat.le_refl _) _ _ _ _), hid fun h => ?_⟩
                 exact RowB.own (base := wr.heap.size + 1) (v := fun j => .slice (vs j).1 (vs j).2.1 (vs j).2.2) (fun j hj => OwnO.set4 (by first | exact (by simpa using hvs h j hj) | exact (by simpa using hvs trivial j hj)) (by omega) _ _ _ _) (by omega) (fun k hk => by have := hlo k hk; omega))
      case rest =>
        obtain ⟨k, vs, rfl, rfl, s0, s1, s2, s3, hbx, hrow⟩ := hcut
        have B3 := hid (btrans hbw.out hbx.out)
        have hxz := hbx.out.size
        cases hrb : readB t (chunk W ws i) with
        | false =>
          have E1 := hid (hrd.out hrb)
          have E2 : Hid (¬ decE t ws = 0) := hid (by rw [E1.out]; omega)
          clear hrb
          go_wp2
          go_ret2
          refine ⟨none, 0, 0, ?_, B3.out, fun _ => rfl, fun h => absurd h E2.out⟩
          rw [E1.out]; rfl
        | true =>
          have HR := hid (hrow.out hrb)
          have HRB := hid hrb
          clear hrb hrow
          generalize hN4 : ([.slice (vs 0).1 (vs 0).2.1 (vs 0).2.2, .slice (vs 1).1 (vs 1).2.1 (vs 1).2.2, .slice (vs 2).1 (vs 2).2.1 (vs 2).2.2, .slice (vs 3).1 (vs 3).2.1 (vs 3).2.2] : List Value) = news at HR
          have HN4 := hid hN4
          clear hN4
          go_wp2_with (at_builtin; go_loud (refine wpList_append_lies _ (by rfl) _ _ _ (by rfl) (w.heap.size + 1) 91 ii z 4 96 HU.out HI.out HZ.out h4.out h96.out hz4.out (by omega) u8 i xs (by rfl) ?hown ⟨wc.heap.size, 0, none⟩ 1 1 [.slice (vs 0).1 (vs 0).2.1 (vs 0).2.2, .slice (vs 1).1 (vs 1).2.1 (vs 1).2.2, .slice (vs 2).1 (vs 2).2.1 (vs 2).2.2, .slice (vs 3).1 (vs 3).2.1 (vs 3).2.2] (by rfl) (by rfl) ?hnews ?hone (by omega) ?h63 ?hbytes ?hbase _ rfl ?_))
          case hown => exact own_below hown.out (balloc hbx.out _)
          case hnews => exact World.news_of_block (heap_new_at _ _ _ (by simp))
          case hone => intro u hu; simp only [List.mem_cons, List.not_mem_nil, or_false] at hu; rcases hu with rfl | rfl | rfl | rfl <;> rfl
          case h63 => unfold maxLen; omega
          case hbytes => omega
          case hbase => simp; omega
          intro g3 d3 w7 hown7 hgrow7 hat hlt7
          rw [HN4.out] at hown7
          obtain ⟨W6, hB6, hgrow, hX6⟩ : ∃ W6 : World, Hid (Below wr.heap.size wr W6) ∧ Hid (W6.grownBy w7 u8.ownBlock) ∧ Hid (Below wc.heap.size wc W6) := ⟨_, hid (balloc hbx.out _), hid hgrow7, hid (balloc (Below.refl _ _) _)⟩
          have hat2 : Hid (∀ g : Nat, g < wc.heap.size → some g ≠ u8.ownBlock → some g ≠ some g3) := hid fun g hg hne e => by
            injection e with e
            subst e
            rcases hat with h | h
            · exact hne h.symm
            · first | omega | (simp at h; omega)
          have hs7 : Hid (wc.heap.size ≤ w7.heap.size) := hid (Nat.le_trans hX6.out.size hgrow.out.size)
          have hk7 : Hid (∀ g off, g < wc.heap.size → some g ≠ u8.ownBlock → w7.cell? ⟨g, off, none⟩ = wc.cell? ⟨g, off, none⟩) := hid fun g off hg hne => (hgrow.out.cell_far ⟨g, off, none⟩ (by have := hX6.out.size; show g < _; omega) hne).trans (hX6.out.cell (p := ⟨g, off, none⟩) hg)
          have hkr : Hid (∀ g off, g < wr.heap.size → wc.cell? ⟨g, off, none⟩ = wr.cell? ⟨g, off, none⟩) := hid fun g off hg => hbx.out.cell (p := ⟨g, off, none⟩) hg
          have OW := hid hown7
          have T7 := hid (htr.out.grow hown.out (by omega) hB6.out hgrow.out)
          have B7 := hid (below_grow hbw.out hown.out (by omega) hB6.out hgrow.out)
          have R7 := hid ((hrows.out.far (w' := w7) (r' := some g3) (Nat.le_trans hxz hs7.out) (fun g off _ hg hne => (hk7.out g off (by omega) hne).trans (hkr.out g off hg)) (fun g hg hne => hat2.out g (by omega) hne)).snoc (by rw [List.length_map, List.length_range]; exact hown.out.1) (HR.out.far (w' := w7) (r' := some g3) hs7.out (fun g off _ hg hne => hk7.out g off hg hne) (fun g hg hne => hat2.out g hg hne)))
          clear hown7 hgrow7 hat hlt7 s0 s1 s2 s3
          go_wp2
          go_roundg (nb - (i + 1))
          case measure => have := hg.out; omega
          case rel =>
            refine ⟨i + 1, p + W, xs ++ news, by omega, hpS, by go_num, by show _ + _ = _; omega, hid fun k hk => ?_, OW, hid ?_, T7, B7⟩
            · by_cases h : k < i
              · exact hall.out k h
              · obtain rfl : k = i := by omega
                exact HRB.out
            · rw [List.range_succ, List.map_append]
              exact R7.out
    · obtain rfl : i = nb := by omega
      have hpe : p = ws.length := by rw [← HP.out, HLEN.out]
      obtain rfl := hpe
      have hnb0 : i ≠ 0 := by intro h; have := HLEN.out; rw [h, Nat.zero_mul] at this; omega
      have e1 : Hid (decE t ws = 0) := hid (by rw [E0.out, if_pos]; exact List.all_eq_true.2 fun k hk => hall.out k (List.mem_range.1 hk))
      rcases hown.out.2 with ⟨rfl, h0⟩ | ⟨k, cap', cur, rfl, hrest⟩
      · exact absurd h0 hnb0
      · clear hrest
        have hin := rows4_in hown.out (by simp) hrows.out
        have hin2 := hid hin
        clear hin
        go_wp2
        go_ret2
        refine ⟨some ⟨k, 0, none⟩, i, cap', ?_, hbw.out, fun h => absurd e1.out h, fun _ => ⟨by rw [hD.out, List.length_map, List.length_range], by rw [hD.out]; exact hin2.out⟩⟩
        rw [e1.out]; rfl
end Go.Proofs.Ytcibkoodnfkogaa
