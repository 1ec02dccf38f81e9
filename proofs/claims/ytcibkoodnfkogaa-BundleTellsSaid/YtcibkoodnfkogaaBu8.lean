/- The contract of bundle.Decode. -/
import Derived.Test.YtcibkoodnfkogaaBu7
import Derived.IntWalk
namespace Go.Proofs.Ytcibkoodnfkogaa
open Go.RowKit
set_option linter.unusedVariables false
set_option linter.unusedSimpArgs false
def chunk (W : Nat) (ws : List Int) (i : Nat) : List Int := (ws.drop (i * W)).take W
def decL (t : List Int) (ws : List Int) : List (Nat → List Op) := (List.range (ws.length / (tabW t).toNat)).map fun i => readO t (chunk (tabW t).toNat ws i)
def decE (t : List Int) (ws : List Int) : Int :=
  if tabE t ≠ 0 then tabE t else if ws.length = 0 then 0 else if tabW t = 0 ∨ ws.length % (tabW t).toNat ≠ 0 then 210 else if 65536 < ws.length / (tabW t).toNat then 3 else
    if (List.range (ws.length / (tabW t).toNat)).all (fun i => readB t (chunk (tabW t).toNat ws i)) then 0 else 210
def DecP (t ws : List Int) (w : World) (e : Ending) (w' : World) : Prop :=
  ∃ (A : Option Addr) (n c : Nat), e = .returned (.tuple #[.slice A n c, .int .i64 (decE t ws)]) ∧ Below w.heap.size w w' ∧ (decE t ws ≠ 0 → A = none ∧ n = 0 ∧ c = 0) ∧ (decE t ws = 0 → n = (decL t ws).length ∧ n ≤ c ∧ c ≤ 65536 ∧ BunsIn w' A (decL t ws) ∧ (A = none → c = 0))
theorem part_drew {g o n : Nat} {w w' : World} (h : Part g o n w.drew w') : Part g o n w w' := ⟨⟨h.grow.os, h.grow.tape, h.grow.output, h.grow.size, h.grow.block⟩, h.cell, h.frozen⟩
theorem Done.base {w : World} {b b2 g p : Nat} {l : List Op} (h : Done w b g p l) (hb : b2 ≤ b) : Done w b2 g p l := by
  obtain ⟨v, h1, h2⟩ := h
  exact ⟨v, h1, h2.base hb⟩
theorem Done.slice {w : World} {b g p : Nat} {l : List Op} (h : Done w b g p l) : ∃ x : Option Addr × Nat, w.cell? ⟨g, p, none⟩ = some (.slice x.1 l.length x.2) ∧ OpsIn w x.1 l ∧ l.length ≤ x.2 ∧ (x.1 = none → x.2 = 0) := by
  obtain ⟨v, h1, h2⟩ := h
  rcases h2.2 with ⟨rfl, h0⟩ | ⟨k, cap, cur, rfl, hbg, hk, hnc, rest⟩
  · have : l = [] := List.eq_nil_of_length_eq_zero h0
    subst this
    exact ⟨(none, 0), h1, fun h => absurd rfl h, Nat.zero_le _, fun _ => rfl⟩
  · exact ⟨(some ⟨k, 0, none⟩, cap), h1, own_ops h2 rfl, hnc, fun h => by cases h⟩
theorem done_bun {w : World} {b g o : Nat} {f : Nat → List Op} (h : ∀ j, j < 4 → Done w b g (o + j) (f j)) : BunAt w g o f := by
  obtain ⟨x, hx⟩ := Go.Deep.choose_lt fun j hj => (h j hj).slice
  exact ⟨fun j => (x j).1, fun j => (x j).2, fun j hj => hx j hj⟩
theorem bun_info : ∃ i, Try.prog.info? 91 = some i ∧ i.zero = some (.agg #[.slice none 0 0, .slice none 0 0, .slice none 0 0, .slice none 0 0]) ∧ i.size = 4 ∧ i.bytes = 96 := by
  have h : (Try.prog.info? 91).map (fun i => (i.zero, i.size, i.bytes)) = some (some (.agg #[.slice none 0 0, .slice none 0 0, .slice none 0 0, .slice none 0 0]), 4, 96) := by kernel_rfl
  cases hi : Try.prog.info? 91 with
  | none => rw [hi] at h; cases h
  | some i =>
    rw [hi] at h
    simp at h
    exact ⟨i, rfl, h.1, h.2.1, h.2.2⟩
theorem made_get (n k : Nat) (hk : k < n) : (madeCells (Value.agg #[.slice none 0 0, .slice none 0 0, .slice none 0 0, .slice none 0 0]).cells n)[k]? = some (.slice none 0 0) := by
  unfold madeCells
  rw [Array.getElem?_map, Array.getElem?_range, if_pos hk]
  have h4 : k % (Value.agg #[.slice none 0 0, .slice none 0 0, .slice none 0 0, .slice none 0 0]).cells.size = k % 4 := rfl
  simp only [Option.map_some, h4]
  have : k % 4 = 0 ∨ k % 4 = 1 ∨ k % 4 = 2 ∨ k % 4 = 3 := by omega
  rcases this with h | h | h | h <;> rw [h] <;> rfl
set_option maxHeartbeats 4000000 in
set_option maxRecDepth 100000 in
theorem decode_any (A : Option Addr) (ws : List Int) (cap : Nat) (t : List Int) (w : World) (hl : WordsIn w A ws) (hwx : ∀ x ∈ ws, 0 ≤ x ∧ x ≤ 18446744073709551615) (hc : ws.length ≤ cap) (hcm : cap ≤ 9223372036854775807) (ht : t.length = 13) :
    Calls Try.prog 48 #[.slice A ws.length cap, tabV t] w (DecP t ws w) := by
  obtain ⟨a0, a1, a2, a3, a4, a5, a6, a7, a8, a9, a10, a11, a12, rfl⟩ := thirteen ht
  have C2 := hid (fun (w : World) => tcheck_any [a0, a1, a2, a3, a4, a5, a6, a7, a8, a9, a10, a11, a12] w ht)
  have C3 := hid (fun (w : World) => width_any [a0, a1, a2, a3, a4, a5, a6, a7, a8, a9, a10, a11, a12] w ht)
  have HL := hid hl
  clear hl ht
  have hV : tabV [a0, a1, a2, a3, a4, a5, a6, a7, a8, a9, a10, a11, a12] = tabX a0 a1 a2 a3 a4 a5 a6 a7 a8 a9 a10 a11 a12 := rfl
  rw [hV] at C2 C3 ⊢
  clear hV
  generalize htt : [a0, a1, a2, a3, a4, a5, a6, a7, a8, a9, a10, a11, a12] = t at C2 C3 ⊢
  have hbox := hid (fun w T => htt ▸ TabIn.box a0 a1 a2 a3 a4 a5 a6 a7 a8 a9 a10 a11 a12 w T)
  have HX := hid hwx
  clear htt hwx
  by_cases hT : tabE t = 0
  case neg =>
    have e0 : decE t ws = tabE t := by unfold decE; rw [if_pos hT]
    have hT2 : ¬ decE t ws = 0 := by rw [e0]; exact hT
    have E0 := hid e0
    have E1 := hid hT2
    clear e0 hT2
    go_enter Try.func48, Try.ntmps48
    go_wp2_with fail
    with_reducible refine (C2.out _).mono ?_
    rintro e w1 ⟨rfl, hb⟩
    go_wp2_with fail
    go_ret2
    refine ⟨none, 0, 0, ?_, btrans (a := w) ?_ hb, fun _ => ⟨rfl, rfl, rfl⟩, fun h => absurd h E1.out⟩
    · rw [E0.out]; rfl
    · ((with_reducible (repeat (first | assumption | exact Below.refl _ _ | refine bset ?_ (Nat.le_refl _) _ | refine balloc ?_ _ | refine bdrew ?_ | refine bdrewN ?_ _))); done)
  rw [hT] at C2
  have hok := hid (tabE_iff0 hT)
  have e0 : decE t ws = if ws.length = 0 then 0 else if tabW t = 0 ∨ ws.length % (tabW t).toNat ≠ 0 then 210 else if 65536 < ws.length / (tabW t).toNat then 3 else
    if (List.range (ws.length / (tabW t).toNat)).all (fun i => readB t (chunk (tabW t).toNat ws i)) then 0 else 210 := by unfold decE; rw [if_neg (fun h => h hT)]
  have hws := tabW_sum hok.out
  have hwb := sumU_bd hok.out 4 (by omega)
  obtain ⟨W, hW⟩ : ∃ W : Nat, tabW t = W := ⟨(tabW t).toNat, by omega⟩
  have hW32 : W ≤ 32 := by omega
  have hD : Hid (decL t ws = (List.range (ws.length / W)).map fun i => readO t (chunk W ws i)) := hid (by unfold decL; rw [hW, Int.toNat_natCast])
  rw [hW, Int.toNat_natCast] at e0
  rw [hW] at C3
  have hWs : Hid ((W : Int) = sumU t 4) := hid (by rw [← hW]; exact hws)
  clear hT hws hwb hW
  have E0 := hid e0
  clear e0
  have hci : (ws.length : Int) ≤ (cap : Int) := by omega
  have hcmi : (cap : Int) ≤ 9223372036854775807 := by omega
  by_cases hn : ws.length = 0
  · have E1 : Hid (decE t ws = 0) := hid (by rw [E0.out, if_pos hn])
    have E2 : Hid (decL t ws = []) := hid (by rw [hD.out, hn]; simp)
    have hni : (ws.length : Int) = 0 := by omega
    have hnb : ((ws.length : Int) == 0) = true := by rw [hni]; rfl
    clear hn
    go_enter Try.func48, Try.ntmps48
    go_wp2_with fail
    with_reducible refine (C2.out _).mono ?_
    rintro e w1 ⟨rfl, hb⟩
    have B1 := hid (btrans (a := w) (by ((with_reducible (repeat (first | assumption | exact Below.refl _ _ | refine bset ?_ (Nat.le_refl _) _ | refine balloc ?_ _ | refine bdrew ?_ | refine bdrewN ?_ _))); done)) hb)
    have hc := (bcell hb).1
    have hz := bsize hb
    clear hb
    go_wp2_with fail
    with_reducible refine (C3.out _).mono ?_
    rintro e w2 ⟨rfl, hb⟩
    clear hc hz
    go_wp2_with fail
    go_ret2
    refine ⟨none, 0, 0, ?_, btrans B1.out hb, fun _ => ⟨rfl, rfl, rfl⟩, fun _ => ⟨by rw [E2.out]; rfl, Nat.le_refl _, Nat.zero_le _, by rw [E2.out]; exact fun h => absurd rfl h, fun _ => rfl⟩⟩
    rw [E1.out]; rfl
  have hnb : ((ws.length : Int) == 0) = false := by rw [Bool.eq_false_iff]; intro h; have := eq_of_beq h; omega
  have hn0 : (0 : Int) < (ws.length : Int) := by omega
  replace E0 := hid (E0.out.trans (if_neg hn))
  by_cases hW0 : W = 0
  · have E1 : Hid (decE t ws = 210) := hid (by rw [E0.out, if_pos (.inl (by omega))])
    have hwi : ((W : Int) == 0) = true := by rw [hW0]; rfl
    have E2 : Hid (¬ decE t ws = 0) := hid (by rw [E1.out]; omega)
    clear hW0 hn
    go_enter Try.func48, Try.ntmps48
    go_wp2_with fail
    with_reducible refine (C2.out _).mono ?_
    rintro e w1 ⟨rfl, hb⟩
    have B1 := hid (btrans (a := w) (by ((with_reducible (repeat (first | assumption | exact Below.refl _ _ | refine bset ?_ (Nat.le_refl _) _ | refine balloc ?_ _ | refine bdrew ?_ | refine bdrewN ?_ _))); done)) hb)
    have hc := (bcell hb).1
    have hz := bsize hb
    clear hb
    go_wp2_with fail
    with_reducible refine (C3.out _).mono ?_
    rintro e w2 ⟨rfl, hb⟩
    clear hc hz
    go_wp2_with fail
    go_ret2
    refine ⟨none, 0, 0, ?_, btrans B1.out hb, fun _ => ⟨rfl, rfl, rfl⟩, fun h => absurd h E2.out⟩
    rw [E1.out]; rfl
  have hwi : ((W : Int) == 0) = false := by rw [Bool.eq_false_iff]; intro h; have := eq_of_beq h; omega
  have hw1 : (1 : Int) ≤ (W : Int) := by omega
  by_cases hrem : ws.length % W = 0
  case neg =>
    have E1 : Hid (decE t ws = 210) := hid (by rw [E0.out, if_pos (.inr hrem)])
    have E2 : Hid (¬ decE t ws = 0) := hid (by rw [E1.out]; omega)
    have hr : (((ws.length : Int) % (W : Int)) != 0) = true := by
      unfold bne
      rw [← Int.natCast_emod]
      have : (((ws.length % W : Nat) : Int) == 0) = false := by rw [Bool.eq_false_iff]; intro h; have := eq_of_beq h; omega
      rw [this]; rfl
    clear hW0 hn hrem
    go_enter Try.func48, Try.ntmps48
    go_wp2_with fail
    with_reducible refine (C2.out _).mono ?_
    rintro e w1 ⟨rfl, hb⟩
    have B1 := hid (btrans (a := w) (by ((with_reducible (repeat (first | assumption | exact Below.refl _ _ | refine bset ?_ (Nat.le_refl _) _ | refine balloc ?_ _ | refine bdrew ?_ | refine bdrewN ?_ _))); done)) hb)
    have hc := (bcell hb).1
    have hz := bsize hb
    clear hb
    go_wp2_with fail
    with_reducible refine (C3.out _).mono ?_
    rintro e w2 ⟨rfl, hb⟩
    clear hc hz
    go_wp2_with fail
    go_ret2
    refine ⟨none, 0, 0, ?_, btrans B1.out hb, fun _ => ⟨rfl, rfl, rfl⟩, fun h => absurd h E2.out⟩
    rw [E1.out]; rfl
  have hr : (((ws.length : Int) % (W : Int)) != 0) = false := by
    unfold bne
    rw [← Int.natCast_emod, hrem]
    rfl
  replace E0 := hid (E0.out.trans (if_neg (by rintro (h | h); · omega
                                              · exact h hrem)))
  obtain ⟨nb, hnbq⟩ : ∃ nb, ws.length / W = nb := ⟨_, rfl⟩
  have hlen : ws.length = nb * W := by have := Nat.div_add_mod ws.length W; rw [hrem, hnbq, Nat.mul_comm] at this; omega
  have hq : (ws.length : Int) / (W : Int) = (nb : Int) := by rw [← Int.natCast_ediv, hnbq]
  have hnbb : (nb : Int) ≤ 9223372036854775807 := by have := Nat.div_le_self ws.length W; omega
  rw [hnbq] at E0 hD
  have HLEN := hid hlen
  clear hlen hrem hW0 hn hnbq
  by_cases h6 : 65536 < nb
  · have E1 : Hid (decE t ws = 3) := hid (by rw [E0.out, if_pos h6])
    have E2 : Hid (¬ decE t ws = 0) := hid (by rw [E1.out]; omega)
    have h6i : (65536 : Int) < (nb : Int) := by omega
    go_enter Try.func48, Try.ntmps48
    go_wp2_with fail
    with_reducible refine (C2.out _).mono ?_
    rintro e w1 ⟨rfl, hb⟩
    have B1 := hid (btrans (a := w) (by ((with_reducible (repeat (first | assumption | exact Below.refl _ _ | refine bset ?_ (Nat.le_refl _) _ | refine balloc ?_ _ | refine bdrew ?_ | refine bdrewN ?_ _))); done)) hb)
    have hc := (bcell hb).1
    have hz := bsize hb
    clear hb
    go_wp2_with fail
    with_reducible refine (C3.out _).mono ?_
    rintro e w2 ⟨rfl, hb⟩
    clear hc hz
    go_wp2_with fail
    go_ret2
    refine ⟨none, 0, 0, ?_, btrans B1.out hb, fun _ => ⟨rfl, rfl, rfl⟩, fun h => absurd h E2.out⟩
    rw [E1.out]; rfl
  replace E0 := hid (E0.out.trans (if_neg h6))
  have h6i : ¬ (65536 : Int) < (nb : Int) := by omega
  have h6j : (nb : Int) ≤ 65536 := by omega
  obtain ⟨bi, hbi, hbz, hb4, hb96⟩ := bun_info
  have hmk := fun w => run_make (P := Try.prog) w 74 91 bi _ Try.underlying74 hbi hbz .i64 .i64 (nb : Int) (nb : Int) (by omega) (by omega) (by rw [hb96]; omega) (by omega)
  rw [hb4, Int.toNat_natCast] at hmk
  clear hbi hbz hb4 hb96
  have hmW : Hid (∀ i : Nat, i < nb → i * W + W ≤ ws.length) := hid (fun i hi => by rw [HLEN.out, ← Nat.succ_mul]; exact Nat.mul_le_mul_right W hi)
  go_enter Try.func48, Try.ntmps48
  go_wp2_with fail
  with_reducible refine (C2.out _).mono ?_
  rintro e w1 ⟨rfl, hb⟩
  have B1 := hid (btrans (a := w) (by ((with_reducible (repeat (first | assumption | exact Below.refl _ _ | refine bset ?_ (Nat.le_refl _) _ | refine balloc ?_ _ | refine bdrew ?_ | refine bdrewN ?_ _))); done)) hb)
  have TT : Hid (TabIn w1 w.heap.size t) := hid ((hbox.out w 28).keep hb)
  have hc1 := (bcell hb).1
  have hz := bsize hb
  clear hb
  go_wp2_with fail
  with_reducible refine (C3.out _).mono ?_
  rintro e w2 ⟨rfl, hb⟩
  have B2 := hid (btrans B1.out hb)
  have T2 := hid (TT.out.keep hb)
  clear hc1 hz hb
  go_wp2_with fail
  clear hmk
  obtain ⟨ga, offa, rfl, hx0⟩ := HL.out (by intro h; rw [h] at hn0; simp at hn0)
  have hga : ga < w.heap.size := World.block_lt_of_cell? w _ (hx0 0 ws[0] (List.getElem?_eq_getElem (by omega)))
  clear hx0
  go_loopg [42] nb (fun gk v wr => ∃ i : Nat, i ≤ nb ∧ v = .int .i64 i ∧ Hid (gk + i = nb) ∧ Hid (∀ k, k < i → readB t (chunk W ws k) = true ∧ ∀ j, j < 4 → Done wr (w2.heap.size + 1) w2.heap.size (k * 4 + j) (readO t (chunk W ws k) j)) ∧
    Hid (∀ off, i * 4 ≤ off → off < nb * 4 → wr.cell? ⟨w2.heap.size, off, none⟩ = some (.slice none 0 0)) ∧ Hid (∀ off, off < nb * 4 → wr.frozen? ⟨w2.heap.size, off, none⟩ = false) ∧ Hid (TabIn wr w.heap.size t) ∧ Hid (Below w.heap.size w wr) ∧ Hid (w2.heap.size < wr.heap.size))
  case atStart =>
    refine ⟨0, by omega, rfl, by exact Nat.add_zero _, fun k hk => by omega, hid fun off _ ho => ?_, hid fun off ho => by simp, hid (T2.out.keep (balloc (Below.refl _ _) _)), hid (btrans B2.out (balloc (Below.refl _ _) _)), hid (by simp)⟩
    rw [cell_of_row _ _ _ _ _ _ (heap_alloc_new _ _)]
    exact made_get _ _ ho
  case round =>
    obtain ⟨i, hi, rfl, hg, hall, hzc, hzf, htr, hbw, hgz⟩ := hrel
    by_cases hlt : i < nb
    · obtain ⟨p, hp⟩ : ∃ p : Nat, i * W = p := ⟨_, rfl⟩
      have hm1 : (i : Int) * (W : Int) = (p : Int) := by rw [← Int.natCast_mul, hp]
      have hm2 : ((i : Int) + 1) * (W : Int) = (p : Int) + (W : Int) := by rw [Int.add_mul, Int.one_mul, hm1]
      have hpw : p + W ≤ ws.length := by rw [← hp]; exact hmW.out i hlt
      have hpwi : (p : Int) + (W : Int) ≤ (cap : Int) := by omega
      have hpc : p < cap := by omega
      have hp0 : (0 : Int) ≤ (p : Int) := by omega
      have hij : (i : Int) < (nb : Int) := by omega
      have hi0 : (0 : Int) ≤ (i : Int) := by omega
      have HP := hid hp
      clear hp
      have hck : Hid ((chunk W ws i).length = W) := hid (by unfold chunk; rw [HP.out, List.length_take, List.length_drop]; omega)
      have hcw : Hid (WordsIn wr (some ⟨ga, offa + p, none⟩) (chunk W ws i)) := hid (by unfold chunk; rw [HP.out]; have := (HL.out.drop p).take W |>.keep hbw.out; simpa [add_none] using this)
      have hcx : Hid (∀ x ∈ chunk W ws i, 0 ≤ x ∧ x ≤ 18446744073709551615) := hid (fun x hx => HX.out x (List.mem_of_mem_drop (List.mem_of_mem_take hx)))
      have hwz : w.heap.size < w2.heap.size := World.block_lt_of_cell? w2 _ (T2.out 0 (by omega))
      have KR : Hid (∀ v : World, v = wr.drew → Calls Try.prog 83 #[.pointer (some ⟨w2.heap.size, i * 4, none⟩), .slice (some ⟨ga, offa + p, none⟩) W (cap - p), .pointer (some ⟨w.heap.size, 0, none⟩)] v (ReadP w2.heap.size (i * 4) t (chunk W ws i) v)) := hid (fun v hv => by
        subst hv
        have := read_any w2.heap.size (i * 4) w.heap.size (some ⟨ga, offa + p, none⟩) (cap - p) (chunk W ws i) t wr.drew (fun j hj => hzc.out (i * 4 + j) (by omega) (by omega)) (fun j hj => hzf.out (i * 4 + j) (by omega)) hcw.out (fun a ha => by injection ha with ha; subst ha; show ga ≠ w2.heap.size; omega) (by rw [hck.out]; omega) (by rw [hck.out]; exact hWs.out) hok.out htr.out (by omega) (by omega) hcx.out
        rw [hck.out] at this
        exact this)
      have hrd : Hid (∀ h : readB t (chunk W ws i) = false, decE t ws = 210) := hid (fun h => by
        rw [E0.out, if_neg]
        intro ha
        have := List.all_eq_true.1 ha i (List.mem_range.2 hlt)
        rw [h] at this
        cases this)
      have hgz2 := hgz.out
      have v1 : ((p : Int) + (W : Int)).toNat = p + W := by omega
      have v2 : ¬ cap = p := by omega
      have v3 : max ((p : Int) + (W : Int)) 0 = (p : Int) + (W : Int) := by omega
      have v4 : IntKind.i64.wrap (p : Int) = (p : Int) := IntWalk.i64_in _ (by omega)
      have v5 : IntKind.i64.wrap ((i : Int) + 1) = (i : Int) + 1 := IntWalk.i64_in _ (by omega)
      have v6 : IntKind.i64.wrap ((p : Int) + (W : Int)) = (p : Int) + (W : Int) := IntWalk.i64_in _ (by omega)
      have v7 : (0 : Int) ≤ (p : Int) + (W : Int) := by omega
      have v8 : (p : Int) ≤ (p : Int) + (W : Int) := by omega
      have v9 : p + W - p = W := by omega
      cases hrb : readB t (chunk W ws i)
      · have e1 := hid (hrd.out hrb)
        unfold ReadP at KR
        rw [hrb] at KR
        go_wp2
        go_region_with ((with_reducible refine (KR.out _ rfl).mono ?_); rintro e w5 ⟨rfl, hpt, hdn⟩)
        all_goals clear v1 v2 v3 v4 v5 v6 v7 v8 v9
        all_goals
          have P5 := hid (part_drew hpt)
          have B5 : Hid (Below w.heap.size w w5) := hid (hbw.out.grown P5.out.grow hbw.out.size (fun k hk => by injection hk with hk; omega))
          clear hpt hdn
          go_wp2
          go_ret2
          refine ⟨none, 0, 0, ?_, B5.out, fun _ => ⟨rfl, rfl, rfl⟩, fun h => by rw [e1.out] at h; omega⟩
          rw [e1.out]; rfl
      · unfold ReadP at KR
        rw [hrb] at KR
        go_wp2
        go_region_with ((with_reducible refine (KR.out _ rfl).mono ?_); rintro e w5 ⟨rfl, hpt, hdn⟩)
        all_goals clear v1 v2 v3 v4 v5 v6 v7 v8 v9
        all_goals
          have P5 := hid (part_drew hpt)
          have B5 : Hid (Below w.heap.size w w5) := hid (hbw.out.grown P5.out.grow hbw.out.size (fun k hk => by injection hk with hk; omega))
          have D5 := hid hdn
          clear hpt hdn
          go_wp2
          go_roundg (nb - (i + 1))
          case measure => have := hg.out; omega
          case rel =>
            refine ⟨i + 1, by omega, by go_num, by show _ + _ = _; omega, hid fun k hk => ?_, hid fun off ho1 ho2 => (P5.out.cell off (by omega)).trans (hzc.out off (by omega) ho2), hid fun off ho => (P5.out.frozen off).trans (hzf.out off ho), hid (htr.out.part P5.out (by omega)), B5, hid (by have := P5.out.grow.size; omega)⟩
            by_cases h : k < i
            · exact ⟨(hall.out k h).1, fun j hj => ((hall.out k h).2 j hj).part P5.out (by omega) (by omega)⟩
            · obtain rfl : k = i := by omega
              exact ⟨hrb, fun j hj => (D5.out (by first | trivial | rfl) j hj).base hgz2⟩
    · obtain rfl : i = nb := by omega
      have e1 : Hid (decE t ws = 0) := hid (by rw [E0.out, if_pos]; exact List.all_eq_true.2 fun k hk => (hall.out k (List.mem_range.1 hk)).1)
      have hin : Hid (BunsIn wr (some ⟨w2.heap.size, 0, none⟩) (decL t ws)) := hid (fun _ => ⟨_, 0, rfl, fun k b hk => by
        rw [hD.out, List.getElem?_map] at hk
        rcases hr2 : (List.range i)[k]? with _ | m
        · rw [hr2] at hk; cases hk
        · rw [hr2] at hk
          have hm := List.getElem?_eq_some_iff.1 hr2
          obtain ⟨hm1, hm2⟩ := hm
          rw [List.getElem_range] at hm2
          subst hm2
          injection hk with hk
          subst hk
          rw [Nat.zero_add]
          exact done_bun (hall.out k (by simpa using hm1)).2⟩)
      go_wp2
      go_ret2
      refine ⟨some ⟨w2.heap.size, 0, none⟩, i, i, ?_, hbw.out, fun h => absurd e1.out h, fun _ => ⟨by rw [hD.out]; simp, Nat.le_refl _, by omega, hin.out, fun h => by cases h⟩⟩
      rw [e1.out]; rfl
end Go.Proofs.Ytcibkoodnfkogaa
