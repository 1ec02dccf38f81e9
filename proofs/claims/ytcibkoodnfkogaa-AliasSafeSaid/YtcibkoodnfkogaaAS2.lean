/- done: one operation on registers and cells. -/
import Derived.Test.YtcibkoodnfkogaaAS1
import Derived.Test.YtcibkoodnfkogaaOps2
import Derived.Test.YtcibkoodnfkogaaReck
import Derived.BigQuiet
import Derived.Deep.QuietTactic
namespace Go.Proofs.Ytcibkoodnfkogaa
open Go.RowKit
set_option linter.unusedVariables false
set_option linter.unusedSimpArgs false
/-- Blocks gr and gm may be turned, and new blocks are there: all else is as it was. -/
structure Turned (gr gm : Nat) (w w' : World) : Prop where
  os : w'.os = w.os
  tape : w'.tape = w.tape
  output : w'.output = w.output
  size : w.heap.size ≤ w'.heap.size
  block : ∀ k, k < w.heap.size → k ≠ gr → k ≠ gm → w'.heap[k]? = w.heap[k]?
theorem Turned.of_below {gr gm : Nat} {w w' : World} (h : Below w.heap.size w w') : Turned gr gm w w' := ⟨h.os, h.tape, h.output, h.size, fun k hk _ _ => h.block k hk⟩
theorem Turned.below {gr gm : Nat} {w0 w w' : World} (h : Turned gr gm w w') (hb : Below w0.heap.size w0 w) (h1 : w0.heap.size ≤ gr) (h2 : w0.heap.size ≤ gm) : Below w0.heap.size w0 w' :=
  ⟨h.os.trans hb.os, h.tape.trans hb.tape, h.output.trans hb.output, Nat.le_trans hb.size h.size, fun k hk => (h.block k (Nat.lt_of_lt_of_le hk hb.size) (by omega) (by omega)).trans (hb.block k hk)⟩
theorem Turned.set {gr gm : Nat} {w w' : World} (h : Turned gr gm w w') {a : Addr} (ha : a.block = gr ∨ a.block = gm) (v : Value) : Turned gr gm w (w'.setCell a v) :=
  ⟨h.os, h.tape, h.output, by rw [World.size_setCell]; exact h.size, fun k hk h1 h2 => by
    rw [heap_setCell_other _ _ _ _ (by rcases ha with e | e <;> rw [e] <;> assumption)]
    exact h.block k hk h1 h2⟩
def alB (o : Op) : Bool := chk o && decide (1 ≤ o.k ∧ o.k ≤ 17)
def celN (o : Op) (R : List Int) : Nat := ((R[o.a.toNat]?.getD 0 + o.n) % 256).toNat
/-- The cell that it meets; is it done; the registers and cells behind it. -/
def doC (o : Op) (R : List Int) : Int := if alB o ∧ (o.k = 15 ∨ o.k = 16) then celN o R else -1
def doB (o : Op) (R : List Int) : Bool := alB o && (decide (o.k = 1 ∨ 15 ≤ o.k) || rckE o.k (R[o.b.toNat]?.getD 0) == 0)
def doR (o : Op) (R M : List Int) : List Int :=
  if doB o R = false then R else if o.k = 1 then R.set o.d.toNat o.n else if o.k = 15 then R.set o.d.toNat (M[celN o R]?.getD 0) else if o.k = 16 ∨ o.k = 17 then R else R.set o.d.toNat (rckN o.k (R[o.a.toNat]?.getD 0) (R[o.b.toNat]?.getD 0))
def doM (o : Op) (R M : List Int) : List Int := if doB o R = true ∧ o.k = 16 then M.set (celN o R) (R[o.b.toNat]?.getD 0) else M
def DoneP (gr gm : Nat) (o : Op) (R M : List Int) (w : World) (e : Ending) (w' : World) : Prop :=
  e = .returned (.tuple #[.int .i64 (doC o R), .bool (doB o R)]) ∧ IntsAt w' gr 45 (doR o R M) ∧ IntsAt w' gm 46 (doM o R M) ∧ Turned gr gm w w'
theorem chk_bd2 {o : Op} (h : chk o = true) : o.d ≤ 31 ∧ o.a ≤ 31 ∧ o.b ≤ 31 := by
  unfold chk at h
  simp only [Bool.and_eq_true, decide_eq_true_eq] at h
  obtain ⟨⟨⟨⟨⟨⟨⟨⟨h0, h1⟩, h2⟩, h3⟩, h4⟩, h5⟩, h6⟩, h7⟩, h8⟩ := h
  exact ⟨h1, h2, h3⟩
theorem Turned.set2 {gr gm : Nat} {w w' : World} (h : Turned gr gm w w') (i : Nat) (v : Value) : Turned gr gm w (w'.setCell ⟨gr, i, none⟩ v) := h.set (Or.inl rfl) v
theorem Turned.set3 {gr gm : Nat} {w w' : World} (h : Turned gr gm w w') (i : Nat) (v : Value) : Turned gr gm w (w'.setCell ⟨gm, i, none⟩ v) := h.set (Or.inr rfl) v
theorem Turned.drew {gr gm : Nat} {w w' : World} (h : Turned gr gm w w') : Turned gr gm w w'.drew := ⟨h.os, h.tape, h.output, h.size, h.block⟩
theorem Turned.drewN {gr gm : Nat} {w w' : World} (h : Turned gr gm w w') (n : Nat) : Turned gr gm w (w'.drewN n) := ⟨h.os, h.tape, h.output, h.size, h.block⟩
set_option maxHeartbeats 4000000 in
set_option maxRecDepth 100000 in
theorem done_any (o : Op) (gr gm : Nat) (R M : List Int) (w : World) (hwf : o.wf) (hR : IntsAt w gr 45 R) (hM : IntsAt w gm 46 M) (hne : gr ≠ gm) (hr : R.length = 32) (hm : M.length = 256) (hR64 : I64s R) (hM64 : I64s M) :
    Calls Try.prog 33 #[o.val, .pointer (some ⟨gr, 0, none⟩), .pointer (some ⟨gm, 0, none⟩)] w (DoneP gr gm o R M w) := by
  have C1 := hid (fun w => check_any o w hwf)
  have HR := hid hR
  have HM := hid hM
  obtain ⟨k, d, a, b, n⟩ := o
  obtain ⟨_, _, hd0, _, ha0, _, hb0, _, hn0, hn1⟩ := hwf
  simp only at hd0 ha0 hb0 hn0 hn1
  cases hA : alB ⟨k, d, a, b, n⟩ with
  | false =>
    have e2 : doB ⟨k, d, a, b, n⟩ R = false := by unfold doB; rw [hA]; rfl
    have e1 : doC ⟨k, d, a, b, n⟩ R = -1 := by unfold doC; rw [if_neg (by rw [hA]; simp)]
    have e3 : doR ⟨k, d, a, b, n⟩ R M = R := by unfold doR; rw [if_pos e2]
    have e4 : doM ⟨k, d, a, b, n⟩ R M = M := by unfold doM; rw [if_neg (by rw [e2]; simp)]
    unfold DoneP
    rw [e1, e2, e3, e4]
    clear e1 e2 e3 e4 hR hM
    cases hc : chk ⟨k, d, a, b, n⟩ with
    | false =>
      have hce : Hid (chkE ⟨k, d, a, b, n⟩ = 30) := hid (by unfold chkE; rw [hc]; rfl)
      go_enter Try.func33, Try.ntmps33
      go_wp2_with fail
      with_reducible refine (C1.out _).mono ?_
      rintro e w1 ⟨rfl, hb⟩
      rw [hce.out]
      have B1 := hid (btrans (a := w) (by ((with_reducible (repeat (first | assumption | exact Below.refl _ _ | refine bset ?_ (Nat.le_refl _) _ | refine balloc ?_ _ | refine bdrew ?_ | refine bdrewN ?_ _))); done)) hb)
      clear hb
      go_wp2
      go_ret2
      exact ⟨rfl, HR.out.keep B1.out, HM.out.keep B1.out, Turned.of_below B1.out⟩
    | true =>
      have hk : k < 1 ∨ 17 < k := by unfold alB at hA; rw [hc, Bool.true_and, decide_eq_false_iff_not] at hA; simp only at hA; omega
      have hce : Hid (chkE ⟨k, d, a, b, n⟩ = 0) := hid (by unfold chkE; rw [hc]; rfl)
      rcases hk with hk | hk
      · go_enter Try.func33, Try.ntmps33
        go_wp2_with fail
        with_reducible refine (C1.out _).mono ?_
        rintro e w1 ⟨rfl, hb⟩
        rw [hce.out]
        have B1 := hid (btrans (a := w) (by ((with_reducible (repeat (first | assumption | exact Below.refl _ _ | refine bset ?_ (Nat.le_refl _) _ | refine balloc ?_ _ | refine bdrew ?_ | refine bdrewN ?_ _))); done)) hb)
        have hc1 := (bcell hb).1
        clear hb
        go_wp2
        go_ret2
        exact ⟨rfl, HR.out.keep B1.out, HM.out.keep B1.out, Turned.of_below B1.out⟩
      · have hk2 : ¬ k < 1 := by omega
        go_enter Try.func33, Try.ntmps33
        go_wp2_with fail
        with_reducible refine (C1.out _).mono ?_
        rintro e w1 ⟨rfl, hb⟩
        rw [hce.out]
        have B1 := hid (btrans (a := w) (by ((with_reducible (repeat (first | assumption | exact Below.refl _ _ | refine bset ?_ (Nat.le_refl _) _ | refine balloc ?_ _ | refine bdrew ?_ | refine bdrewN ?_ _))); done)) hb)
        have hc1 := (bcell hb).1
        clear hb
        go_wp2
        go_ret2
        exact ⟨rfl, HR.out.keep B1.out, HM.out.keep B1.out, Turned.of_below B1.out⟩
  | true =>
    have hc : chk ⟨k, d, a, b, n⟩ = true := by unfold alB at hA; rw [Bool.and_eq_true] at hA; exact hA.1
    have hce : Hid (chkE ⟨k, d, a, b, n⟩ = 0) := hid (by unfold chkE; rw [hc]; rfl)
    have hk : 1 ≤ k ∧ k ≤ 17 := by unfold alB at hA; rw [hc, Bool.true_and, decide_eq_true_eq] at hA; exact hA
    have hbd := chk_bd2 hc
    obtain ⟨hk1, hk17⟩ := hk
    obtain ⟨hd1, ha1, hb1⟩ := hbd
    simp only at hd1 ha1 hb1
    obtain ⟨d, rfl⟩ := Int.eq_ofNat_of_zero_le hd0
    obtain ⟨a, rfl⟩ := Int.eq_ofNat_of_zero_le ha0
    obtain ⟨b, rfl⟩ := Int.eq_ofNat_of_zero_le hb0
    have hal : a < R.length := by omega
    have hbl : b < R.length := by omega
    have hdl : d < R.length := by omega
    obtain ⟨c, hcell⟩ : ∃ c : Nat, (R[a] + n) % 256 = (c : Int) := ⟨((R[a] + n) % 256).toNat, by omega⟩
    have hc256 : c < M.length := by omega
    have ra := hR.cell a hal
    have rb := hR.cell b hbl
    have rd := hR.cell d hdl
    have fd := hR.frozen d
    have rc := hM.cell c hc256
    have fc := hM.frozen c
    have hbb := hR64 R[b] (List.getElem_mem hbl)
    have C2 := hid (fun w => reckon_any k R[a] R[b] w hbb.1 hbb.2)
    have xa : R[a]?.getD 0 = R[a] := by rw [List.getElem?_eq_getElem hal]; rfl
    have xb : R[b]?.getD 0 = R[b] := by rw [List.getElem?_eq_getElem hbl]; rfl
    have xc : M[c]?.getD 0 = M[c] := by rw [List.getElem?_eq_getElem hc256]; rfl
    have hcN : celN ⟨k, d, a, b, n⟩ R = c := by unfold celN; simp only [Int.toNat_natCast]; rw [xa, hcell]; omega
    have hD0 : doB ⟨k, d, a, b, n⟩ R = (decide (k = 1 ∨ 15 ≤ k) || rckE k R[b] == 0) := by unfold doB; rw [hA]; simp only [Int.toNat_natCast, Bool.true_and]; rw [xb]
    have hka : ¬ k < 1 := by omega
    have hkb : ¬ 17 < k := by omega
    have hfin : Hid (∀ (e : Ending) (w' : World), e = .returned (.tuple #[.int .i64 (if k = 15 ∨ k = 16 then (c : Int) else -1), .bool (decide (k = 1 ∨ 15 ≤ k) || rckE k R[b] == 0)]) →
        IntsAt w' gr 45 (if (decide (k = 1 ∨ 15 ≤ k) || rckE k R[b] == 0) = false then R else if k = 1 then R.set d n else if k = 15 then R.set d M[c] else if k = 16 ∨ k = 17 then R else R.set d (rckN k R[a] R[b])) →
        IntsAt w' gm 46 (if (decide (k = 1 ∨ 15 ≤ k) || rckE k R[b] == 0) = true ∧ k = 16 then M.set c R[b] else M) → Turned gr gm w w' → DoneP gr gm ⟨k, d, a, b, n⟩ R M w e w') := hid fun e w' h1 h2 h3 h4 => by
      unfold DoneP doC doR doM
      rw [hD0, hcN, hA]
      simp only [Int.toNat_natCast, true_and]
      rw [xa, xb, xc]
      exact ⟨h1, h2, h3, h4⟩
    clear hD0 hcN xa xb xc hR64 hM64 hR hM hbb
    generalize R[a] = va at *
    generalize R[b] = vb at *
    generalize M[c] = vc at *
    generalize R[d] = vd at *
    have HAA := hid hA
    clear hA hc
    go_enter Try.func33, Try.ntmps33
    go_wp2_with fail
    with_reducible refine (C1.out _).mono ?_
    rintro e w1 ⟨rfl, hb⟩
    rw [hce.out]
    have B1 := hid (btrans (a := w) (by ((with_reducible (repeat (first | assumption | exact Below.refl _ _ | refine bset ?_ (Nat.le_refl _) _ | refine balloc ?_ _ | refine bdrew ?_ | refine bdrewN ?_ _))); done)) hb)
    have hc1 := (bcell hb).1
    replace fd := frozen_keep fd HR.out.lt B1.out
    replace fc := frozen_keep fc HM.out.lt B1.out
    replace ra := cell_keep ra B1.out
    replace rb := cell_keep rb B1.out
    replace rd := cell_keep rd B1.out
    replace rc := cell_keep rc B1.out
    have z0 : w1.cell? ⟨w.heap.size, 0, none⟩ = some (.int .i8 k) := by go_simp
    have z1 : w1.cell? ⟨w.heap.size, 1, none⟩ = some (.int .u8 d) := by go_simp
    have z2 : w1.cell? ⟨w.heap.size, 2, none⟩ = some (.int .u8 a) := by go_simp
    have z3 : w1.cell? ⟨w.heap.size, 3, none⟩ = some (.int .u8 b) := by go_simp
    have z4 : w1.cell? ⟨w.heap.size, 4, none⟩ = some (.int .i64 n) := by go_simp
    clear hb hc1
    go_wp2
    go_quiet (fail)
    have B2 := hid (bdrewN B1.out nq)
    replace fd : (w1.drewN nq).frozen? _ = _ := fd
    replace fc : (w1.drewN nq).frozen? _ = _ := fc
    replace ra : (w1.drewN nq).cell? _ = _ := ra
    replace rb : (w1.drewN nq).cell? _ = _ := rb
    replace rc : (w1.drewN nq).cell? _ = _ := rc
    replace rd : (w1.drewN nq).cell? _ = _ := rd
    replace z0 : (w1.drewN nq).cell? _ = _ := z0
    replace z1 : (w1.drewN nq).cell? _ = _ := z1
    replace z2 : (w1.drewN nq).cell? _ = _ := z2
    replace z3 : (w1.drewN nq).cell? _ = _ := z3
    replace z4 : (w1.drewN nq).cell? _ = _ := z4
    clear B1
    generalize w1.drewN nq = wq at *
    have K2 := hid (HR.out.keep B2.out)
    have K3 := hid (HM.out.keep B2.out)
    go_wp2
    · obtain rfl : k = 1 := eq_of_beq (by assumption)
      go_region
      go_wp2
      go_ret2
      refine hfin.out _ _ rfl ?_ ?_ ?_
      · exact K2.out.set d n
      · exact K3.out.other (Ne.symm hne) _
      · (with_reducible (repeat (first | exact Turned.of_below B2.out | exact Turned.of_below B3.out | refine Turned.set2 ?_ _ _ | refine Turned.set3 ?_ _ _ | refine Turned.drew ?_ | refine Turned.drewN ?_ _)))
    · obtain rfl : k = 15 := eq_of_beq (by assumption)
      go_region
      go_wp2
      go_ret2
      refine hfin.out _ _ rfl ?_ ?_ ?_
      · exact K2.out.set d vc
      · exact K3.out.other (Ne.symm hne) _
      · (with_reducible (repeat (first | exact Turned.of_below B2.out | exact Turned.of_below B3.out | refine Turned.set2 ?_ _ _ | refine Turned.set3 ?_ _ _ | refine Turned.drew ?_ | refine Turned.drewN ?_ _)))
    · obtain rfl : k = 16 := eq_of_beq (by assumption)
      go_region
      go_wp2
      go_ret2
      refine hfin.out _ _ rfl ?_ ?_ ?_
      · exact K2.out.other hne _
      · exact K3.out.set c vb
      · (with_reducible (repeat (first | exact Turned.of_below B2.out | exact Turned.of_below B3.out | refine Turned.set2 ?_ _ _ | refine Turned.set3 ?_ _ _ | refine Turned.drew ?_ | refine Turned.drewN ?_ _)))
    · obtain rfl : k = 17 := eq_of_beq (by assumption)
      go_ret2
      exact hfin.out _ _ rfl K2.out K3.out (Turned.of_below B2.out)
    · have n1 : ¬ k = 1 := fun h => by subst h; simp_all
      have n15 : ¬ k = 15 := fun h => by subst h; simp_all
      have n16 : ¬ k = 16 := fun h => by subst h; simp_all
      have n17 : ¬ k = 17 := fun h => by subst h; simp_all
      have hdd : decide (k = 1 ∨ 15 ≤ k) = false := by simp; omega
      have h56 : ¬ (k = 15 ∨ k = 16) := by omega
      have h67 : ¬ (k = 16 ∨ k = 17) := by omega
      have hf2 : Hid (∀ (e : Ending) (w' : World), e = .returned (.tuple #[.int .i64 (-1), .bool (rckE k vb == 0)]) → IntsAt w' gr 45 (if (rckE k vb == 0) = false then R else R.set d (rckN k va vb)) → IntsAt w' gm 46 M → Turned gr gm w w' → DoneP gr gm ⟨k, d, a, b, n⟩ R M w e w') := hid fun e w' g1 g2 g3 g4 => by
        refine hfin.out e w' ?_ ?_ ?_ g4
        · rw [hdd, Bool.false_or, if_neg h56]; exact g1
        · rw [hdd, Bool.false_or, if_neg n1, if_neg n15, if_neg h67]; exact g2
        · rw [if_neg (fun h => n16 h.2)]; exact g3
      clear hfin hdd h56 h67 n1 n15 n16 n17
      go_quiet ((go_at_call 73; exact Calls.quiet_of_same ((C2.out _).mono fun _ _ h => ⟨h.1, h.2.symm⟩)))
      have B3 := hid (bdrewN B2.out nq)
      replace fd : (wq.drewN nq).frozen? _ = _ := fd
      replace rd : (wq.drewN nq).cell? _ = _ := rd
      replace z1 : (wq.drewN nq).cell? _ = _ := z1
      replace K2 : Hid (IntsAt (wq.drewN nq) gr 45 R) := K2
      replace K3 : Hid (IntsAt (wq.drewN nq) gm 46 M) := K3
      clear fc ra rb rc z0 z2 z3 z4 C2 B2
      generalize wq.drewN nq = wz at *
      cases hE : (rckE k vb == 0) with
      | true =>
        have hE2 : (rckE k vb != 0) = false := by unfold bne; rw [hE]; rfl
        rw [hE] at hf2
        generalize rckN k va vb = r at *
        generalize rckE k vb = re at *
        go_wp2
        go_region
        go_wp2
        go_ret2
        refine hf2.out _ _ rfl ?_ ?_ ?_
        · exact K2.out.set d r
        · exact K3.out.other (Ne.symm hne) _
        · (with_reducible (repeat (first | exact Turned.of_below B2.out | exact Turned.of_below B3.out | refine Turned.set2 ?_ _ _ | refine Turned.set3 ?_ _ _ | refine Turned.drew ?_ | refine Turned.drewN ?_ _)))
      | false =>
        have hE2 : (rckE k vb != 0) = true := by unfold bne; rw [hE]; rfl
        rw [hE] at hf2
        generalize rckN k va vb = r at *
        generalize rckE k vb = re at *
        go_wp2
        go_ret2
        exact hf2.out _ _ rfl K2.out K3.out (Turned.of_below B3.out)
end Go.Proofs.Ytcibkoodnfkogaa
