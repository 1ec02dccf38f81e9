/- How each kind of operation is done: the machine's function values. -/
import Derived.Test.YtcibkoodnfkogaaY18
import Derived.Deep.RegionHeld3
import Derived.WalkSmall
import Derived.Laws.EntriesVeiled
import Derived.Great.Ranges
namespace Go.Proofs.Ytcibkoodnfkogaa
open Go.RowKit
set_option linter.unusedVariables false
set_option linter.unusedSimpArgs false
section
open Go.RowKit
/-- The function values of a machine. -/
def doV (k : Nat) : Value :=
  if k = 1 then .func (.func 126) #[] #[] else if k = 15 then .func (.func 127) #[] #[] else if k = 16 then .func (.func 129) #[] #[]
  else if k = 17 then .func (.func 130) #[] #[] else if 2 ≤ k ∧ k ≤ 14 then .func (.func 125) #[] #[] else .nilFunc
def doX (k : Nat) : Value := doV (k - 298)
theorem reg_get {R : List Int} {a : Nat} : R[a]?.getD 0 = reg R (a : Int) := by unfold reg; rw [Int.toNat_natCast]
theorem wrap64_mod (n : Int) : wrap64 n % 256 = n % 256 := by unfold wrap64; omega
/-- The four facts that the walks of one operation read. -/
structure RegsAt (w : World) (g : Nat) (m : Mc) : Prop where
  R : ∀ i, i < 32 → w.cell? ⟨g, 1 + i, none⟩ = some (.int .i64 (m.R[i]?.getD 0))
  M : ∀ i, i < 256 → w.cell? ⟨g, 33 + i, none⟩ = some (.int .i64 (m.M[i]?.getD 0))
  fz : ∀ i, w.frozen? ⟨g, i, none⟩ = false
  lt : g < w.heap.size
theorem Mach.regs {g B : Nat} {S : Nat → Prop} {A : Option Addr} {l : List Blk} {cap : Nat} {pv : Value} {m : Mc} {w : World} (h : Mach w g 158 322 B S A l cap 2 pv m doX) : RegsAt w g m := ⟨mcR h.cells (by decide), mcM h.cells (by decide), h.cells.frozen, h.cells.lt⟩
theorem RegsAt.keep {w w' : World} {g : Nat} {m : Mc} (h : RegsAt w g m) (hb : Below w.heap.size w w') : RegsAt w' g m :=
  ⟨fun i hi => cell_keep (h.R i hi) hb, fun i hi => cell_keep (h.M i hi) hb, fun i => frozen_keep (h.fz i) h.lt hb, Nat.lt_of_lt_of_le h.lt hb.size⟩
set_option maxHeartbeats 4000000 in
set_option maxRecDepth 100000 in
theorem cell_any (o : Op) (g : Nat) (m : Mc) (w : World) (h : RegsAt w g m) (ha0 : 0 ≤ o.a) (ha1 : o.a < 32) (hn0 : -9223372036854775808 ≤ o.n) (hn1 : o.n ≤ 9223372036854775807) (hri : I64s m.R) :
    Calls Try.prog 128 #[.pointer (some ⟨g, 0, none⟩), o.val] w fun e w' => e = .returned (.pointer (some ⟨g, 33 + celS o m.R, none⟩)) ∧ Below w.heap.size w w' := by
  obtain ⟨k, d, a, b, n⟩ := o
  simp only at ha0 ha1 hn0 hn1
  obtain ⟨a, rfl⟩ := Int.eq_ofNat_of_zero_le ha0
  have hal : a < 32 := by omega
  have ra := h.R a hal
  rw [reg_get] at ra
  have hb := reg_bd hri (a : Int)
  obtain ⟨c, hc⟩ : ∃ c : Nat, c = celS ⟨k, d, a, b, n⟩ m.R := ⟨_, rfl⟩
  have hc2 : (reg m.R a + n) % 256 = (c : Int) := by
    have : 0 ≤ (reg m.R (a : Int) + n) % 256 := by omega
    unfold celS at hc
    simp only at hc
    omega
  have hc3 : c < 256 := by omega
  have hw : Hid (wrap64 (reg m.R (a : Int) + n) % 256 = (c : Int)) := hid (by rw [wrap64_mod]; exact hc2)
  rw [← hc]
  have hgl := h.lt
  clear hc hc2 h hri
  generalize reg m.R (a : Int) = va at *
  have hw2 := hw.out
  go_enter Try.func128, Try.ntmps128
  go_wp2
  go_quiet (fail)
  go_wp2
  go_ret
  refine ⟨rfl, ?_⟩
  ((with_reducible (repeat (first | assumption | exact Below.refl _ _ | refine bset ?_ (Nat.le_refl _) _ | refine balloc ?_ _ | refine bdrew ?_ | refine bdrewN ?_ _))); done)
end
/- How each kind is done: the row of function values. -/
section
open Go.RowKit
def doI (i k : Nat) : Value := if 2 ≤ k ∧ k < i then .func (.func 125) #[] #[] else .nilFunc
set_option maxHeartbeats 4000000 in
set_option maxRecDepth 100000 in
theorem doers_any (w : World) : Calls Try.prog 97 #[] w fun e w' => e = .returned (.agg ((List.range 24).map doV).toArray) ∧ Below w.heap.size w w' := by
  have h0 : ((List.range 24).map (doI 2)).toArray = #[.nilFunc, .nilFunc, .nilFunc, .nilFunc, .nilFunc, .nilFunc, .nilFunc, .nilFunc, .nilFunc, .nilFunc, .nilFunc, .nilFunc, .nilFunc, .nilFunc, .nilFunc, .nilFunc, .nilFunc, .nilFunc, .nilFunc, .nilFunc, .nilFunc, .nilFunc, .nilFunc, .nilFunc] := rfl
  obtain ⟨CS, hCS⟩ : ∃ CS, CS = ((List.range 24).map doV).toArray := ⟨_, rfl⟩
  rw [← hCS]
  replace hCS := hid hCS
  go_enter Try.func97, Try.ntmps97
  go_wp2
  go_loopg [2] 13 (fun g v wr => ∃ i : Nat, 2 ≤ i ∧ i ≤ 15 ∧ v = .int .i8 i ∧ Hid (g + i = 15) ∧ Hid (FnAt wr (w.heap.size + 1) 153 24 (doI i)) ∧ Hid (FnAt wr w.heap.size 153 24 (doI 2)) ∧ Below w.heap.size w wr)
  case atStart =>
    refine ⟨2, by omega, by omega, rfl, by show _ + _ = _; rfl, hid ?_, hid ?_, ?_⟩
    · unfold FnAt
      rw [h0]
      exact heap_new_at _ _ _ (by simp)
    · unfold FnAt
      rw [h0]
      exact ((balloc (Below.refl _ _) _).block _ (by simp)).trans (heap_new_at _ _ _ rfl)
    · ((with_reducible (repeat (first | assumption | exact Below.refl _ _ | refine bset ?_ (Nat.le_refl _) _ | refine balloc ?_ _ | refine bdrew ?_ | refine bdrewN ?_ _))); done)
  case round =>
    obtain ⟨i, hi2, hi, rfl, hg, FL, FR, hb0⟩ := hrel
    have hB := hid hb0
    clear hb0
    by_cases hlt : i < 15
    · have hi14 : (i : Int) ≤ 14 := by omega
      have hi0 : (0 : Int) ≤ (i : Int) := by omega
      have hi24 : (i : Int) < 24 := by omega
      have c0 : wr.cell? ⟨w.heap.size + 1, i, none⟩ = some (doI i i) := FL.out.cell i (by omega)
      have f0 := FL.out.frozen i
      have hle := FL.out.lt
      go_wp2
      go_roundg (15 - (i + 1))
      case measure => have := hg.out; omega
      case rel =>
        refine ⟨i + 1, by omega, by omega, by go_num, by show _ + _ = _; omega, hid ((FL.out.set i _).congr fun k hk => ?_), hid (FR.out.other (by simp) _), bset hB.out (by show w.heap.size ≤ w.heap.size + 1; omega) _⟩
        unfold doI
        by_cases h : k = i
        · subst h
          rw [if_pos rfl, if_pos (by omega)]
        · rw [if_neg h]
          by_cases h2 : 2 ≤ k ∧ k < i
          · rw [if_pos h2, if_pos (by omega)]
          · rw [if_neg h2, if_neg (by omega)]
    · obtain rfl : i = 15 := by omega
      have h15 : FnAt wr (w.heap.size + 1) 153 24 (doI 15) := FL.out
      have c1 : wr.cell? ⟨w.heap.size + 1, 1, none⟩ = some .nilFunc := FL.out.cell 1 (by decide)
      have c15 : wr.cell? ⟨w.heap.size + 1, 15, none⟩ = some .nilFunc := FL.out.cell 15 (by decide)
      have c16 : wr.cell? ⟨w.heap.size + 1, 16, none⟩ = some .nilFunc := FL.out.cell 16 (by decide)
      have c17 : wr.cell? ⟨w.heap.size + 1, 17, none⟩ = some .nilFunc := FL.out.cell 17 (by decide)
      have fl := FL.out.frozen
      have hle := FL.out.lt
      go_upto_region 10 with (fail)
      have FL2 := hid ((((((FL.out.set 1 (.func (.func 126) #[] #[])).set 15 (.func (.func 127) #[] #[])).set 16 (.func (.func 129) #[] #[])).set 17 (.func (.func 130) #[] #[])).congr (f' := doV) fun k hk => by
        unfold doV doI
        by_cases h17 : k = 17
        · subst h17; rfl
        by_cases h16 : k = 16
        · subst h16; rfl
        by_cases h15 : k = 15
        · subst h15; rfl
        by_cases h1 : k = 1
        · subst h1; rfl
        simp only [h17, h16, h15, h1, if_false]
        by_cases h2 : 2 ≤ k ∧ k < 15
        · rw [if_pos h2, if_pos (by omega)]
        · rw [if_neg h2, if_neg (by omega)]))
      have FR2 := hid ((((FR.out.other (a := ⟨w.heap.size + 1, 1, none⟩) (by show w.heap.size ≠ w.heap.size + 1; omega) (.func (.func 126) #[] #[])).other (a := ⟨w.heap.size + 1, 15, none⟩) (by show w.heap.size ≠ w.heap.size + 1; omega) (.func (.func 127) #[] #[])).other (a := ⟨w.heap.size + 1, 16, none⟩) (by show w.heap.size ≠ w.heap.size + 1; omega) (.func (.func 129) #[] #[])).other (a := ⟨w.heap.size + 1, 17, none⟩) (by show w.heap.size ≠ w.heap.size + 1; omega) (.func (.func 130) #[] #[]))
      have B2 := hid (bset (bset (bset (bset hB.out (p := ⟨w.heap.size + 1, 1, none⟩) (by show w.heap.size ≤ w.heap.size + 1; omega) (.func (.func 126) #[] #[])) (p := ⟨w.heap.size + 1, 15, none⟩) (by show w.heap.size ≤ w.heap.size + 1; omega) (.func (.func 127) #[] #[])) (p := ⟨w.heap.size + 1, 16, none⟩) (by show w.heap.size ≤ w.heap.size + 1; omega) (.func (.func 129) #[] #[])) (p := ⟨w.heap.size + 1, 17, none⟩) (by show w.heap.size ≤ w.heap.size + 1; omega) (.func (.func 130) #[] #[]))
      generalize World.setCell _ ⟨w.heap.size + 1, 17, none⟩ _ = wz at FL2 FR2 B2 ⊢
      have hl1 : CS.size = 24 := by rw [hCS.out]; simp
      have hone : CS.all (·.oneCell') = true := by rw [hCS.out]; kernel_rfl
      unfold FnAt at FL2 FR2
      rw [← hCS.out] at FL2
      clear FL FR h15 c1 c15 c16 c17 fl hB
      go_wp2_with (first | (with_reducible refine wpList_load_row rfl 153 _ rfl (w.heap.size + 1) ?lx 153 CS (0, 0) _ FL2.out Try.underlying153 ?ld ?li ?_) | (with_reducible refine wpList_store_rowTo rfl 153 _ _ rfl rfl w.heap.size CS ?sx ?sy 153 _ FR2.out ?si ?shold hone ?_))
      case lx => rfl
      case li => rw [hl1]; kernel_rfl
      case si => rw [hl1]; kernel_rfl
      case shold => rw [hl1]; simp
      all_goals first
        | rfl
        | skip
      refine bodyPost_ret (v := .agg CS) (results_cell_row rfl _ _ w.heap.size 153 CS (0, 0) _ rfl (setRow_heap _ _ _ _ _ _ FR2.out) Try.underlying153 rfl (by rw [hl1]; kernel_rfl)) rfl ⟨rfl, below_setRow B2.out (Nat.le_refl _) _⟩
end
/- A new machine: refused. -/
section
open Go.RowKit
set_option maxHeartbeats 4000000 in
set_option maxRecDepth 100000 in
theorem new_no (A : Option Addr) (l : List Blk) (cap : Nat) (A1 A2 : Option Addr) (r mm : List Int) (c1 c2 : Nat) (w : World) (hl : BlksIn w A l) (hw : ∀ b ∈ l, b.wf) (hm : l.length ≤ 9223372036854775807) (hr : r.length ≤ 17592186043904) (hmm : mm.length ≤ 17592186043904) (he : newE l r mm ≠ 0) :
    Calls Try.prog 61 #[.agg #[.slice A l.length cap], .agg #[.slice A1 r.length c1, .slice A2 mm.length c2]] w fun e w' => e = .returned (.tuple #[.pointer none, .int .i64 (newE l r mm)]) ∧ Below w.heap.size w w' := by
  have C1 := hid (fun (w' : World) (h : BlksIn w' A l) => prg_check_any A l cap w' h hw hm)
  have HL := hid hl
  clear hl hw hm
  by_cases hp : prgE l = 0
  · have e1 : newE l r mm = 2 := by
      unfold newE at he ⊢
      rw [if_pos hp] at he ⊢
      by_cases h : 32 < r.length ∨ 256 < mm.length
      · rw [if_pos h]
      · rw [if_neg h] at he; exact absurd rfl he
    have h2 : 32 < r.length ∨ 256 < mm.length := by
      unfold newE at he
      rw [if_pos hp] at he
      by_cases h : 32 < r.length ∨ 256 < mm.length
      · exact h
      · rw [if_neg h] at he; exact absurd rfl he
    rw [e1]
    rw [hp] at C1
    clear he e1 hp
    by_cases h3 : 32 < r.length
    · have h4 : (32 : Int) < (r.length : Int) := by omega
      clear h2 h3
      go_enter Try.func61, Try.ntmps61
      go_wp2_with fail
      with_reducible refine (C1.out _ (HL.out.keep ?_)).mono ?_
      · ((with_reducible (repeat (first | assumption | exact Below.refl _ _ | refine bset ?_ (Nat.le_refl _) _ | refine balloc ?_ _ | refine bdrew ?_ | refine bdrewN ?_ _))); done)
      rintro e w1 ⟨rfl, hb⟩
      have B1 := hid (btrans (a := w) (by ((with_reducible (repeat (first | assumption | exact Below.refl _ _ | refine bset ?_ (Nat.le_refl _) _ | refine balloc ?_ _ | refine bdrew ?_ | refine bdrewN ?_ _))); done)) hb)
      have z0 : w1.cell? ⟨w.heap.size + 1, 0, none⟩ = some (.slice A1 r.length c1) := cell_keep (by go_simp) hb
      have hz : w.heap.size + 1 < w1.heap.size := by have := hb.size; simp at this; omega
      clear hb
      go_wp2
      go_ret2
      exact ⟨rfl, B1.out⟩
    · have h4 : ¬ (32 : Int) < (r.length : Int) := by omega
      have h5 : (256 : Int) < (mm.length : Int) := by omega
      clear h2 h3
      go_enter Try.func61, Try.ntmps61
      go_wp2_with fail
      with_reducible refine (C1.out _ (HL.out.keep ?_)).mono ?_
      · ((with_reducible (repeat (first | assumption | exact Below.refl _ _ | refine bset ?_ (Nat.le_refl _) _ | refine balloc ?_ _ | refine bdrew ?_ | refine bdrewN ?_ _))); done)
      rintro e w1 ⟨rfl, hb⟩
      have B1 := hid (btrans (a := w) (by ((with_reducible (repeat (first | assumption | exact Below.refl _ _ | refine bset ?_ (Nat.le_refl _) _ | refine balloc ?_ _ | refine bdrew ?_ | refine bdrewN ?_ _))); done)) hb)
      have z0 : w1.cell? ⟨w.heap.size + 1, 0, none⟩ = some (.slice A1 r.length c1) := cell_keep (by go_simp) hb
      have z1 : w1.cell? ⟨w.heap.size + 1, 1, none⟩ = some (.slice A2 mm.length c2) := cell_keep (by go_simp) hb
      have hz : w.heap.size + 1 < w1.heap.size := by have := hb.size; simp at this; omega
      clear hb
      go_wp2
      go_ret2
      exact ⟨rfl, B1.out⟩
  · have e1 : newE l r mm = prgE l := by unfold newE; rw [if_neg hp]
    rw [e1]
    have hpb : (prgE l == 0) = false := by simpa using hp
    have hpc : (prgE l != 0) = true := by simpa using hp
    clear he e1 hp
    generalize prgE l = pe at *
    go_enter Try.func61, Try.ntmps61
    go_wp2_with fail
    with_reducible refine (C1.out _ (HL.out.keep ?_)).mono ?_
    · ((with_reducible (repeat (first | assumption | exact Below.refl _ _ | refine bset ?_ (Nat.le_refl _) _ | refine balloc ?_ _ | refine bdrew ?_ | refine bdrewN ?_ _))); done)
    rintro e w1 ⟨rfl, hb⟩
    have B1 := hid (btrans (a := w) (by ((with_reducible (repeat (first | assumption | exact Below.refl _ _ | refine bset ?_ (Nat.le_refl _) _ | refine balloc ?_ _ | refine bdrew ?_ | refine bdrewN ?_ _))); done)) hb)
    clear hb
    go_wp2
    go_ret2
    exact ⟨rfl, B1.out⟩
/-- The cells of a new machine, before its program and its state are copied. -/
def zeroMc : Mc := ⟨List.replicate 32 0, List.replicate 256 0, 0, false, 0, 0, 0, [], false, 0, 0⟩
theorem new_cells : Try.prog.built 158 [(10, .agg ((List.range 24).map doV).toArray)] = some ((List.range 322).map (mcell (.slice none 0 0) (.slice none 0 0) zeroMc doX)).toArray := by kernel_rfl
end
/- How each kind of operation is done: the contracts of the function values. -/
section
open Go.RowKit
/-- Behind an operation that is done: the machine with its registers, cells, prints. -/
def DoneS (g : Nat) (B : Nat) (S : Nat → Prop) (A : Option Addr) (l : List Blk) (cap : Nat) (pv : Value) (m : Mc) (o : Op) (w : World) (e : Ending) (w' : World) : Prop :=
  e = .returned (.tuple #[]) ∧ ∃ pv', Went w pv.ownBlock w' g 158 322 B S A l cap 2 pv' { m with R := opR o m.R m.M, M := opM o m.R m.M, prints := opP o m.R m.prints } doX
set_option maxHeartbeats 4000000 in
set_option maxRecDepth 100000 in
theorem do_const (o : Op) {g B : Nat} {S : Nat → Prop} {A : Option Addr} {l : List Blk} {cap : Nat} {pv : Value} {m : Mc} {w : World} (h : Mach w g 158 322 B S A l cap 2 pv m doX) (hk : o.k = 1) (hd0 : 0 ≤ o.d) (hd1 : o.d < 32) (hm : m.R.length = 32) :
    Calls Try.prog 126 #[.pointer (some ⟨g, 0, none⟩), o.val] w (DoneS g B S A l cap pv m o w) := by
  obtain ⟨k, d, a, b, n⟩ := o
  simp only at hk hd0 hd1
  subst hk
  obtain ⟨d, rfl⟩ := Int.eq_ofNat_of_zero_le hd0
  have hdl : d < 32 := by omega
  have h0 := h.regs
  have rd := h0.R d hdl
  have fd := h0.fz (1 + d)
  have hgl := h0.lt
  have W0 := hid h.went
  clear h h0
  have hfin : Hid (∀ (w' : World), Went w pv.ownBlock w' g 158 322 B S A l cap 2 pv { m with R := m.R.set d n } doX → DoneS g B S A l cap pv m ⟨1, d, a, b, n⟩ w (.returned (.tuple #[])) w') := hid fun w' h => by
    refine ⟨rfl, pv, h.congr ?_⟩
    simp [opR, opM, opP]
  go_enter Try.func126, Try.ntmps126
  go_wp2
  go_region
  go_wp2
  refine bodyPost_ret (v := .tuple #[]) (by simp [results, Try.results126, go_sem]) rfl (hfin.out _ ?_)
  exact ((W0.out.set (1 + d) (.int .i64 n) fun k _ => mc_R _ _ m doX d n hdl hm k) rfl).alloc _ |>.drew
set_option maxHeartbeats 4000000 in
set_option maxRecDepth 100000 in
theorem do_load (o : Op) {g B : Nat} {S : Nat → Prop} {A : Option Addr} {l : List Blk} {cap : Nat} {pv : Value} {m : Mc} {w : World} (h : Mach w g 158 322 B S A l cap 2 pv m doX) (hk : o.k = 15) (hw : o.wf) (hd0 : 0 ≤ o.d) (hd1 : o.d < 32) (ha1 : o.a < 32) (hm : m.R.length = 32) (hri : I64s m.R) :
    Calls Try.prog 127 #[.pointer (some ⟨g, 0, none⟩), o.val] w (DoneS g B S A l cap pv m o w) := by
  have C1 := hid (fun w h => cell_any o g m w h hw.a0 ha1 hw.n0 hw.n1 hri)
  have hcl : celS o m.R < 256 := by unfold celS; omega
  have hce : Hid (celS o m.R = celS o m.R) := hid rfl
  generalize hc : celS o m.R = c at C1 hcl
  obtain ⟨k, d, a, b, n⟩ := o
  simp only at hk hd0 hd1
  subst hk
  obtain ⟨d, rfl⟩ := Int.eq_ofNat_of_zero_le hd0
  have hdl : d < 32 := by omega
  have h0 := h.regs
  have rd := h0.R d hdl
  have rc := h0.M c hcl
  have fd := h0.fz (1 + d)
  have hgl := h0.lt
  have W0 := hid h.went
  have HR := hid h0
  generalize hmc : m.M[c]?.getD 0 = vc at rc
  have hfin : Hid (∀ (w' : World), Went w pv.ownBlock w' g 158 322 B S A l cap 2 pv { m with R := m.R.set d vc } doX → DoneS g B S A l cap pv m ⟨15, d, a, b, n⟩ w (.returned (.tuple #[])) w') := hid fun w' h => by
    refine ⟨rfl, pv, h.congr ?_⟩
    simp [opR, opM, opP, hc, hmc]
  clear h h0 hc hmc hce hw
  go_enter Try.func127, Try.ntmps127
  go_wp2
  go_region_with ((go_at_call 128; (with_reducible refine (C1.out _ (HR.out.keep ?_)).mono ?_); (next => ((with_reducible (repeat (first | assumption | exact Below.refl _ _ | refine bset ?_ (Nat.le_refl _) _ | refine balloc ?_ _ | refine bdrew ?_ | refine bdrewN ?_ _))); done)); rintro e w1 ⟨rfl, hb⟩; obtain ⟨hc, hf⟩ := bcell hb; have hz := hb.size))
  all_goals
    refine bodyPost_ret (v := .tuple #[]) (by simp [results, Try.results127, go_sem]) rfl (hfin.out _ ?_)
    exact ((W0.out.alloc _).drew.below hb).set (1 + d) (.int .i64 vc) (fun k _ => mc_R _ _ m doX d vc hdl hm k) rfl
set_option maxHeartbeats 4000000 in
set_option maxRecDepth 100000 in
theorem do_store (o : Op) {g B : Nat} {S : Nat → Prop} {A : Option Addr} {l : List Blk} {cap : Nat} {pv : Value} {m : Mc} {w : World} (h : Mach w g 158 322 B S A l cap 2 pv m doX) (hk : o.k = 16) (hw : o.wf) (ha1 : o.a < 32) (hb1 : o.b < 32) (hm : m.M.length = 256) (hri : I64s m.R) :
    Calls Try.prog 129 #[.pointer (some ⟨g, 0, none⟩), o.val] w (DoneS g B S A l cap pv m o w) := by
  have C1 := hid (fun w h => cell_any o g m w h hw.a0 ha1 hw.n0 hw.n1 hri)
  have hcl : celS o m.R < 256 := by unfold celS; omega
  generalize hc : celS o m.R = c at C1 hcl
  have hb0 := hw.b0
  obtain ⟨k, d, a, b, n⟩ := o
  simp only at hk hb0 hb1
  subst hk
  obtain ⟨b, rfl⟩ := Int.eq_ofNat_of_zero_le hb0
  have hbl : b < 32 := by omega
  have h0 := h.regs
  have rb := h0.R b hbl
  rw [reg_get] at rb
  have rc := h0.M c hcl
  have fc := h0.fz (33 + c)
  have hgl := h0.lt
  have W0 := hid h.went
  have HR := hid h0
  generalize hvb : reg m.R (b : Int) = vb at rb
  have hfin : Hid (∀ (w' : World), Went w pv.ownBlock w' g 158 322 B S A l cap 2 pv { m with M := m.M.set c vb } doX → DoneS g B S A l cap pv m ⟨16, d, a, b, n⟩ w (.returned (.tuple #[])) w') := hid fun w' h => by
    refine ⟨rfl, pv, h.congr ?_⟩
    simp [opR, opM, opP, hc, hvb]
  clear h h0 hc hvb hw
  go_enter Try.func129, Try.ntmps129
  go_wp2
  go_region_with ((go_at_call 128; (with_reducible refine (C1.out _ (HR.out.keep ?_)).mono ?_); (next => ((with_reducible (repeat (first | assumption | exact Below.refl _ _ | refine bset ?_ (Nat.le_refl _) _ | refine balloc ?_ _ | refine bdrew ?_ | refine bdrewN ?_ _))); done)); rintro e w1 ⟨rfl, hb⟩; obtain ⟨hc, hf⟩ := bcell hb; have hz := hb.size))
  all_goals
    refine bodyPost_ret (v := .tuple #[]) (by simp [results, Try.results129, go_sem]) rfl (hfin.out _ ?_)
    exact ((W0.out.alloc _).drew.below hb).set (33 + c) (.int .i64 vb) (fun k _ => mc_M _ _ m doX c vb hcl hm k) rfl
set_option maxHeartbeats 4000000 in
set_option maxRecDepth 100000 in
theorem do_reckon (o : Op) {g B : Nat} {S : Nat → Prop} {A : Option Addr} {l : List Blk} {cap : Nat} {pv : Value} {m : Mc} {w : World} (h : Mach w g 158 322 B S A l cap 2 pv m doX) (hk : 2 ≤ o.k ∧ o.k ≤ 14) (hw : o.wf) (hd1 : o.d < 32) (ha1 : o.a < 32) (hb1 : o.b < 32) (hm : m.R.length = 32) (hri : I64s m.R) (hT : opT o m.R = false) :
    Calls Try.prog 125 #[.pointer (some ⟨g, 0, none⟩), o.val] w (DoneS g B S A l cap pv m o w) := by
  have hbb := reg_bd hri o.b
  have C1 := hid (fun w => reckon_any o.k (reg m.R o.a) (reg m.R o.b) w hbb.1 hbb.2)
  have he : rckE o.k (reg m.R o.b) = 0 := by
    unfold opT at hT
    unfold rckE
    by_cases h1 : 2 ≤ o.k ∧ o.k ≤ 12
    · rw [if_pos h1]
    · rw [if_neg h1, if_pos (by omega), if_neg]
      intro h2
      rw [h2] at hT
      simp at hT
      omega
  rw [he] at C1
  have hb0 := hw.b0
  have ha0 := hw.a0
  have hd0 := hw.d0
  have hfin : Hid (∀ (w' : World), Went w pv.ownBlock w' g 158 322 B S A l cap 2 pv { m with R := m.R.set o.d.toNat (rckN o.k (reg m.R o.a) (reg m.R o.b)) } doX → DoneS g B S A l cap pv m o w (.returned (.tuple #[])) w') := hid fun w' h => by
    refine ⟨rfl, pv, h.congr ?_⟩
    have h1 : ¬ o.k = 1 := by omega
    have h2 : ¬ o.k = 15 := by omega
    have h3 : ¬ o.k = 16 := by omega
    have h4 : ¬ o.k = 17 := by omega
    simp [opR, opM, opP, h1, h2, h3, h4]
  obtain ⟨k, d, a, b, n⟩ := o
  simp only at hk hb0 hb1 ha0 ha1 hd0 hd1
  obtain ⟨b, rfl⟩ := Int.eq_ofNat_of_zero_le hb0
  obtain ⟨a, rfl⟩ := Int.eq_ofNat_of_zero_le ha0
  obtain ⟨d, rfl⟩ := Int.eq_ofNat_of_zero_le hd0
  have hbl : b < 32 := by omega
  have hal : a < 32 := by omega
  have hdl : d < 32 := by omega
  have h0 := h.regs
  have ra := h0.R a hal
  have rb := h0.R b hbl
  have rd := h0.R d hdl
  rw [reg_get] at ra rb
  have fd := h0.fz (1 + d)
  have hgl := h0.lt
  have W0 := hid h.went
  simp only [Int.toNat_natCast] at hfin
  generalize hva : reg m.R (a : Int) = va at *
  generalize hvb : reg m.R (b : Int) = vb at *
  generalize hvr : rckN k va vb = vr at *
  clear h h0 hvb hva hw hT hbb he hri hvr hk
  go_enter Try.func125, Try.ntmps125
  go_wp2
  go_quiet ((go_at_call 73; exact Calls.quiet_of_same ((C1.out _).mono fun _ _ h => ⟨h.1, h.2.symm⟩)))
  go_wp2
  go_region
  go_wp2
  refine bodyPost_ret (v := .tuple #[]) (by simp [results, Try.results125, go_sem]) rfl (hfin.out _ ?_)
  exact ((W0.out.alloc _).drewN _).set (1 + d) (.int .i64 vr) (fun k _ => mc_R _ _ m doX d vr hdl hm k) rfl
set_option maxHeartbeats 4000000 in
set_option maxRecDepth 100000 in
theorem do_trap (o : Op) {g B : Nat} {S : Nat → Prop} {A : Option Addr} {l : List Blk} {cap : Nat} {pv : Value} {m : Mc} {w : World} (h : Mach w g 158 322 B S A l cap 2 pv m doX) (hk : 2 ≤ o.k ∧ o.k ≤ 14) (hw : o.wf) (ha1 : o.a < 32) (hb1 : o.b < 32) (hri : I64s m.R) (hT : opT o m.R = true) :
    Calls Try.prog 125 #[.pointer (some ⟨g, 0, none⟩), o.val] w fun e w' => e = .panicked [{ v := .iface 196 (.agg #[]), recovered := false }] ∧ Below w.heap.size w w' := by
  have hbb := reg_bd hri o.b
  have C1 := hid (fun w => reckon_any o.k (reg m.R o.a) (reg m.R o.b) w hbb.1 hbb.2)
  have he : rckE o.k (reg m.R o.b) = 101 := by
    unfold opT at hT
    simp only [Bool.and_eq_true, Bool.or_eq_true, beq_iff_eq] at hT
    unfold rckE
    rw [if_neg (by omega), if_pos hT.1, if_pos hT.2]
  rw [he] at C1
  have hb0 := hw.b0
  have ha0 := hw.a0
  obtain ⟨k, d, a, b, n⟩ := o
  simp only at hk hb0 hb1 ha0 ha1
  obtain ⟨b, rfl⟩ := Int.eq_ofNat_of_zero_le hb0
  obtain ⟨a, rfl⟩ := Int.eq_ofNat_of_zero_le ha0
  have hbl : b < 32 := by omega
  have hal : a < 32 := by omega
  have h0 := h.regs
  have ra := h0.R a hal
  have rb := h0.R b hbl
  rw [reg_get] at ra rb
  have hgl := h0.lt
  generalize hva : reg m.R (a : Int) = va at *
  generalize hvb : reg m.R (b : Int) = vb at *
  generalize hvr : rckN k va vb = vr at *
  clear h h0 hvb hva hw hT hbb he hri hvr hk
  go_enter Try.func125, Try.ntmps125
  go_wp2
  go_quiet ((go_at_call 73; exact Calls.quiet_of_same ((C1.out _).mono fun _ _ h => ⟨h.1, h.2.symm⟩)))
  go_wp2
  refine ⟨rfl, rfl, ?_⟩
  ((with_reducible (repeat (first | assumption | exact Below.refl _ _ | refine bset ?_ (Nat.le_refl _) _ | refine balloc ?_ _ | refine bdrew ?_ | refine bdrewN ?_ _))); done)
theorem int_info : ∃ i z, Try.prog.info? 2 = some i ∧ i.zero = some z ∧ i.size = 1 ∧ i.bytes = 8 ∧ z.cells.size = 1 := by
  have h : (Try.prog.info? 2).map (fun i => (i.zero.map (·.cells.size), i.size, i.bytes)) = some (some 1, 1, 8) := by kernel_rfl
  cases hi : Try.prog.info? 2 with
  | none => rw [hi] at h; cases h
  | some i =>
    rw [hi] at h
    cases hz : i.zero with
    | none => simp [hz] at h
    | some z =>
      simp [hz] at h
      exact ⟨i, z, rfl, hz, h.2.1, h.2.2, h.1⟩
set_option maxHeartbeats 4000000 in
set_option maxRecDepth 100000 in
theorem do_print (o : Op) {g B : Nat} {S : Nat → Prop} {A : Option Addr} {l : List Blk} {cap : Nat} {pv : Value} {m : Mc} {w : World} (h : Mach w g 158 322 B S A l cap 2 pv m doX) (hk : o.k = 17) (hw : o.wf) (ha1 : o.a < 32) (hpl : m.prints.length ≤ 10000000000000) :
    Calls Try.prog 130 #[.pointer (some ⟨g, 0, none⟩), o.val] w (DoneS g B S A l cap pv m o w) := by
  obtain ⟨ii, z, hi, hz, h1, h8, hz1⟩ := int_info
  have HI := hid hi
  have HZ := hid hz
  have HU := hid (Try.underlying42)
  replace h1 := hid h1
  replace h8 := hid h8
  replace hz1 := hid hz1
  clear hi hz
  have ha0 := hw.a0
  obtain ⟨k, d, a, b, n⟩ := o
  simp only at hk ha0 ha1
  subst hk
  obtain ⟨a, rfl⟩ := Int.eq_ofNat_of_zero_le ha0
  have hal : a < 32 := by omega
  have h0 := h.regs
  have ra := h0.R a hal
  rw [reg_get] at ra
  have rp : w.cell? ⟨g, 294, none⟩ = some pv := h.cells.cell 294 (by decide)
  have fp := h0.fz 294
  have hgl := h0.lt
  have hgB := h.gB
  have hBw := h.bw
  have W0 := hid h.went
  have OW := hid h.own
  have HNE : some g ≠ pv.ownBlock := fun e => by
    have := (own_ge h.own g e.symm).1
    omega
  replace HNE := hid HNE
  generalize hva : reg m.R (a : Int) = va at *
  have hfin : Hid (∀ (w' : World) pv', Went w pv.ownBlock w' g 158 322 B S A l cap 2 pv' { m with prints := m.prints ++ [va] } doX → DoneS g B S A l cap pv m ⟨17, d, a, b, n⟩ w (.returned (.tuple #[])) w') := hid fun w' pv' h => by
    refine ⟨rfl, pv', h.congr ?_⟩
    simp [opR, opM, opP, hva]
  clear h h0 hva hw
  go_enter Try.func130, Try.ntmps130
  go_wp2
  go_region_law ((refine step_append_lies _ (by rfl) _ _ _ (by rfl) B 2 ii z 1 8 HU.out HI.out HZ.out h1.out h8.out hz1.out (by omega) pv m.prints.length (m.prints.map (Value.int .i64)) (by rfl) (own_below OW.out (by ((with_reducible (repeat (first | assumption | exact Below.refl _ _ | refine bset ?_ (Nat.le_refl _) _ | refine balloc ?_ _ | refine bdrew ?_ | refine bdrewN ?_ _))); done))) ⟨w.heap.size + 1, 0, none⟩ 1 1 [.int .i64 va] (by rfl) (by rfl) (World.news_of_block (heap_new_at _ _ _ (by simp))) (by intro u hu; simp only [List.mem_cons, List.not_mem_nil, or_false] at hu; subst hu; rfl) (by omega) (by unfold maxLen; omega) (by omega) (by simp; omega) _ rfl ?_); intro g3 d3 w9 hown9 hgrow9 hat9 hlt9; have r9 := hgrow9.cell (cell_keep rp (by ((with_reducible (repeat (first | assumption | exact Below.refl _ _ | refine bset ?_ (Nat.le_refl _) _ | refine balloc ?_ _ | refine bdrew ?_ | refine bdrewN ?_ _))); done))) HNE.out; have f9 := (hgrow9.frozen_far ⟨g, 294, none⟩ (by simp; omega) HNE.out).trans (frozen_keep fp hgl (by ((with_reducible (repeat (first | assumption | exact Below.refl _ _ | refine bset ?_ (Nat.le_refl _) _ | refine balloc ?_ _ | refine bdrew ?_ | refine bdrewN ?_ _))); done))))
  all_goals
    refine bodyPost_ret (v := .tuple #[]) (by simp [results, Try.results130, go_sem]) rfl (hfin.out _ (.slice (some ⟨g3, 0, none⟩) (m.prints.length + 1) d3) ?_)
    exact (((W0.out.alloc _).alloc _).drew).app (by decide) hown9 hgrow9 (hat9.imp id fun e => Nat.le_of_eq e.symm) rfl
end
end Go.Proofs.Ytcibkoodnfkogaa
