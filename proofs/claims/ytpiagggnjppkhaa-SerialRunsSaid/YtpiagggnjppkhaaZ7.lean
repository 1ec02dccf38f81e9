/- How each kind of operation is done: the machine's function values. -/
import Derived.Test.YtpiagggnjppkhaaZ6
import Derived.Deep.RegionHeld3
import Derived.WalkSmall
namespace Go.Proofs.Ytpiagggnjppkhaa
open Go.RowKit
set_option linter.unusedVariables false
set_option linter.unusedSimpArgs false
section
open Go.RowKit
/-- The function values of a machine. -/
def doV (k : Nat) : Value :=
  if k = 1 then .func (.func 66) #[] #[] else if k = 15 then .func (.func 67) #[] #[] else if k = 16 then .func (.func 69) #[] #[]
  else if k = 17 then .func (.func 70) #[] #[] else if 2 ≤ k ∧ k ≤ 14 then .func (.func 65) #[] #[] else .nilFunc
def doX (k : Nat) : Value := doV (k - 298)
theorem reg_get {R : List Int} {a : Nat} : R[a]?.getD 0 = reg R (a : Int) := by unfold reg; rw [Int.toNat_natCast]
theorem wrap64_mod (n : Int) : wrap64 n % 256 = n % 256 := by unfold wrap64; omega
/-- The four facts that the walks of one operation read. -/
structure RegsAt (w : World) (g : Nat) (m : Mc) : Prop where
  R : ∀ i, i < 32 → w.cell? ⟨g, 1 + i, none⟩ = some (.int .i64 (m.R[i]?.getD 0))
  M : ∀ i, i < 256 → w.cell? ⟨g, 33 + i, none⟩ = some (.int .i64 (m.M[i]?.getD 0))
  fz : ∀ i, w.frozen? ⟨g, i, none⟩ = false
  lt : g < w.heap.size
theorem Mach.regs {g B : Nat} {S : Nat → Prop} {A : Option Addr} {l : List Blk} {cap : Nat} {pv : Value} {m : Mc} {w : World} (h : Mach w g 106 322 B S A l cap 2 pv m doX) : RegsAt w g m := ⟨mcR h.cells (by decide), mcM h.cells (by decide), h.cells.frozen, h.cells.lt⟩
theorem RegsAt.keep {w w' : World} {g : Nat} {m : Mc} (h : RegsAt w g m) (hb : Below w.heap.size w w') : RegsAt w' g m :=
  ⟨fun i hi => cell_keep (h.R i hi) hb, fun i hi => cell_keep (h.M i hi) hb, fun i => frozen_keep (h.fz i) h.lt hb, Nat.lt_of_lt_of_le h.lt hb.size⟩
set_option maxHeartbeats 4000000 in
set_option maxRecDepth 100000 in
theorem cell_any (o : Op) (g : Nat) (m : Mc) (w : World) (h : RegsAt w g m) (ha0 : 0 ≤ o.a) (ha1 : o.a < 32) (hn0 : -9223372036854775808 ≤ o.n) (hn1 : o.n ≤ 9223372036854775807) (hri : I64s m.R) :
    Calls Try.prog 68 #[.pointer (some ⟨g, 0, none⟩), o.val] w fun e w' => e = .returned (.pointer (some ⟨g, 33 + celS o m.R, none⟩)) ∧ Below w.heap.size w w' := by
  obtain ⟨k, d, a, b, n⟩ := o
  simp only at ha0 ha1 hn0 hn1
  obtain ⟨a, rfl⟩ := Int.eq_ofNat_of_zero_le ha0
  have hal : a < 32 := by omega
  have ra := h.R a hal
  rw [reg_get] at ra
  have hb := reg_bd hri (a : Int)
  obtain ⟨c, hc⟩ : ∃ c : Nat, c = celS ⟨k, d, a, b, n⟩ m.R := ⟨_, rfl⟩
  have hc2 : (reg m.R a + n) % 256 = (c : Int) := by
    have : 0 ≤ (reg m.R (a : Int) + n) % 256 := by omega
    unfold celS at hc
    simp only at hc
    omega
  have hc3 : c < 256 := by omega
  have hw : Hid (wrap64 (reg m.R (a : Int) + n) % 256 = (c : Int)) := hid (by rw [wrap64_mod]; exact hc2)
  rw [← hc]
  have hgl := h.lt
  clear hc hc2 h hri
  generalize reg m.R (a : Int) = va at *
  have hw2 := hw.out
  go_enter Try.func68, Try.ntmps68
  go_wp2
  go_quiet (fail)
  go_wp2
  go_ret
  refine ⟨rfl, ?_⟩
  ((with_reducible (repeat (first | assumption | exact Below.refl _ _ | refine bset ?_ (Nat.le_refl _) _ | refine balloc ?_ _ | refine bdrew ?_ | refine bdrewN ?_ _))); done)
end
/- How each kind of operation is done: the contracts of the function values. -/
section
open Go.RowKit
/-- Behind an operation that is done: the machine with its registers, cells, prints. -/
def DoneS (g : Nat) (B : Nat) (S : Nat → Prop) (A : Option Addr) (l : List Blk) (cap : Nat) (pv : Value) (m : Mc) (o : Op) (w : World) (e : Ending) (w' : World) : Prop :=
  e = .returned (.tuple #[]) ∧ ∃ pv', Went w pv.ownBlock w' g 106 322 B S A l cap 2 pv' { m with R := opR o m.R m.M, M := opM o m.R m.M, prints := opP o m.R m.prints } doX
set_option maxHeartbeats 4000000 in
set_option maxRecDepth 100000 in
theorem do_const (o : Op) {g B : Nat} {S : Nat → Prop} {A : Option Addr} {l : List Blk} {cap : Nat} {pv : Value} {m : Mc} {w : World} (h : Mach w g 106 322 B S A l cap 2 pv m doX) (hk : o.k = 1) (hd0 : 0 ≤ o.d) (hd1 : o.d < 32) (hm : m.R.length = 32) :
    Calls Try.prog 66 #[.pointer (some ⟨g, 0, none⟩), o.val] w (DoneS g B S A l cap pv m o w) := by
  obtain ⟨k, d, a, b, n⟩ := o
  simp only at hk hd0 hd1
  subst hk
  obtain ⟨d, rfl⟩ := Int.eq_ofNat_of_zero_le hd0
  have hdl : d < 32 := by omega
  have h0 := h.regs
  have rd := h0.R d hdl
  have fd := h0.fz (1 + d)
  have hgl := h0.lt
  have W0 := hid h.went
  clear h h0
  have hfin : Hid (∀ (w' : World), Went w pv.ownBlock w' g 106 322 B S A l cap 2 pv { m with R := m.R.set d n } doX → DoneS g B S A l cap pv m ⟨1, d, a, b, n⟩ w (.returned (.tuple #[])) w') := hid fun w' h => by
    refine ⟨rfl, pv, h.congr ?_⟩
    simp [opR, opM, opP]
  go_enter Try.func66, Try.ntmps66
  go_wp2
  go_region
  go_wp2
  refine bodyPost_ret (v := .tuple #[]) (by simp [results, Try.results66, go_sem]) rfl (hfin.out _ ?_)
  exact ((W0.out.set (1 + d) (.int .i64 n) fun k _ => mc_R _ _ m doX d n hdl hm k) rfl).alloc _ |>.drew
set_option maxHeartbeats 4000000 in
set_option maxRecDepth 100000 in
theorem do_load (o : Op) {g B : Nat} {S : Nat → Prop} {A : Option Addr} {l : List Blk} {cap : Nat} {pv : Value} {m : Mc} {w : World} (h : Mach w g 106 322 B S A l cap 2 pv m doX) (hk : o.k = 15) (hw : o.wf) (hd0 : 0 ≤ o.d) (hd1 : o.d < 32) (ha1 : o.a < 32) (hm : m.R.length = 32) (hri : I64s m.R) :
    Calls Try.prog 67 #[.pointer (some ⟨g, 0, none⟩), o.val] w (DoneS g B S A l cap pv m o w) := by
  have C1 := hid (fun w h => cell_any o g m w h hw.a0 ha1 hw.n0 hw.n1 hri)
  have hcl : celS o m.R < 256 := by unfold celS; omega
  have hce : Hid (celS o m.R = celS o m.R) := hid rfl
  generalize hc : celS o m.R = c at C1 hcl
  obtain ⟨k, d, a, b, n⟩ := o
  simp only at hk hd0 hd1
  subst hk
  obtain ⟨d, rfl⟩ := Int.eq_ofNat_of_zero_le hd0
  have hdl : d < 32 := by omega
  have h0 := h.regs
  have rd := h0.R d hdl
  have rc := h0.M c hcl
  have fd := h0.fz (1 + d)
  have hgl := h0.lt
  have W0 := hid h.went
  have HR := hid h0
  generalize hmc : m.M[c]?.getD 0 = vc at rc
  have hfin : Hid (∀ (w' : World), Went w pv.ownBlock w' g 106 322 B S A l cap 2 pv { m with R := m.R.set d vc } doX → DoneS g B S A l cap pv m ⟨15, d, a, b, n⟩ w (.returned (.tuple #[])) w') := hid fun w' h => by
    refine ⟨rfl, pv, h.congr ?_⟩
    simp [opR, opM, opP, hc, hmc]
  clear h h0 hc hmc hce hw
  go_enter Try.func67, Try.ntmps67
  go_wp2
  go_region_with ((go_at_call 68; (with_reducible refine (C1.out _ (HR.out.keep ?_)).mono ?_); (next => ((with_reducible (repeat (first | assumption | exact Below.refl _ _ | refine bset ?_ (Nat.le_refl _) _ | refine balloc ?_ _ | refine bdrew ?_ | refine bdrewN ?_ _))); done)); rintro e w1 ⟨rfl, hb⟩; obtain ⟨hc, hf⟩ := bcell hb; have hz := hb.size))
  all_goals
    refine bodyPost_ret (v := .tuple #[]) (by simp [results, Try.results67, go_sem]) rfl (hfin.out _ ?_)
    exact ((W0.out.alloc _).drew.below hb).set (1 + d) (.int .i64 vc) (fun k _ => mc_R _ _ m doX d vc hdl hm k) rfl
set_option maxHeartbeats 4000000 in
set_option maxRecDepth 100000 in
theorem do_store (o : Op) {g B : Nat} {S : Nat → Prop} {A : Option Addr} {l : List Blk} {cap : Nat} {pv : Value} {m : Mc} {w : World} (h : Mach w g 106 322 B S A l cap 2 pv m doX) (hk : o.k = 16) (hw : o.wf) (ha1 : o.a < 32) (hb1 : o.b < 32) (hm : m.M.length = 256) (hri : I64s m.R) :
    Calls Try.prog 69 #[.pointer (some ⟨g, 0, none⟩), o.val] w (DoneS g B S A l cap pv m o w) := by
  have C1 := hid (fun w h => cell_any o g m w h hw.a0 ha1 hw.n0 hw.n1 hri)
  have hcl : celS o m.R < 256 := by unfold celS; omega
  generalize hc : celS o m.R = c at C1 hcl
  have hb0 := hw.b0
  obtain ⟨k, d, a, b, n⟩ := o
  simp only at hk hb0 hb1
  subst hk
  obtain ⟨b, rfl⟩ := Int.eq_ofNat_of_zero_le hb0
  have hbl : b < 32 := by omega
  have h0 := h.regs
  have rb := h0.R b hbl
  rw [reg_get] at rb
  have rc := h0.M c hcl
  have fc := h0.fz (33 + c)
  have hgl := h0.lt
  have W0 := hid h.went
  have HR := hid h0
  generalize hvb : reg m.R (b : Int) = vb at rb
  have hfin : Hid (∀ (w' : World), Went w pv.ownBlock w' g 106 322 B S A l cap 2 pv { m with M := m.M.set c vb } doX → DoneS g B S A l cap pv m ⟨16, d, a, b, n⟩ w (.returned (.tuple #[])) w') := hid fun w' h => by
    refine ⟨rfl, pv, h.congr ?_⟩
    simp [opR, opM, opP, hc, hvb]
  clear h h0 hc hvb hw
  go_enter Try.func69, Try.ntmps69
  go_wp2
  go_region_with ((go_at_call 68; (with_reducible refine (C1.out _ (HR.out.keep ?_)).mono ?_); (next => ((with_reducible (repeat (first | assumption | exact Below.refl _ _ | refine bset ?_ (Nat.le_refl _) _ | refine balloc ?_ _ | refine bdrew ?_ | refine bdrewN ?_ _))); done)); rintro e w1 ⟨rfl, hb⟩; obtain ⟨hc, hf⟩ := bcell hb; have hz := hb.size))
  all_goals
    refine bodyPost_ret (v := .tuple #[]) (by simp [results, Try.results69, go_sem]) rfl (hfin.out _ ?_)
    exact ((W0.out.alloc _).drew.below hb).set (33 + c) (.int .i64 vb) (fun k _ => mc_M _ _ m doX c vb hcl hm k) rfl
set_option maxHeartbeats 4000000 in
set_option maxRecDepth 100000 in
theorem do_reckon (o : Op) {g B : Nat} {S : Nat → Prop} {A : Option Addr} {l : List Blk} {cap : Nat} {pv : Value} {m : Mc} {w : World} (h : Mach w g 106 322 B S A l cap 2 pv m doX) (hk : 2 ≤ o.k ∧ o.k ≤ 14) (hw : o.wf) (hd1 : o.d < 32) (ha1 : o.a < 32) (hb1 : o.b < 32) (hm : m.R.length = 32) (hri : I64s m.R) (hT : opT o m.R = false) :
    Calls Try.prog 65 #[.pointer (some ⟨g, 0, none⟩), o.val] w (DoneS g B S A l cap pv m o w) := by
  have hbb := reg_bd hri o.b
  have C1 := hid (fun w => reckon_any o.k (reg m.R o.a) (reg m.R o.b) w hbb.1 hbb.2)
  have he : rckE o.k (reg m.R o.b) = 0 := by
    unfold opT at hT
    unfold rckE
    by_cases h1 : 2 ≤ o.k ∧ o.k ≤ 12
    · rw [if_pos h1]
    · rw [if_neg h1, if_pos (by omega), if_neg]
      intro h2
      rw [h2] at hT
      simp at hT
      omega
  rw [he] at C1
  have hb0 := hw.b0
  have ha0 := hw.a0
  have hd0 := hw.d0
  have hfin : Hid (∀ (w' : World), Went w pv.ownBlock w' g 106 322 B S A l cap 2 pv { m with R := m.R.set o.d.toNat (rckN o.k (reg m.R o.a) (reg m.R o.b)) } doX → DoneS g B S A l cap pv m o w (.returned (.tuple #[])) w') := hid fun w' h => by
    refine ⟨rfl, pv, h.congr ?_⟩
    have h1 : ¬ o.k = 1 := by omega
    have h2 : ¬ o.k = 15 := by omega
    have h3 : ¬ o.k = 16 := by omega
    have h4 : ¬ o.k = 17 := by omega
    simp [opR, opM, opP, h1, h2, h3, h4]
  obtain ⟨k, d, a, b, n⟩ := o
  simp only at hk hb0 hb1 ha0 ha1 hd0 hd1
  obtain ⟨b, rfl⟩ := Int.eq_ofNat_of_zero_le hb0
  obtain ⟨a, rfl⟩ := Int.eq_ofNat_of_zero_le ha0
  obtain ⟨d, rfl⟩ := Int.eq_ofNat_of_zero_le hd0
  have hbl : b < 32 := by omega
  have hal : a < 32 := by omega
  have hdl : d < 32 := by omega
  have h0 := h.regs
  have ra := h0.R a hal
  have rb := h0.R b hbl
  have rd := h0.R d hdl
  rw [reg_get] at ra rb
  have fd := h0.fz (1 + d)
  have hgl := h0.lt
  have W0 := hid h.went
  simp only [Int.toNat_natCast] at hfin
  generalize hva : reg m.R (a : Int) = va at *
  generalize hvb : reg m.R (b : Int) = vb at *
  generalize hvr : rckN k va vb = vr at *
  clear h h0 hvb hva hw hT hbb he hri hvr hk
  go_enter Try.func65, Try.ntmps65
  go_wp2
  go_quiet ((go_at_call 41; exact Calls.quiet_of_same ((C1.out _).mono fun _ _ h => ⟨h.1, h.2.symm⟩)))
  go_wp2
  go_region
  go_wp2
  refine bodyPost_ret (v := .tuple #[]) (by simp [results, Try.results65, go_sem]) rfl (hfin.out _ ?_)
  exact ((W0.out.alloc _).drewN _).set (1 + d) (.int .i64 vr) (fun k _ => mc_R _ _ m doX d vr hdl hm k) rfl
set_option maxHeartbeats 4000000 in
set_option maxRecDepth 100000 in
theorem do_trap (o : Op) {g B : Nat} {S : Nat → Prop} {A : Option Addr} {l : List Blk} {cap : Nat} {pv : Value} {m : Mc} {w : World} (h : Mach w g 106 322 B S A l cap 2 pv m doX) (hk : 2 ≤ o.k ∧ o.k ≤ 14) (hw : o.wf) (ha1 : o.a < 32) (hb1 : o.b < 32) (hri : I64s m.R) (hT : opT o m.R = true) :
    Calls Try.prog 65 #[.pointer (some ⟨g, 0, none⟩), o.val] w fun e w' => e = .panicked [{ v := .iface 150 (.agg #[]), recovered := false }] ∧ Below w.heap.size w w' := by
  have hbb := reg_bd hri o.b
  have C1 := hid (fun w => reckon_any o.k (reg m.R o.a) (reg m.R o.b) w hbb.1 hbb.2)
  have he : rckE o.k (reg m.R o.b) = 101 := by
    unfold opT at hT
    simp only [Bool.and_eq_true, Bool.or_eq_true, beq_iff_eq] at hT
    unfold rckE
    rw [if_neg (by omega), if_pos hT.1, if_pos hT.2]
  rw [he] at C1
  have hb0 := hw.b0
  have ha0 := hw.a0
  obtain ⟨k, d, a, b, n⟩ := o
  simp only at hk hb0 hb1 ha0 ha1
  obtain ⟨b, rfl⟩ := Int.eq_ofNat_of_zero_le hb0
  obtain ⟨a, rfl⟩ := Int.eq_ofNat_of_zero_le ha0
  have hbl : b < 32 := by omega
  have hal : a < 32 := by omega
  have h0 := h.regs
  have ra := h0.R a hal
  have rb := h0.R b hbl
  rw [reg_get] at ra rb
  have hgl := h0.lt
  generalize hva : reg m.R (a : Int) = va at *
  generalize hvb : reg m.R (b : Int) = vb at *
  generalize hvr : rckN k va vb = vr at *
  clear h h0 hvb hva hw hT hbb he hri hvr hk
  go_enter Try.func65, Try.ntmps65
  go_wp2
  go_quiet ((go_at_call 41; exact Calls.quiet_of_same ((C1.out _).mono fun _ _ h => ⟨h.1, h.2.symm⟩)))
  go_wp2
  refine ⟨rfl, rfl, ?_⟩
  ((with_reducible (repeat (first | assumption | exact Below.refl _ _ | refine bset ?_ (Nat.le_refl _) _ | refine balloc ?_ _ | refine bdrew ?_ | refine bdrewN ?_ _))); done)
theorem int_info : ∃ i z, Try.prog.info? 2 = some i ∧ i.zero = some z ∧ i.size = 1 ∧ i.bytes = 8 ∧ z.cells.size = 1 := by
  have h : (Try.prog.info? 2).map (fun i => (i.zero.map (·.cells.size), i.size, i.bytes)) = some (some 1, 1, 8) := by kernel_rfl
  cases hi : Try.prog.info? 2 with
  | none => rw [hi] at h; cases h
  | some i =>
    rw [hi] at h
    cases hz : i.zero with
    | none => simp [hz] at h
    | some z =>
      simp [hz] at h
      exact ⟨i, z, rfl, hz, h.2.1, h.2.2, h.1⟩
set_option maxHeartbeats 4000000 in
set_option maxRecDepth 100000 in
theorem do_print (o : Op) {g B : Nat} {S : Nat → Prop} {A : Option Addr} {l : List Blk} {cap : Nat} {pv : Value} {m : Mc} {w : World} (h : Mach w g 106 322 B S A l cap 2 pv m doX) (hk : o.k = 17) (hw : o.wf) (ha1 : o.a < 32) (hpl : m.prints.length ≤ 10000000000000) :
    Calls Try.prog 70 #[.pointer (some ⟨g, 0, none⟩), o.val] w (DoneS g B S A l cap pv m o w) := by
  obtain ⟨ii, z, hi, hz, h1, h8, hz1⟩ := int_info
  have HI := hid hi
  have HZ := hid hz
  have HU := hid (Try.underlying25)
  replace h1 := hid h1
  replace h8 := hid h8
  replace hz1 := hid hz1
  clear hi hz
  have ha0 := hw.a0
  obtain ⟨k, d, a, b, n⟩ := o
  simp only at hk ha0 ha1
  subst hk
  obtain ⟨a, rfl⟩ := Int.eq_ofNat_of_zero_le ha0
  have hal : a < 32 := by omega
  have h0 := h.regs
  have ra := h0.R a hal
  rw [reg_get] at ra
  have rp : w.cell? ⟨g, 294, none⟩ = some pv := h.cells.cell 294 (by decide)
  have fp := h0.fz 294
  have hgl := h0.lt
  have hgB := h.gB
  have hBw := h.bw
  have W0 := hid h.went
  have OW := hid h.own
  have HNE : some g ≠ pv.ownBlock := fun e => by
    have := (own_ge h.own g e.symm).1
    omega
  replace HNE := hid HNE
  generalize hva : reg m.R (a : Int) = va at *
  have hfin : Hid (∀ (w' : World) pv', Went w pv.ownBlock w' g 106 322 B S A l cap 2 pv' { m with prints := m.prints ++ [va] } doX → DoneS g B S A l cap pv m ⟨17, d, a, b, n⟩ w (.returned (.tuple #[])) w') := hid fun w' pv' h => by
    refine ⟨rfl, pv', h.congr ?_⟩
    simp [opR, opM, opP, hva]
  clear h h0 hva hw
  go_enter Try.func70, Try.ntmps70
  go_wp2
  go_region_law ((refine step_append_lies _ (by rfl) _ _ _ (by rfl) B 2 ii z 1 8 HU.out HI.out HZ.out h1.out h8.out hz1.out (by omega) pv m.prints.length (m.prints.map (Value.int .i64)) (by rfl) (own_below OW.out (by ((with_reducible (repeat (first | assumption | exact Below.refl _ _ | refine bset ?_ (Nat.le_refl _) _ | refine balloc ?_ _ | refine bdrew ?_ | refine bdrewN ?_ _))); done))) ⟨w.heap.size + 1, 0, none⟩ 1 1 [.int .i64 va] (by rfl) (by rfl) (World.news_of_block (heap_new_at _ _ _ (by simp))) (by intro u hu; simp only [List.mem_cons, List.not_mem_nil, or_false] at hu; subst hu; rfl) (by omega) (by unfold maxLen; omega) (by omega) (by simp; omega) _ rfl ?_); intro g3 d3 w9 hown9 hgrow9 hat9 hlt9; have r9 := hgrow9.cell (cell_keep rp (by ((with_reducible (repeat (first | assumption | exact Below.refl _ _ | refine bset ?_ (Nat.le_refl _) _ | refine balloc ?_ _ | refine bdrew ?_ | refine bdrewN ?_ _))); done))) HNE.out; have f9 := (hgrow9.frozen_far ⟨g, 294, none⟩ (by simp; omega) HNE.out).trans (frozen_keep fp hgl (by ((with_reducible (repeat (first | assumption | exact Below.refl _ _ | refine bset ?_ (Nat.le_refl _) _ | refine balloc ?_ _ | refine bdrew ?_ | refine bdrewN ?_ _))); done))))
  all_goals
    refine bodyPost_ret (v := .tuple #[]) (by simp [results, Try.results70, go_sem]) rfl (hfin.out _ (.slice (some ⟨g3, 0, none⟩) (m.prints.length + 1) d3) ?_)
    exact (((W0.out.alloc _).alloc _).drew).app (by decide) hown9 hgrow9 (hat9.imp id fun e => Nat.le_of_eq e.symm) rfl
end
/- The machine's list, end, and the question whether it is stuck. -/
section
open Go.RowKit
/-- The list among which the place is, in memory. -/
def LstAt (S : Nat → Prop) (w : World) (l : List Blk) (m : Mc) (e : Ending) (w' : World) : Prop :=
  ∃ (L : Option Addr) (c : Nat), e = .returned (.slice L (lstS l m).length c) ∧ OpsIn w' L (lstS l m) ∧ (lstS l m).length ≤ c ∧ Below w.heap.size w w' ∧ SpotS S L (lstS l m)
theorem lst_ops {l : List Blk} {m : Mc} {b : Blk} (hb : l[m.blk]? = some b) (h : m.body = false) : lstS l m = b.ops := by unfold lstS; rw [hb, h]; rfl
theorem lst_body {l : List Blk} {m : Mc} {b : Blk} (hb : l[m.blk]? = some b) (h : m.body = true) : lstS l m = b.body := by unfold lstS; rw [hb, h]; rfl
set_option maxHeartbeats 4000000 in
set_option maxRecDepth 100000 in
theorem list_any {g B : Nat} {S : Nat → Prop} {A : Option Addr} {l : List Blk} {cap : Nat} {pv : Value} {m : Mc} {w : World} (h : Mach w g 106 322 B S A l cap 2 pv m doX) (hbl : m.blk < l.length) (h128 : l.length ≤ 128) :
    Calls Try.prog 75 #[.pointer (some ⟨g, 0, none⟩)] w (LstAt S w l m) := by
  obtain ⟨q, o, rfl, _, hq⟩ := h.blks.get m.blk hbl
  obtain ⟨B1, c1, B2, c2, k0, k1, k2, k3, k4, k5, o1, o2, l1, l2, s1, s2⟩ := hq
  have hbk : l[m.blk]? = some l[m.blk] := List.getElem?_eq_getElem hbl
  have r0 : w.cell? ⟨g, 0, none⟩ = some (.slice (some ⟨q, o, none⟩) l.length cap) := h.cells.cell 0 (by decide)
  have r1 : w.cell? ⟨g, 289, none⟩ = some (.int .i64 m.blk) := h.cells.cell 289 (by decide)
  have r2 : w.cell? ⟨g, 290, none⟩ = some (.bool m.body) := h.cells.cell 290 (by decide)
  have hgl := h.cells.lt
  have hql : q < w.heap.size := World.block_lt_of_cell? w _ k0
  have hij : (m.blk : Int) < (l.length : Int) := by omega
  have hi0 : (0 : Int) ≤ (m.blk : Int) := by omega
  have e1 := lst_ops hbk
  have e2 := lst_body hbk
  generalize l[m.blk] = b at *
  clear h hbk
  cases hbd : m.body with
  | false =>
    have e := hid (e1 hbd)
    rw [hbd] at r2
    have O1 := hid o1
    have S1 := hid s1
    clear e1 e2 hbd o1 o2 s1 s2
    go_enter Try.func75, Try.ntmps75
    go_wp2
    go_quiet (fail)
    go_wp2
    refine bodyPost_ret (v := .slice B1 b.ops.length c1) (by simp [results, Try.results75, go_sem]) rfl ?_
    exact ⟨B1, c1, by rw [e.out], by rw [e.out]; exact O1.out.keep (by ((with_reducible (repeat (first | assumption | exact Below.refl _ _ | refine bset ?_ (Nat.le_refl _) _ | refine balloc ?_ _ | refine bdrew ?_ | refine bdrewN ?_ _))); done)), by rw [e.out]; exact l1, (by ((with_reducible (repeat (first | assumption | exact Below.refl _ _ | refine bset ?_ (Nat.le_refl _) _ | refine balloc ?_ _ | refine bdrew ?_ | refine bdrewN ?_ _))); done)), by rw [e.out]; exact S1.out⟩
  | true =>
    have e := hid (e2 hbd)
    rw [hbd] at r2
    have O1 := hid o2
    have S1 := hid s2
    clear e1 e2 hbd o1 o2 s1 s2
    go_enter Try.func75, Try.ntmps75
    go_wp2
    go_quiet (fail)
    go_wp2
    refine bodyPost_ret (v := .slice B2 b.body.length c2) (by simp [results, Try.results75, go_sem]) rfl ?_
    exact ⟨B2, c2, by rw [e.out], by rw [e.out]; exact O1.out.keep (by ((with_reducible (repeat (first | assumption | exact Below.refl _ _ | refine bset ?_ (Nat.le_refl _) _ | refine balloc ?_ _ | refine bdrew ?_ | refine bdrewN ?_ _))); done)), by rw [e.out]; exact l2, (by ((with_reducible (repeat (first | assumption | exact Below.refl _ _ | refine bset ?_ (Nat.le_refl _) _ | refine balloc ?_ _ | refine bdrew ?_ | refine bdrewN ?_ _))); done)), by rw [e.out]; exact S1.out⟩
end
end Go.Proofs.Ytpiagggnjppkhaa
