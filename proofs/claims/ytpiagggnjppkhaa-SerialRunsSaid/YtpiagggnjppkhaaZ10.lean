/- The document's machine: one operation. -/
import Derived.Test.YtpiagggnjppkhaaZ9
namespace Go.Proofs.Ytpiagggnjppkhaa
open Go.RowKit
set_option linter.unusedVariables false
set_option linter.unusedSimpArgs false
section
open Go.RowKit
/-- Behind an operation that is done. -/
def RdoneS (g : Nat) (B : Nat) (S : Nat → Prop) (A : Option Addr) (l : List Blk) (cap : Nat) (pv : Value) (m : Mc) (o : Op) (x : Nat → Value) (w : World) (e : Ending) (w' : World) : Prop :=
  e = .returned (.bool true) ∧ ∃ pv', Went w pv.ownBlock w' g 108 302 B S A l cap 2 pv' { m with R := opR o m.R m.M, M := opM o m.R m.M, prints := opP o m.R m.prints } x
set_option maxHeartbeats 4000000 in
set_option maxRecDepth 100000 in
theorem rop_const (o : Op) {g B : Nat} {S : Nat → Prop} {A : Option Addr} {l : List Blk} {cap : Nat} {pv : Value} {m : Mc} {w : World} {x : Nat → Value} (h : Mach w g 108 302 B S A l cap 2 pv m x) (hk : o.k = 1) (hd0 : 0 ≤ o.d) (hd1 : o.d < 32) (ha0 : 0 ≤ o.a) (ha1 : o.a < 32) (hb0 : 0 ≤ o.b) (hb1 : o.b < 32) (hm : m.R.length = 32) :
    Calls Try.prog 78 #[.pointer (some ⟨g, 0, none⟩), o.val] w (RdoneS g B S A l cap pv m o x w) := by
  obtain ⟨k, d, a, b, n⟩ := o
  simp only at hk hd0 hd1 ha0 ha1 hb0 hb1
  subst hk
  obtain ⟨d, rfl⟩ := Int.eq_ofNat_of_zero_le hd0
  obtain ⟨a, rfl⟩ := Int.eq_ofNat_of_zero_le ha0
  obtain ⟨b, rfl⟩ := Int.eq_ofNat_of_zero_le hb0
  have hdl : d < 32 := by omega
  have hal : a < 32 := by omega
  have hbl : b < 32 := by omega
  have h0 := h.rregs
  have rd := h0.R d hdl
  have ra := h0.R a hal
  have rb := h0.R b hbl
  have fd := h0.fz (1 + d)
  have hgl := h0.lt
  have W0 := hid h.went
  clear h h0
  have hfin : Hid (∀ (w' : World), Went w pv.ownBlock w' g 108 302 B S A l cap 2 pv { m with R := m.R.set d n } x → RdoneS g B S A l cap pv m ⟨1, d, a, b, n⟩ x w (.returned (.bool true)) w') := hid fun w' h => by
    refine ⟨rfl, pv, h.congr ?_⟩
    simp [opR, opM, opP]
  go_enter Try.func78, Try.ntmps78
  go_wp2
  go_quiet (fail)
  go_wp2
  go_region
  go_wp2
  refine bodyPost_ret (v := .bool true) (by simp [results, Try.results78, go_sem]) rfl (hfin.out _ ?_)
  exact ((W0.out.alloc _).drewN _).set (1 + d) (.int .i64 n) (fun k _ => mc_R _ _ m x d n hdl hm k) rfl
set_option maxHeartbeats 4000000 in
set_option maxRecDepth 100000 in
theorem rop_load (o : Op) {g B : Nat} {S : Nat → Prop} {A : Option Addr} {l : List Blk} {cap : Nat} {pv : Value} {m : Mc} {w : World} {x : Nat → Value} (h : Mach w g 108 302 B S A l cap 2 pv m x) (hk : o.k = 15) (hw : o.wf) (hd0 : 0 ≤ o.d) (hd1 : o.d < 32) (ha0 : 0 ≤ o.a) (ha1 : o.a < 32) (hb0 : 0 ≤ o.b) (hb1 : o.b < 32) (hm : m.R.length = 32) (hmm : m.M.length = 256) (hri : I64s m.R) :
    Calls Try.prog 78 #[.pointer (some ⟨g, 0, none⟩), o.val] w (RdoneS g B S A l cap pv m o x w) := by
  have hbb := reg_bd hri o.a
  obtain ⟨c, hc⟩ : ∃ c : Nat, c = celS o m.R := ⟨_, rfl⟩
  have hcl : c < 256 := by rw [hc]; unfold celS; omega
  have hcc : (reg m.R o.a + o.n) % 256 = (c : Int) := by rw [hc]; unfold celS; omega
  have C1 := hid (fun w => rcell_any (reg m.R o.a) o.n w hbb.1 hbb.2 hw.n0 hw.n1)
  rw [hcc] at C1
  obtain ⟨k, d, a, b, n⟩ := o
  simp only at hk hd0 hd1 ha0 ha1 hb0 hb1
  have hn0 := hw.n0
  have hn1 := hw.n1
  simp only at hn0 hn1
  obtain ⟨d, rfl⟩ := Int.eq_ofNat_of_zero_le hd0
  obtain ⟨a, rfl⟩ := Int.eq_ofNat_of_zero_le ha0
  obtain ⟨b, rfl⟩ := Int.eq_ofNat_of_zero_le hb0
  have hdl : d < 32 := by omega
  have hal : a < 32 := by omega
  have hbl : b < 32 := by omega
  have h0 := h.rregs
  have rd := h0.R d hdl
  have ra := h0.R a hal
  have rb := h0.R b hbl
  rw [reg_get] at ra rb
  have fd := h0.fz (1 + d)
  have hgl := h0.lt
  have W0 := hid h.went
  subst hk
  have rc := h0.M c hcl
  generalize hmc : m.M[c]?.getD 0 = vc at rc
  have hfin : Hid (∀ (w' : World), Went w pv.ownBlock w' g 108 302 B S A l cap 2 pv { m with R := m.R.set d vc } x → RdoneS g B S A l cap pv m ⟨15, d, a, b, n⟩ x w (.returned (.bool true)) w') := hid fun w' h => by
    refine ⟨rfl, pv, h.congr ?_⟩
    simp [opR, opM, opP, ← hc, hmc]
  simp only at C1
  have hci : (c : Int) < 256 := by omega
  have hci0 : (0 : Int) ≤ (c : Int) := by omega
  generalize reg m.R (a : Int) = va at *
  generalize reg m.R (b : Int) = vb at *
  clear h h0 hc hmc hcc hw hri hbb
  go_enter Try.func78, Try.ntmps78
  go_wp2
  go_quiet (fail)
  go_wp2
  go_region_with ((go_at_call 98; (with_reducible refine (C1.out _).mono ?_); rintro e w1 ⟨rfl, rfl⟩))
  all_goals
    go_wp2
    refine bodyPost_ret (v := .bool true) (by simp [results, Try.results78, go_sem]) rfl (hfin.out _ ?_)
    exact ((W0.out.alloc _).drewN _).set (1 + d) (.int .i64 vc) (fun k _ => mc_R _ _ m x d vc hdl hm k) rfl
set_option maxHeartbeats 4000000 in
set_option maxRecDepth 100000 in
theorem rop_store (o : Op) {g B : Nat} {S : Nat → Prop} {A : Option Addr} {l : List Blk} {cap : Nat} {pv : Value} {m : Mc} {w : World} {x : Nat → Value} (h : Mach w g 108 302 B S A l cap 2 pv m x) (hk : o.k = 16) (hw : o.wf) (hd0 : 0 ≤ o.d) (hd1 : o.d < 32) (ha0 : 0 ≤ o.a) (ha1 : o.a < 32) (hb0 : 0 ≤ o.b) (hb1 : o.b < 32) (hm : m.R.length = 32) (hmm : m.M.length = 256) (hri : I64s m.R) :
    Calls Try.prog 78 #[.pointer (some ⟨g, 0, none⟩), o.val] w (RdoneS g B S A l cap pv m o x w) := by
  have hbb := reg_bd hri o.a
  obtain ⟨c, hc⟩ : ∃ c : Nat, c = celS o m.R := ⟨_, rfl⟩
  have hcl : c < 256 := by rw [hc]; unfold celS; omega
  have hcc : (reg m.R o.a + o.n) % 256 = (c : Int) := by rw [hc]; unfold celS; omega
  have C1 := hid (fun w => rcell_any (reg m.R o.a) o.n w hbb.1 hbb.2 hw.n0 hw.n1)
  rw [hcc] at C1
  obtain ⟨k, d, a, b, n⟩ := o
  simp only at hk hd0 hd1 ha0 ha1 hb0 hb1
  have hn0 := hw.n0
  have hn1 := hw.n1
  simp only at hn0 hn1
  obtain ⟨d, rfl⟩ := Int.eq_ofNat_of_zero_le hd0
  obtain ⟨a, rfl⟩ := Int.eq_ofNat_of_zero_le ha0
  obtain ⟨b, rfl⟩ := Int.eq_ofNat_of_zero_le hb0
  have hdl : d < 32 := by omega
  have hal : a < 32 := by omega
  have hbl : b < 32 := by omega
  have h0 := h.rregs
  have rd := h0.R d hdl
  have ra := h0.R a hal
  have rb := h0.R b hbl
  rw [reg_get] at ra rb
  have fd := h0.fz (1 + d)
  have hgl := h0.lt
  have W0 := hid h.went
  subst hk
  have rc := h0.M c hcl
  have fc := h0.fz (33 + c)
  have hfin0 : Hid (∀ (w' : World), Went w pv.ownBlock w' g 108 302 B S A l cap 2 pv { m with M := m.M.set c (reg m.R (b : Int)) } x → RdoneS g B S A l cap pv m ⟨16, d, a, b, n⟩ x w (.returned (.bool true)) w') := hid fun w' h => by
    refine ⟨rfl, pv, h.congr ?_⟩
    simp [opR, opM, opP, ← hc]
  simp only at C1
  have hci : (c : Int) < 256 := by omega
  have hci0 : (0 : Int) ≤ (c : Int) := by omega
  generalize reg m.R (a : Int) = va at *
  generalize reg m.R (b : Int) = vb at *
  have hfin := hfin0
  clear h h0 hc hcc hw hri hbb hfin0
  go_enter Try.func78, Try.ntmps78
  go_wp2
  go_quiet (fail)
  go_wp2
  go_region_with ((go_at_call 98; (with_reducible refine (C1.out _).mono ?_); rintro e w1 ⟨rfl, rfl⟩))
  all_goals
    go_wp2
    refine bodyPost_ret (v := .bool true) (by simp [results, Try.results78, go_sem]) rfl (hfin.out _ ?_)
    exact ((W0.out.alloc _).drewN _).set (33 + c) (.int .i64 vb) (fun k _ => mc_M _ _ m x c vb hcl hmm k) rfl
set_option maxHeartbeats 4000000 in
set_option maxRecDepth 100000 in
theorem rop_reckon (o : Op) {g B : Nat} {S : Nat → Prop} {A : Option Addr} {l : List Blk} {cap : Nat} {pv : Value} {m : Mc} {w : World} {x : Nat → Value} (h : Mach w g 108 302 B S A l cap 2 pv m x) (hk : 2 ≤ o.k ∧ o.k ≤ 14) (hT : opT o m.R = false) (hw : o.wf) (hd0 : 0 ≤ o.d) (hd1 : o.d < 32) (ha0 : 0 ≤ o.a) (ha1 : o.a < 32) (hb0 : 0 ≤ o.b) (hb1 : o.b < 32) (hm : m.R.length = 32) (hmm : m.M.length = 256) (hri : I64s m.R) :
    Calls Try.prog 78 #[.pointer (some ⟨g, 0, none⟩), o.val] w (RdoneS g B S A l cap pv m o x w) := by
  have hbb := reg_bd hri o.b
  have C1 := hid (fun w => rreckon_any o.k (reg m.R o.a) (reg m.R o.b) w hbb.1 hbb.2)
  have he : rckE o.k (reg m.R o.b) = 0 := by
    unfold opT at hT
    unfold rckE
    by_cases h1 : 2 ≤ o.k ∧ o.k ≤ 12
    · rw [if_pos h1]
    · rw [if_neg h1, if_pos (by omega), if_neg]
      intro h2
      rw [h2] at hT
      simp at hT
      omega
  unfold RkP at C1
  rw [he] at C1
  have hfin : Hid (∀ (w' : World), Went w pv.ownBlock w' g 108 302 B S A l cap 2 pv { m with R := m.R.set o.d.toNat (rckN o.k (reg m.R o.a) (reg m.R o.b)) } x → RdoneS g B S A l cap pv m o x w (.returned (.bool true)) w') := hid fun w' h => by
    refine ⟨rfl, pv, h.congr ?_⟩
    have h1 : ¬ o.k = 1 := by omega
    have h2 : ¬ o.k = 15 := by omega
    have h3 : ¬ o.k = 16 := by omega
    have h4 : ¬ o.k = 17 := by omega
    simp [opR, opM, opP, h1, h2, h3, h4]
  obtain ⟨k, d, a, b, n⟩ := o
  simp only at hk hd0 hd1 ha0 ha1 hb0 hb1
  have hn0 := hw.n0
  have hn1 := hw.n1
  simp only at hn0 hn1
  obtain ⟨d, rfl⟩ := Int.eq_ofNat_of_zero_le hd0
  obtain ⟨a, rfl⟩ := Int.eq_ofNat_of_zero_le ha0
  obtain ⟨b, rfl⟩ := Int.eq_ofNat_of_zero_le hb0
  have hdl : d < 32 := by omega
  have hal : a < 32 := by omega
  have hbl : b < 32 := by omega
  have h0 := h.rregs
  have rd := h0.R d hdl
  have ra := h0.R a hal
  have rb := h0.R b hbl
  rw [reg_get] at ra rb
  have fd := h0.fz (1 + d)
  have hgl := h0.lt
  have W0 := hid h.went
  have k1 : (k == 1) = false := by rw [Bool.eq_false_iff]; intro e; have := eq_of_beq e; omega
  have k15 : (k == 15) = false := by rw [Bool.eq_false_iff]; intro e; have := eq_of_beq e; omega
  have k16 : (k == 16) = false := by rw [Bool.eq_false_iff]; intro e; have := eq_of_beq e; omega
  have k17 : (k == 17) = false := by rw [Bool.eq_false_iff]; intro e; have := eq_of_beq e; omega
  simp only [Int.toNat_natCast] at hfin
  simp only at C1
  generalize hva : reg m.R (a : Int) = va at *
  generalize hvb : reg m.R (b : Int) = vb at *
  generalize hvr : rckN k va vb = vr at *
  clear h h0 hvb hva hw hT hbb he hri hvr hk
  go_enter Try.func78, Try.ntmps78
  go_wp2
  go_quiet (fail)
  go_wp2_with fail
  with_reducible refine (C1.out _).mono ?_
  rintro e w1 ⟨rfl, rfl⟩
  go_wp2
  go_region
  go_wp2
  refine bodyPost_ret (v := .bool true) (by simp [results, Try.results78, go_sem]) rfl (hfin.out _ ?_)
  exact ((W0.out.alloc _).drewN _).set (1 + d) (.int .i64 vr) (fun k _ => mc_R _ _ m x d vr hdl hm k) rfl
set_option maxHeartbeats 4000000 in
set_option maxRecDepth 100000 in
theorem rop_print (o : Op) {g B : Nat} {S : Nat → Prop} {A : Option Addr} {l : List Blk} {cap : Nat} {pv : Value} {m : Mc} {w : World} {x : Nat → Value} (h : Mach w g 108 302 B S A l cap 2 pv m x) (hk : o.k = 17) (hpl : m.prints.length ≤ 10000000000000) (hw : o.wf) (hd0 : 0 ≤ o.d) (hd1 : o.d < 32) (ha0 : 0 ≤ o.a) (ha1 : o.a < 32) (hb0 : 0 ≤ o.b) (hb1 : o.b < 32) (hm : m.R.length = 32) (hmm : m.M.length = 256) (hri : I64s m.R) :
    Calls Try.prog 78 #[.pointer (some ⟨g, 0, none⟩), o.val] w (RdoneS g B S A l cap pv m o x w) := by
  obtain ⟨ii, z, hi, hz, h1, h8, hz1⟩ := int_info
  have HI := hid hi
  have HZ := hid hz
  have HU := hid (Try.underlying25)
  replace h1 := hid h1
  replace h8 := hid h8
  replace hz1 := hid hz1
  clear hi hz
  obtain ⟨k, d, a, b, n⟩ := o
  simp only at hk hd0 hd1 ha0 ha1 hb0 hb1
  have hn0 := hw.n0
  have hn1 := hw.n1
  simp only at hn0 hn1
  obtain ⟨d, rfl⟩ := Int.eq_ofNat_of_zero_le hd0
  obtain ⟨a, rfl⟩ := Int.eq_ofNat_of_zero_le ha0
  obtain ⟨b, rfl⟩ := Int.eq_ofNat_of_zero_le hb0
  have hdl : d < 32 := by omega
  have hal : a < 32 := by omega
  have hbl : b < 32 := by omega
  have h0 := h.rregs
  have rd := h0.R d hdl
  have ra := h0.R a hal
  have rb := h0.R b hbl
  rw [reg_get] at ra rb
  have fd := h0.fz (1 + d)
  have hgl := h0.lt
  have W0 := hid h.went
  subst hk
  have rp : w.cell? ⟨g, 294, none⟩ = some pv := h.cells.cell 294 (by decide)
  have fp := h0.fz 294
  have hgB := h.gB
  have hBw := h.bw
  have OW := hid h.own
  have HNE : some g ≠ pv.ownBlock := fun e => by
    have := (own_ge h.own g e.symm).1
    omega
  replace HNE := hid HNE
  generalize hva : reg m.R (a : Int) = va at *
  generalize reg m.R (b : Int) = vb at *
  have hfin : Hid (∀ (w' : World) pv', Went w pv.ownBlock w' g 108 302 B S A l cap 2 pv' { m with prints := m.prints ++ [va] } x → RdoneS g B S A l cap pv m ⟨17, d, a, b, n⟩ x w (.returned (.bool true)) w') := hid fun w' pv' h => by
    refine ⟨rfl, pv', h.congr ?_⟩
    simp [opR, opM, opP, hva]
  clear h h0 hva hw hri
  go_enter Try.func78, Try.ntmps78
  go_wp2
  go_quiet (fail)
  go_wp2_with (at_builtin; refine wpList_append_lies _ (by rfl) _ _ _ (by rfl) B 2 ii z 1 8 HU.out HI.out HZ.out h1.out h8.out hz1.out (by omega) pv m.prints.length (m.prints.map (Value.int .i64)) (by rfl) (own_below OW.out (by ((with_reducible (repeat (first | assumption | exact Below.refl _ _ | refine bset ?_ (Nat.le_refl _) _ | refine balloc ?_ _ | refine bdrew ?_ | refine bdrewN ?_ _))); done))) ⟨w.heap.size + 1, 0, none⟩ 1 1 [.int .i64 va] (by rfl) (by rfl) (World.news_of_block (heap_new_at _ _ _ (by simp))) (by intro u hu; simp only [List.mem_cons, List.not_mem_nil, or_false] at hu; subst hu; rfl) (by omega) (by unfold maxLen; omega) (by omega) (by simp; omega) _ rfl ?_)
  intro g3 d3 w9 hown9 hgrow9 hat9 hlt9
  have r9 := hgrow9.cell (cell_keep rp (by ((with_reducible (repeat (first | assumption | exact Below.refl _ _ | refine bset ?_ (Nat.le_refl _) _ | refine balloc ?_ _ | refine bdrew ?_ | refine bdrewN ?_ _))); done))) HNE.out
  have f9 := (hgrow9.frozen_far ⟨g, 294, none⟩ (by simp; omega) HNE.out).trans (frozen_keep fp hgl (by ((with_reducible (repeat (first | assumption | exact Below.refl _ _ | refine bset ?_ (Nat.le_refl _) _ | refine balloc ?_ _ | refine bdrew ?_ | refine bdrewN ?_ _))); done)))
  have hg9 : g < w9.heap.size := by have := hgrow9.size; (try simp at this); omega
  have A9 := hid hat9
  have G9 := hid hgrow9
  have O9 := hid hown9
  clear hat9 hgrow9 hown9
  go_wp2
  refine bodyPost_ret (v := .bool true) (by simp [results, Try.results78, go_sem]) rfl (hfin.out _ (.slice (some ⟨g3, 0, none⟩) (m.prints.length + 1) d3) ?_)
  exact (((W0.out.alloc _).drewN _).alloc _).app (by decide) O9.out G9.out (A9.out.imp id fun e => by simp; omega) rfl
/-- One operation, whatever it is, that is no trap. -/
theorem ropM_any (o : Op) {g B : Nat} {S : Nat → Prop} {A : Option Addr} {l : List Blk} {cap : Nat} {pv : Value} {m : Mc} {w : World} {x : Nat → Value} (h : Mach w g 108 302 B S A l cap 2 pv m x) (hoo : opOk o = true) (hw : o.wf) (hT : opT o m.R = false) (hm : m.R.length = 32) (hmm : m.M.length = 256) (hri : I64s m.R) (hpl : m.prints.length ≤ 10000000000000) :
    Calls Try.prog 78 #[.pointer (some ⟨g, 0, none⟩), o.val] w (RdoneS g B S A l cap pv m o x w) := by
  obtain ⟨hk1, hk17, hd0, hd1, ha0, ha1, hb0, hb1, hn0, hn1⟩ := opOk_bd hoo hw
  by_cases h1 : o.k = 1
  · exact rop_const o h h1 hd0 hd1 ha0 ha1 hb0 hb1 hm
  by_cases h15 : o.k = 15
  · exact rop_load o h h15 hw hd0 hd1 ha0 ha1 hb0 hb1 hm hmm hri
  by_cases h16 : o.k = 16
  · exact rop_store o h h16 hw hd0 hd1 ha0 ha1 hb0 hb1 hm hmm hri
  by_cases h17 : o.k = 17
  · exact rop_print o h h17 hpl hw hd0 hd1 ha0 ha1 hb0 hb1 hm hmm hri
  exact rop_reckon o h (by omega) hT hw hd0 hd1 ha0 ha1 hb0 hb1 hm hmm hri
end
/- The document's machine: a trap just ahead; the end of a block. -/
section
open Go.RowKit
set_option maxHeartbeats 4000000 in
set_option maxRecDepth 100000 in
theorem rtrap_any {g B : Nat} {S : Nat → Prop} {A : Option Addr} {l : List Blk} {cap : Nat} {pv : Value} {m : Mc} {w : World} {x : Nat → Value} (h : Mach w g 108 302 B S A l cap 2 pv m x) (hp : PrgOk l) (hok : m.ok l) :
    Calls Try.prog 49 #[.pointer (some ⟨g, 0, none⟩)] w fun e w' => e = .returned (.bool (stuckS l m)) ∧ Below w.heap.size w w' := by
  have C1 := hid (rlist_any h hok.blk hp.n1)
  have r3 : w.cell? ⟨g, 291, none⟩ = some (.int .i64 m.pos) := h.cells.cell 291 (by decide)
  have r7 : w.cell? ⟨g, 295, none⟩ = some (.bool m.over) := h.cells.cell 295 (by decide)
  have hgl := h.cells.lt
  cases hov : m.over with
  | true =>
    have e0 := hid (show stuckS l m = false by unfold stuckS; rw [hov]; rfl)
    rw [hov] at r7
    clear h hp hok hov
    go_enter Try.func49, Try.ntmps49
    go_wp2_with fail
    with_reducible refine C1.out.mono ?_
    rintro e w1 ⟨L, c, rfl, hO, hc, hb, _⟩
    have r7 := cell_keep r7 hb
    have r3 := cell_keep r3 hb
    have hgl1 : g < w1.heap.size := Nat.lt_of_lt_of_le hgl hb.size
    go_wp2
    go_ret
    exact ⟨ret_bool e0.out.symm, hb⟩
  | false =>
    rw [hov] at r7
    by_cases hlt : m.pos < (lstS l m).length
    · obtain ⟨hoo, how⟩ := lst_mem hp (List.getElem?_eq_getElem hlt)
      obtain ⟨hk1, hk17, hd0, hd1, ha0, ha1, hb0, hb1, hn0, hn1⟩ := opOk_bd hoo how
      have e0 : stuckS l m = opT (lstS l m)[m.pos] m.R := by unfold stuckS; rw [hov, List.getElem?_eq_getElem hlt]; rfl
      rw [e0]
      clear e0
      have HG := hid (fun (w' : World) (L : Option Addr) (h : OpsIn w' L (lstS l m)) => h.get m.pos hlt)
      have hreg := h.rregs.R
      generalize (lstS l m)[m.pos] = o at *
      obtain ⟨k, d, a, b, n⟩ := o
      simp only at hk1 hk17 hb0 hb1
      obtain ⟨b, rfl⟩ := Int.eq_ofNat_of_zero_le hb0
      have rb := hreg b (by omega)
      rw [reg_get] at rb
      have hbl : b < 32 := by omega
      unfold opT
      simp only
      generalize reg m.R (b : Int) = vb at *
      have hij : (m.pos : Int) < ((lstS l m).length : Int) := by omega
      generalize hln : (lstS l m).length = ln at *
      clear h hp hok hov hreg hoo how hd0 hd1 ha0 ha1 hn0 hn1
      cases h13 : (k == 13) <;> cases h14 : (k == 14) <;> cases hz : (vb == 0)
      all_goals
        go_enter Try.func49, Try.ntmps49
        go_wp2_with fail
        with_reducible refine C1.out.mono ?_
        rintro e w1 ⟨L, c, rfl, hO, hc, hb, _⟩
        have rb := cell_keep rb hb
        have r3 := cell_keep r3 hb
        have r7 := cell_keep r7 hb
        have hgl1 : g < w1.heap.size := Nat.lt_of_lt_of_le hgl hb.size
        obtain ⟨q, oo, rfl, hq⟩ := HG.out _ _ hO
        rw [hln] at hc ⊢
        obtain ⟨c0, c1, c2, c3, c4⟩ := hq
        have hql : q < w1.heap.size := World.block_lt_of_cell? w1 _ c0
        clear hO
        simp only at c0 c1 c2 c3 c4
        go_wp2
        go_quiet (fail)
        go_wp2
        go_ret
        refine ⟨rfl, btrans hb ?_⟩
        ((with_reducible (repeat (first | assumption | exact Below.refl _ _ | refine bset ?_ (Nat.le_refl _) _ | refine balloc ?_ _ | refine bdrew ?_ | refine bdrewN ?_ _))); done)
    · have e0 := hid (show stuckS l m = false by unfold stuckS; rw [lst_none hlt, Bool.and_false])
      have hij : ¬ (m.pos : Int) < ((lstS l m).length : Int) := by omega
      have hij2 : ((lstS l m).length : Int) ≤ (m.pos : Int) := by omega
      clear h hp hok hov
      go_enter Try.func49, Try.ntmps49
      go_wp2_with fail
      with_reducible refine C1.out.mono ?_
      rintro e w1 ⟨L, c, rfl, hO, hc, hb, _⟩
      have r7 := cell_keep r7 hb
      have r3 := cell_keep r3 hb
      have hgl1 : g < w1.heap.size := Nat.lt_of_lt_of_le hgl hb.size
      go_wp2
      go_ret
      exact ⟨ret_bool e0.out.symm, hb⟩
end
end Go.Proofs.Ytpiagggnjppkhaa
