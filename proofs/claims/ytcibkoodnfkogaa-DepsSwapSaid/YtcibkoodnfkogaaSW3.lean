/- Two operations side by side that do not depend on one another can change places, for every list, every table, every state and every place; no condition. -/
import Derived.Test.YtcibkoodnfkogaaY27
import Derived.Test.YtcibkoodnfkogaaY31
namespace Go.Proofs.Ytcibkoodnfkogaa
open Go.RowKit
set_option linter.unusedVariables false
set_option linter.unusedSimpArgs false
theorem trn_below {K g : Nat} {r : Option Nat} {w w' : World} (t : Trn g r w w') (hK : K ≤ w.heap.size) (hg : K ≤ g) (hr : ∀ k, r = some k → K ≤ k) : Below K w w' :=
  ⟨t.os, t.tape, t.output, t.size, fun k hk => t.block k (by omega) (by omega) (fun e => by have := hr k e.symm; omega)⟩
set_option maxHeartbeats 4000000 in
set_option maxRecDepth 100000 in
theorem nums11_same (A1 A2 : Option Addr) (l : List Int) (c1 c2 : Nat) (w : World) (h1 : NumsIn w A1 l) (h2 : NumsIn w A2 l) (hm : l.length ≤ 1000000000000000000) :
    Calls Try.prog 64 #[.slice A1 l.length c1, .slice A2 l.length c2] w fun e w' => e = .returned (.bool true) ∧ Below w.heap.size w w' := by
  have H1 := hid h1
  have H2 := hid h2
  clear h1 h2
  go_enter Try.func64, Try.ntmps64
  go_wp2
  go_loopg [13] l.length (fun g v wr => ∃ i : Nat, i ≤ l.length ∧ v = .int .i64 i ∧ Hid (g + i = l.length) ∧ Below w.heap.size w wr)
  case atStart => exact ⟨0, by omega, rfl, by exact Nat.add_zero _, Below.refl _ _⟩
  case round =>
    obtain ⟨i, hi, rfl, hg, hbw⟩ := hrel
    by_cases hlt : i < l.length
    · obtain ⟨g1, o1, rfl, k1⟩ := (H1.out.keep hbw).get i hlt
      obtain ⟨g2, o2, rfl, k2⟩ := (H2.out.keep hbw).get i hlt
      have hij : (i : Int) < (l.length : Int) := by omega
      have hi0 : (0 : Int) ≤ (i : Int) := by omega
      have B0 := hid hbw
      generalize l[i] = x at *
      clear hbw
      go_wp2
      go_quiet (fail)
      go_wp2
      go_roundg (l.length - (i + 1))
      case measure => have := hg.out; omega
      case rel => exact ⟨i + 1, by omega, by go_num, by show _ + _ = _; omega, bdrewN B0.out _⟩
    · obtain rfl : i = l.length := by omega
      go_wp2
      go_ret
      exact ⟨rfl, hbw⟩
theorem dep_zero {l : List Op} {t : List Int} (h : depE l t = 0) : ∀ o ∈ l, opOk o = true := by
  unfold depE at h
  cases ht : tabOk t with
  | false => rw [ht] at h; simp at h
  | true =>
    rw [ht, if_pos rfl] at h
    by_cases hl : 1024 < l.length
    · rw [if_pos hl] at h; omega
    · rw [if_neg hl] at h
      cases ha : l.all depOk with
      | false => rw [ha] at h; simp at h
      | true => exact List.all_eq_true.1 ha
set_option maxHeartbeats 4000000 in
set_option maxRecDepth 100000 in
theorem DepsSwap_walk (A : Option Addr) (l : List Op) (cap : Nat) (t : List Int) (A1 : Option Addr) (s1 : List Int) (c1 : Nat) (A2 : Option Addr) (s2 : List Int) (c2 : Nat) (at_ : Int) (w : World) (hl : OpsIn w A l) (hw : ∀ o ∈ l, o.wf) (hc : l.length ≤ cap) (hmx : cap ≤ 8796093022208) (ht : t.length = 13) (_ : ∀ n ∈ t, -9223372036854775808 ≤ n ∧ n ≤ 9223372036854775807)
    (hs1 : NumsIn w A1 s1) (hs1w : I64s s1) (hs1c : s1.length ≤ c1) (hs1m : c1 ≤ 17592186043904) (hs2 : NumsIn w A2 s2) (hs2w : I64s s2) (hs2c : s2.length ≤ c2) (hs2m : c2 ≤ 17592186043904) (hat : -9223372036854775808 ≤ at_ ∧ at_ ≤ 9223372036854775807) :
    Calls Try.prog 18 #[.slice A l.length cap, .agg (t.map (Value.int .i64)).toArray, .agg #[.slice A1 s1.length c1, .slice A2 s2.length c2], .int .i64 at_] w fun e w' => e = .returned (.bool true) ∧ Below w.heap.size w w' := by
  have CW := hid (fun w => wakes11_any w)
  have hV2 : Value.agg (t.map (Value.int .i64)).toArray = tabV t := rfl
  rw [hV2]
  have C1 : Hid (∀ w', Below w.heap.size w w' → Calls Try.prog 55 #[.slice A l.length cap, tabV t] w' (EdgeP (ofE l t) (depE l t) w')) := hid fun w' hb => of_dep A l cap t w' (hl.keep hb) hw (by omega) hc ht
  have hEl := ofE_len l t
  obtain ⟨t0, t1, t2, t3, t4, t5, t6, t7, t8, t9, t10, t11, t12, rfl⟩ := tab13 ht
  unfold tabV at C1 ⊢
  simp only [List.map_cons, List.map_nil] at C1 ⊢
  by_cases hlen : 200 < l.length ∨ l.length < 2
  · clear C1 hl hw hs1 hs2 hs1w hs2w hV2
    by_cases h1 : 200 < l.length
    · have h1i : (200 : Int) < (l.length : Int) := by omega
      clear hlen
      go_enter Try.func18, Try.ntmps18
      go_wp2_with fail
      with_reducible refine (CW.out _).mono ?_
      rintro e w1 ⟨rfl, hb⟩
      go_wp2
      go_ret
      exact ⟨rfl, btrans (a := w) (by ((with_reducible (repeat (first | assumption | exact Below.refl _ _ | refine bset ?_ (Nat.le_refl _) _ | refine balloc ?_ _ | refine bdrew ?_ | refine bdrewN ?_ _))); done)) hb⟩
    · have h1i : ¬ (200 : Int) < (l.length : Int) := by omega
      have h2i : (l.length : Int) < 2 := by omega
      clear hlen
      go_enter Try.func18, Try.ntmps18
      go_wp2_with fail
      with_reducible refine (CW.out _).mono ?_
      rintro e w1 ⟨rfl, hb⟩
      go_wp2
      go_ret
      exact ⟨rfl, btrans (a := w) (by ((with_reducible (repeat (first | assumption | exact Below.refl _ _ | refine bset ?_ (Nat.le_refl _) _ | refine balloc ?_ _ | refine bdrew ?_ | refine bdrewN ?_ _))); done)) hb⟩
  · have h1i : ¬ (200 : Int) < (l.length : Int) := by omega
    have h2i : ¬ (l.length : Int) < 2 := by omega
    by_cases hd : depE l [t0, t1, t2, t3, t4, t5, t6, t7, t8, t9, t10, t11, t12] = 0
    · have hE : ofE l [t0, t1, t2, t3, t4, t5, t6, t7, t8, t9, t10, t11, t12] = onceE l [t0, t1, t2, t3, t4, t5, t6, t7, t8, t9, t10, t11, t12] l.length := by unfold ofE; rw [hd]; rfl
      have hok := dep_zero hd
      have h200 : l.length ≤ 200 := by omega
      have h2 : 2 ≤ l.length := by omega
      obtain ⟨i, hi1, hie, hx0, hx1⟩ := at_bd h2 hat.1 hat.2
      have hnz : ¬ ((l.length : Int) - 1 = 0) := by omega
      obtain ⟨a, ha⟩ : ∃ a, l[i]? = some a := ⟨_, List.getElem?_eq_getElem (by omega)⟩
      obtain ⟨b, hb⟩ : ∃ b, l[i + 1]? = some b := ⟨_, List.getElem?_eq_getElem hi1⟩
      obtain ⟨E, hEE⟩ : ∃ E, E = ofE l [t0, t1, t2, t3, t4, t5, t6, t7, t8, t9, t10, t11, t12] := ⟨_, rfl⟩
      have HS : Hid ((∀ e ∈ E, ¬ (e.f = (i : Int) ∧ e.t = ((i + 1 : Nat) : Int))) → ∀ r m, outE (runM [oneB l] 1000 (newM r m)) = outE (runM [oneB (swapL l i a b)] 1000 (newM r m)) ∧ (runM [oneB l] 1000 (newM r m)).prints = (runM [oneB (swapL l i a b)] 1000 (newM r m)).prints ∧
        (outE (runM [oneB l] 1000 (newM r m)) = 0 → (runM [oneB l] 1000 (newM r m)).R = (runM [oneB (swapL l i a b)] 1000 (newM r m)).R ∧ (runM [oneB l] 1000 (newM r m)).M = (runM [oneB (swapL l i a b)] 1000 (newM r m)).M)) := hid fun h r m => swap_law ha hb hok hw (by rw [← hE, ← hEE]; exact h) h200 r m
      rw [← hEE] at C1 hEl
      rw [hd] at C1
      have hin := hid (fun (w' : World) (g : Nat) (h : OpsIn w' (some ⟨g, 0, none⟩) l) => swap_in h ha hb)
      obtain ⟨k, hk⟩ : ∃ k, k = swapL l i a b := ⟨_, rfl⟩
      have hkl : k.length = l.length := by rw [hk]; exact swap_len l i a b
      have hkok : ∀ o ∈ k, opOk o = true := fun o ho => hok o (by rw [hk] at ho; exact (swap_mem ha hb).1 ho)
      have hkw : ∀ o ∈ k, o.wf := fun o ho => hw o (by rw [hk] at ho; exact (swap_mem ha hb).1 ho)
      rw [← hk] at HS hin
      have hnl := one_new hok h200 s1 s2
      have hnk := one_new hkok (by omega) s1 s2
      obtain ⟨bl, hbl⟩ : ∃ bl, bl = [oneB l] := ⟨_, rfl⟩
      obtain ⟨bk', hbk⟩ : ∃ bk', bk' = [oneB k] := ⟨_, rfl⟩
      have hwl := one_wf hw h200
      have hwk := one_wf hkw (by omega)
      rw [← hbl] at hwl hnl
      rw [← hbk] at hwk hnk
      have lbl : bl.length = 1 := by rw [hbl]; rfl
      have lbk : bk'.length = 1 := by rw [hbk]; rfl
      obtain ⟨m0, hm0⟩ : ∃ m0, m0 = newM s1 s2 := ⟨_, rfl⟩
      have CNy : Hid (newE bl s1 s2 = 0 → ∀ w' g, BlksIn w' (some ⟨g, 0, none⟩) bl → Below w.heap.size w w' → Calls Try.prog 61 #[.agg #[.slice (some ⟨g, 0, none⟩) 1 1], .agg #[.slice A1 s1.length c1, .slice A2 s2.length c2]] w' (NewS bl s1 s2 w')) := hid fun he w' g hb hbw => by
        have h := new_yes (some ⟨g, 0, none⟩) bl 1 A1 A2 s1 s2 c1 c2 w' hb hwl (hs1.keep hbw) (hs2.keep hbw) he
        rwa [lbl] at h
      have CKy : Hid (newE bk' s1 s2 = 0 → ∀ w' g, BlksIn w' (some ⟨g, 0, none⟩) bk' → Below w.heap.size w w' → Calls Try.prog 61 #[.agg #[.slice (some ⟨g, 0, none⟩) 1 1], .agg #[.slice A1 s1.length c1, .slice A2 s2.length c2]] w' (NewS bk' s1 s2 w')) := hid fun he w' g hb hbw => by
        have h := new_yes (some ⟨g, 0, none⟩) bk' 1 A1 A2 s1 s2 c1 c2 w' hb hwk (hs1.keep hbw) (hs2.keep hbw) he
        rwa [lbk] at h
      have CNn : Hid (newE bl s1 s2 ≠ 0 → ∀ w' g, BlksIn w' (some ⟨g, 0, none⟩) bl → Calls Try.prog 61 #[.agg #[.slice (some ⟨g, 0, none⟩) 1 1], .agg #[.slice A1 s1.length c1, .slice A2 s2.length c2]] w' fun e w'' => e = .returned (.tuple #[.pointer none, .int .i64 (newE bl s1 s2)]) ∧ Below w'.heap.size w' w'') := hid fun he w' g hb => by
        have h := new_no (some ⟨g, 0, none⟩) bl 1 A1 A2 s1 s2 c1 c2 w' hb hwl (by omega) (by omega) (by omega) he
        rwa [lbl] at h
      have CKn : Hid (newE bk' s1 s2 ≠ 0 → ∀ w' g, BlksIn w' (some ⟨g, 0, none⟩) bk' → Calls Try.prog 61 #[.agg #[.slice (some ⟨g, 0, none⟩) 1 1], .agg #[.slice A1 s1.length c1, .slice A2 s2.length c2]] w' fun e w'' => e = .returned (.tuple #[.pointer none, .int .i64 (newE bk' s1 s2)]) ∧ Below w'.heap.size w' w'') := hid fun he w' g hb => by
        have h := new_no (some ⟨g, 0, none⟩) bk' 1 A1 A2 s1 s2 c1 c2 w' hb hwk (by omega) (by omega) (by omega) he
        rwa [lbk] at h
      have PL : prgE bl = 0 := by rw [hbl]; exact one_prg hok h200
      have PK : prgE bk' = 0 := by rw [hbk]; exact one_prg hkok (by omega)
      have OL := prgE_ok hwl PL
      have OK := prgE_ok hwk PK
      have HXok : Hid (newE bl s1 s2 = 0 → m0.ok bl ∧ m0.ok bk') := hid fun he => by
        rw [hnl] at he
        have hlen : s1.length ≤ 32 ∧ s2.length ≤ 256 := by
          by_cases h : 32 < s1.length ∨ 256 < s2.length
          · rw [if_pos h] at he; omega
          · omega
        rw [hm0]
        exact ⟨newM_ok OL hs1w hs2w hlen.1 hlen.2, newM_ok OK hs1w hs2w hlen.1 hlen.2⟩
      have hst0 : m0.steps = 0 := by rw [hm0]; rfl
      obtain ⟨mX, hmX⟩ : ∃ mX, mX = runM bl 1000 m0 := ⟨_, rfl⟩
      obtain ⟨mY, hmY⟩ : ∃ mY, mY = runM bk' 1000 m0 := ⟨_, rfl⟩
      have CRX : Hid (m0.ok bl → ∀ (w' : World) (g B : Nat) (S : Nat → Prop) (A : Option Addr) (cap : Nat), Mach w' g 158 322 B S A bl cap 2 (.slice none 0 0) m0 doX → Calls Try.prog 62 #[.pointer (some ⟨g, 0, none⟩), .int .i64 1000] w' (RanS g B S A bl cap (.slice none 0 0) mX w')) := hid fun ho w' g B S A cap h => by
        rw [hmX]; exact run_loop_any h OL ho (by omega) 1000 (by omega) (by omega)
      have CRY : Hid (m0.ok bk' → ∀ (w' : World) (g B : Nat) (S : Nat → Prop) (A : Option Addr) (cap : Nat), Mach w' g 158 322 B S A bk' cap 2 (.slice none 0 0) m0 doX → Calls Try.prog 62 #[.pointer (some ⟨g, 0, none⟩), .int .i64 1000] w' (RanS g B S A bk' cap (.slice none 0 0) mY w')) := hid fun ho w' g B S A cap h => by
        rw [hmY]; exact run_loop_any h OK ho (by omega) 1000 (by omega) (by omega)
      have HokX : Hid (m0.ok bl → mX.ok bl ∧ mX.steps ≤ 1048576) := hid fun ho => by
        have h1 := runM_le bl 1000 m0
        have h2 : clampS 1000 = 1000 := by decide
        rw [← hmX] at h1
        exact ⟨by rw [hmX]; exact runM_ok OL ho _, by omega⟩
      have HokY : Hid (m0.ok bk' → mY.ok bk') := hid fun ho => by rw [hmY]; exact runM_ok OK ho _
      have CSX : Hid (mX.ok bl → ∀ (w' : World) (g B : Nat) (S : Nat → Prop) (A : Option Addr) (cap : Nat) (pv : Value), Mach w' g 158 322 B S A bl cap 2 pv mX doX → Calls Try.prog 63 #[.pointer (some ⟨g, 0, none⟩)] w' (StateS mX w')) := hid fun ho w' g B S A cap pv h => state_any h ho.r32 ho.m256
      have CSY : Hid (mY.ok bk' → ∀ (w' : World) (g B : Nat) (S : Nat → Prop) (A : Option Addr) (cap : Nat) (pv : Value), Mach w' g 158 322 B S A bk' cap 2 pv mY doX → Calls Try.prog 63 #[.pointer (some ⟨g, 0, none⟩)] w' (StateS mY w')) := hid fun ho w' g B S A cap pv h => state_any h ho.r32 ho.m256
      have hee : newE bl s1 s2 = newE bk' s1 s2 := hnl.trans hnk.symm
      have HBL := hid (fun (w' : World) (g : Nat) => @one_at w' g A l cap)
      have HBK := hid (fun (w' : World) (g : Nat) (A : Option Addr) (c : Nat) => @one_at w' g A k c)
      rw [← hbl] at HBL
      rw [← hbk] at HBK
      rw [hkl] at HBK
      have HS' : Hid ((∀ e ∈ E, ¬ (e.f = (i : Int) ∧ e.t = ((i + 1 : Nat) : Int))) → outE mX = outE mY ∧ mX.prints = mY.prints ∧ (outE mX = 0 → mX.R = mY.R ∧ mX.M = mY.M)) := hid fun h => by
        have := HS.out h s1 s2
        rw [hmX, hmY, hm0, hbl, hbk]
        exact this
      replace HS := HS'
      replace hbl := hid hbl
      replace hbk := hid hbk
      replace hmX := hid hmX
      replace hmY := hid hmY
      replace hm0 := hid hm0
      replace hnl := hid hnl
      replace hnk := hid hnk
      replace OL := hid OL
      replace OK := hid OK
      replace hee := hid hee
      have HA := hid hl
      have GA := hid (fun (w' : World) (h : OpsIn w' A l) => h.get i (by omega))
      replace hk := hid hk
      replace hE := hid hE
      replace hEE := hid hEE
      have HG := hid (fun (w' : World) (A : Option Addr) (h : OpsIn w' A l) => And.intro (h.get i (by omega)) (h.get (i + 1) hi1))
      rw [(List.getElem?_eq_some_iff.1 ha).2] at GA
      have hij : (i : Int) + 1 < (l.length : Int) := by omega
      have hij1 : (i : Int) < (l.length : Int) := by omega
      have hi0 : (0 : Int) ≤ (i : Int) := by omega
      clear hd hV2 hl hw hs1 hs2 hs1w hs2w hok hkok hkw PL PK HS' hwl hwk hst0
      go_enter Try.func18, Try.ntmps18
      go_wp2_with fail
      with_reducible refine (C1.out _ ?_).mono ?_
      · ((with_reducible (repeat (first | assumption | exact Below.refl _ _ | refine bset ?_ (Nat.le_refl _) _ | refine balloc ?_ _ | refine bdrew ?_ | refine bdrewN ?_ _))); done)
      rintro e w1 ⟨A3, c3, rfl, hE1, hbb⟩
      have B1 := hid (btrans (a := w) (by ((with_reducible (repeat (first | assumption | exact Below.refl _ _ | refine bset ?_ (Nat.le_refl _) _ | refine balloc ?_ _ | refine bdrew ?_ | refine bdrewN ?_ _))); done)) hbb)
      have HE1 := hid hE1
      have z0 : w1.cell? ⟨w.heap.size + 1, 0, none⟩ = some (.slice A1 s1.length c1) := cell_keep (by go_simp) hbb
      have z1 : w1.cell? ⟨w.heap.size + 1, 1, none⟩ = some (.slice A2 s2.length c2) := cell_keep (by go_simp) hbb
      have hz : w.heap.size + 1 < w1.heap.size := by have := hbb.size; simp at this; omega
      clear hbb hE1 C1
      have hEl2 := hid hEl
      go_wp2_with fail
      go_loopg [55] E.length (fun gk v55 wr => ∃ j : Nat, v55 = .int .i64 j ∧ j ≤ E.length ∧ Hid (gk + j = E.length) ∧ Hid (Below w1.heap.size w1 wr) ∧ Hid (∀ n (hn : n < E.length), n < j → ¬ (E[n].f = (i : Int) ∧ E[n].t = ((i + 1 : Nat) : Int))))
      case atStart => exact ⟨0, rfl, Nat.zero_le _, by exact Nat.add_zero _, hid (Below.refl _ _), hid (fun n _ h => by omega)⟩
      case round =>
        obtain ⟨j, rfl, hj, hgk, hbr, hno⟩ := hrel
        rename World => wr
        have hsr := hbr.out.size
        by_cases hlt : j < E.length
        · have hjj : (j : Int) < (E.length : Int) := by omega
          have hj0 : (0 : Int) ≤ (j : Int) := by omega
          obtain ⟨ge, oe, rfl, e0, e1, e2, e3, e4⟩ := (HE1.out.keep hbr.out).get j hlt
          have hge : ge < wr.heap.size := World.block_lt_of_cell? wr _ e0
          have hnx := hid (fun (h : ¬ (E[j].f = (i : Int) ∧ E[j].t = ((i + 1 : Nat) : Int))) n (hn : n < E.length) (hnj : n < j + 1) => show ¬ (E[n].f = (i : Int) ∧ E[n].t = ((i + 1 : Nat) : Int)) by
            by_cases e : n = j
            · subst e; exact h
            · exact hno.out n hn (by omega))
          generalize E[j].f = xf at *
          generalize E[j].t = xt at *
          generalize E[j].l = xl at *
          generalize E[j].d = xd at *
          generalize E[j].y = xy at *
          cases hf : (xf == (i : Int)) with
          | false =>
            have hne : ¬ (xf = (i : Int) ∧ xt = ((i + 1 : Nat) : Int)) := fun h => by rw [h.1] at hf; simp at hf
            go_wp2
            go_roundg (E.length - (j + 1))
            case measure => have := hgk.out; omega
            case rel => exact ⟨j + 1, by go_num, by omega, by show _ + _ = _; omega, hid (balloc hbr.out _), hid (hnx.out hne)⟩
          | true =>
            cases ht2 : (xt == (i : Int) + 1) with
            | false =>
              have hne : ¬ (xf = (i : Int) ∧ xt = ((i + 1 : Nat) : Int)) := fun h => by
                have e : xt = (i : Int) + 1 := by omega
                rw [e] at ht2
                simp at ht2
              go_wp2
              go_roundg (E.length - (j + 1))
              case measure => have := hgk.out; omega
              case rel => exact ⟨j + 1, by go_num, by omega, by show _ + _ = _; omega, hid (balloc hbr.out _), hid (hnx.out hne)⟩
            | true =>
              go_wp2_with fail
              with_reducible refine (CW.out _).mono ?_
              rintro e w9 ⟨rfl, hb9⟩
              go_wp2
              go_ret
              exact ⟨rfl, btrans (btrans B1.out (balloc hbr.out _)) hb9⟩
        · obtain rfl : j = E.length := by omega
          have HS2 := hid (HS.out fun e he => by
            obtain ⟨n, hn, rfl⟩ := List.getElem_of_mem he
            exact hno.out n hn hn)
          have Br := hid (btrans B1.out hbr.out)
          have z0r := cell_keep z0 hbr.out
          have z1r := cell_keep z1 hbr.out
          have hzr : w.heap.size + 1 < wr.heap.size := by omega
          have HAr := hid (HA.out.keep Br.out)
          clear HS hno HE1
          go_upto_region 13 with (fail)
          go_wp2_with (at_builtin; refine wpList_app_ops2 rfl _ _ rfl wr.heap.size wr.heap.size l A cap rfl rfl (HAr.out.keep (by ((with_reducible (repeat (first | assumption | exact Below.refl _ _ | refine bset ?_ (Nat.le_refl _) _ | refine balloc ?_ _ | refine bdrew ?_ | refine bdrewN ?_ _))); done))) (by intro hA; rw [hA] at h2; simp at h2) (heap_new_at _ _ _ rfl) (Nat.le_refl _) (by simp) (by omega) ?_)
          intro g3 d3 w3 ho3 hl3 hg3 hs3 hb3 hfz3
          have b3 : Below wr.heap.size wr w3 := Below.trans (by ((with_reducible (repeat (first | assumption | exact Below.refl _ _ | refine bset ?_ (Nat.le_refl _) _ | refine balloc ?_ _ | refine bdrew ?_ | refine bdrewN ?_ _))); done)) hb3
          have B3 := hid (btrans Br.out b3)
          have z0 := cell_keep z0r b3
          have z1 := cell_keep z1r b3
          have hz3 : w.heap.size + 1 < w3.heap.size := by have := b3.size; omega
          have HA3 := hid (HAr.out.keep b3)
          obtain ⟨⟨qa, oa, hqa, ka⟩, ⟨qb, ob, hqb, kb⟩⟩ := HG.out w3 _ ho3
          injection hqa with hqa
          injection hqa with ea1 ea2
          injection hqb with hqb
          injection hqb with eb1 eb2
          subst ea1 ea2 eb1 eb2
          rw [(List.getElem?_eq_some_iff.1 ha).2, Nat.zero_add] at ka
          rw [(List.getElem?_eq_some_iff.1 hb).2, Nat.zero_add] at kb
          obtain ⟨ka0, ka1, ka2, ka3, ka4⟩ := ka
          obtain ⟨kb0, kb1, kb2, kb3, kb4⟩ := kb
          have KI := hid (hin.out w3 g3 ho3)
          have hnn : ∀ x y : Nat, x < 5 → y < 5 → ¬ (i * 5 + x = (i + 1) * 5 + y) := fun x y hx hy => by omega
          obtain ⟨ak, ad, aa, ab, an⟩ := a
          obtain ⟨bk, bd, ba, bb, bn⟩ := b
          simp only at ka0 ka1 ka2 ka3 ka4 kb0 kb1 kb2 kb3 kb4
          unfold put5 at KI
          simp only at KI
          clear hb3 b3 z0r z1r HAr ho3 HG hin
          have hij4 : (0 : Int) ≤ (i : Int) + 1 := by omega
          go_upto_region 14 with (fail)
          go_region
          all_goals
            obtain ⟨w4, hw4⟩ : ∃ w4 : World, w4 = ((((((((((w3.setCell ⟨g3, i * 5, none⟩ (.int .i8 bk)).setCell ⟨g3, i * 5 + 1, none⟩ (.int .u8 bd)).setCell ⟨g3, i * 5 + 2, none⟩ (.int .u8 ba)).setCell ⟨g3, i * 5 + 3, none⟩ (.int .u8 bb)).setCell ⟨g3, i * 5 + 4, none⟩ (.int .i64 bn)).setCell ⟨g3, (i + 1) * 5, none⟩ (.int .i8 ak)).setCell ⟨g3, (i + 1) * 5 + 1, none⟩ (.int .u8 ad)).setCell ⟨g3, (i + 1) * 5 + 2, none⟩ (.int .u8 aa)).setCell ⟨g3, (i + 1) * 5 + 3, none⟩ (.int .u8 ab)).setCell ⟨g3, (i + 1) * 5 + 4, none⟩ (.int .i64 an)).drew := ⟨_, rfl⟩
            rw [← hw4]
            have T4 : Trn g3 none w3 w4 := by
              rw [hw4]
              with_reducible refine Trn.drew ?_
              with_reducible (repeat (refine Trn.set ?_ _ _))
              exact Trn.refl _ _ _
            have K4 : Hid (OpsIn w4 (some ⟨g3, 0, none⟩) k) := hid (by rw [hw4]; exact KI.out.keep (bdrew (Below.refl _ _)))
            have hgw : w.heap.size ≤ g3 := by omega
            have B4 := hid (below_trn B3.out T4 (Nat.le_refl _) hgw)
            have y0 : w4.cell? ⟨w.heap.size + 1, 0, none⟩ = some (.slice A1 s1.length c1) := (World.cell?_of_block (T4.block (w.heap.size + 1) hz3 (by omega) (by intro e; cases e))).trans z0
            have y1 : w4.cell? ⟨w.heap.size + 1, 1, none⟩ = some (.slice A2 s2.length c2) := (World.cell?_of_block (T4.block (w.heap.size + 1) hz3 (by omega) (by intro e; cases e))).trans z1
            have hs4 := T4.size
            have hz4 : w.heap.size + 1 < w4.heap.size := by omega
            have hg4 : g3 < w4.heap.size := by omega
            replace hw4 := hid hw4
            clear T4 KI z0 z1 ka0 ka1 ka2 ka3 ka4 kb0 kb1 kb2 kb3 kb4 hfz3 HA3
            go_wp2_with fail
            obtain ⟨w5, hw5⟩ : ∃ w5 : World, w5 = w4.alloc (.cells #[.slice A l.length cap, .int .i8 2, .int .u8 0, .slice none 0 0, .int .i64 0, .int .i64 0] 70) := ⟨_, rfl⟩
            rw [← hw5]
            have b5 : Below w4.heap.size w4 w5 := by rw [hw5]; ((with_reducible (repeat (first | assumption | exact Below.refl _ _ | refine bset ?_ (Nat.le_refl _) _ | refine balloc ?_ _ | refine bdrew ?_ | refine bdrewN ?_ _))); done)
            have hs5 : w5.heap.size = w4.heap.size + 1 := by rw [hw5]; simp
            have hAn : A = none → cap = 0 := fun hA => by
              obtain ⟨_, _, hA2, _⟩ := GA.out w HA.out
              rw [hA2] at hA
              cases hA
            have B5 := hid (btrans B4.out b5)
            have P5 : Hid (BlksIn w5 (some ⟨w4.heap.size, 0, none⟩) bl) := hid (HBL.out w5 w4.heap.size (by rw [hw5]; go_simp) (by rw [hw5]; go_simp) (by rw [hw5]; go_simp) (by rw [hw5]; go_simp) (by rw [hw5]; go_simp) (by rw [hw5]; go_simp) (HA.out.keep B5.out) hc hAn)
            have K5 := hid (K4.out.keep b5)
            have y0 := cell_keep y0 b5
            have y1 := cell_keep y1 b5
            have hz5 : w.heap.size + 1 < w5.heap.size := by omega
            replace hw5 := hid hw5
            clear K4 b5
            by_cases he : newE bl s1 s2 = 0
            · obtain ⟨o0l, o0k⟩ := HXok.out he
              obtain ⟨oX, stX⟩ := HokX.out o0l
              have oY := HokY.out o0k
              have he2 : newE bk' s1 s2 = 0 := by rw [← hee.out]; exact he
              obtain ⟨hE1, hPr, hRM⟩ := HS2.out
              have N1 := hid (CNy.out he)
              have N2 := hid (CKy.out he2)
              have R1 := hid (CRX.out o0l)
              have R2 := hid (CRY.out o0k)
              have S1 := hid (CSX.out oX)
              have S2 := hid (CSY.out oY)
              have hpl : mX.prints.length ≤ 1000000000000000000 := by have := oX.pl; omega
              have CP := hid (fun (w' : World) (B1 B2 : Option Addr) (d1 d2 : Nat) h1 h2 => nums11_same B1 B2 mX.prints d1 d2 w' h1 h2 hpl)
              have CR := hid (fun (w' : World) (B1 B2 : Option Addr) (d1 d2 : Nat) h1 h2 => nums11_same B1 B2 mX.R d1 d2 w' h1 h2 (by rw [oX.r32]; decide))
              have CM := hid (fun (w' : World) (B1 B2 : Option Addr) (d1 d2 : Nat) h1 h2 => nums11_same B1 B2 mX.M d1 d2 w' h1 h2 (by rw [oX.m256]; decide))
              replace hE1 := hid hE1
              replace hPr := hid hPr
              replace hRM := hid hRM
              have hRl := hid (show mY.R.length = mX.R.length from oY.r32.trans oX.r32.symm)
              have hMl := hid (show mY.M.length = mX.M.length from oY.m256.trans oX.m256.symm)
              clear CNy CKy CNn CKn CRX CRY CSX CSY HokX HokY HXok HS2 o0l o0k oX oY stX he he2 HBL hEl2 hpl
              with_reducible refine (N1.out _ _ P5.out B5.out).mono ?_
              rintro e w6 ⟨g1, Q1, cp1, rfl, hM1, hb6, hg1⟩
              rw [← hm0.out] at hM1
              have M1 := hid hM1
              have hg1s := hM1.cells.lt
              have b6 := hid (btrans B5.out hb6)
              have K6 := hid (K5.out.keep hb6)
              have y0 := cell_keep y0 hb6
              have y1 := cell_keep y1 hb6
              have hz6 : w.heap.size + 1 < w6.heap.size := by have := hb6.size; omega
              have hgw1 : w.heap.size ≤ g1 := by omega
              clear hM1 hb6 hg1 P5 K5 N1
              go_wp2_with fail
              obtain ⟨w7, hw7⟩ : ∃ w7 : World, w7 = w6.alloc (.cells #[.slice (some ⟨g3, 0, none⟩) l.length d3, .int .i8 2, .int .u8 0, .slice none 0 0, .int .i64 0, .int .i64 0] 70) := ⟨_, rfl⟩
              rw [← hw7]
              have b67 : Below w6.heap.size w6 w7 := by rw [hw7]; ((with_reducible (repeat (first | assumption | exact Below.refl _ _ | refine bset ?_ (Nat.le_refl _) _ | refine balloc ?_ _ | refine bdrew ?_ | refine bdrewN ?_ _))); done)
              have hs7 : w7.heap.size = w6.heap.size + 1 := by rw [hw7]; simp
              have P7 : Hid (BlksIn w7 (some ⟨w6.heap.size, 0, none⟩) bk') := hid (HBK.out w7 w6.heap.size _ _ (by rw [hw7]; go_simp) (by rw [hw7]; go_simp) (by rw [hw7]; go_simp) (by rw [hw7]; go_simp) (by rw [hw7]; go_simp) (by rw [hw7]; go_simp) (K6.out.keep b67) hl3 (fun h => by cases h))
              have B7 := hid (btrans b6.out b67)
              have M17 := hid (M1.out.below b67)
              replace hw7 := hid hw7
              clear K6 b6 M1 b67 y0 y1 HBK
              with_reducible refine (N2.out _ _ P7.out B7.out).mono ?_
              rintro e w8 ⟨g2, Q2, cp2, rfl, hM2, hb8, hg2⟩
              rw [← hm0.out] at hM2
              have hg2s := hM2.cells.lt
              obtain ⟨B, hBa, hBb⟩ : ∃ B, B ≤ w8.heap.size ∧ w8.heap.size ≤ B := ⟨_, Nat.le_refl _, Nat.le_refl _⟩
              have hs8 := hb8.size
              have M18 := hid ((M17.out.below hb8).raise (B' := B) (by omega) hBa)
              have M28 := hid (hM2.raise (B' := B) hBb hBa)
              have B8 := hid (btrans B7.out hb8)
              have hg12 : g1 < g2 := by omega
              have hg2B : g2 < B := by omega
              have hgw2 : w.heap.size ≤ g2 := by omega
              have hg62 : w6.heap.size ≤ g2 := by omega
              clear hM2 hb8 hg2 M17 P7 N2 B7
              go_wp2_with fail
              with_reducible refine (R1.out _ _ _ _ _ _ M18.out).mono ?_
              rintro e w9 ⟨pv1, A4, A5, c4, c5, rfl, hW, hn4, _⟩
              have W9 := hid hW
              have M29 := hid (M28.out.stay hW.trn (by omega) (fun k e => by cases e) (fun k e => by cases e) (fun b hb => by have := hb.1; omega))
              have B9 := hid (below_trn B8.out hW.trn (Nat.le_refl _) hgw1)
              have F4 := hid hn4
              have hs9 := hW.trn.size
              clear hW hn4 M18 M28 R1 B8
              go_wp2_with fail
              with_reducible refine (R2.out _ _ _ _ _ _ M29.out).mono ?_
              rintro e w10 ⟨pv2, A6, A7, c6, c7, rfl, hW, hn6, _⟩
              have M110 := hid (W9.out.mach.stay hW.trn (by omega) (fun k e => by cases e) (fun k e => by have := (own_ge W9.out.mach.own k e).1; omega) (fun b hb => by have := hb.2; omega))
              have M210 := hid hW.mach
              have B10 := hid (below_trn B9.out hW.trn (Nat.le_refl _) hgw2)
              have F6 : Hid (NumsIn w10 A6 mX.prints) := hid (by rw [hPr.out]; exact hn6.nums)
              have F410 := hid (F4.out.turn hW.trn (by omega) (fun k e => by cases e)).nums
              rw [← hE1.out, ← hPr.out]
              have hs10 := hW.trn.size
              generalize outV mX = vX at *
              generalize outV mY = vY at *
              clear hW hn6 W9 M29 R2 B9 F4
              go_wp2_with fail
              obtain ⟨w11, hw11⟩ : ∃ w11 : World, w11 = (w10.alloc (.cells #[.int .i64 (outE mX), .int .i64 vX, .slice A4 mX.prints.length c4, .slice A5 (outM mX).length c5, .int .i64 mX.steps] 105)).alloc (.cells #[.int .i64 (outE mX), .int .i64 vY, .slice A6 mX.prints.length c6, .slice A7 (outM mY).length c7, .int .i64 mY.steps] 105) := ⟨_, rfl⟩
              rw [← hw11]
              have b11 : Below w10.heap.size w10 w11 := by rw [hw11]; ((with_reducible (repeat (first | assumption | exact Below.refl _ _ | refine bset ?_ (Nat.le_refl _) _ | refine balloc ?_ _ | refine bdrew ?_ | refine bdrewN ?_ _))); done)
              have hs11 : w11.heap.size = w10.heap.size + 2 := by rw [hw11]; simp
              have x0 : w11.cell? ⟨w10.heap.size, 0, none⟩ = some (.int .i64 (outE mX)) := by rw [hw11]; go_simp
              have x2 : w11.cell? ⟨w10.heap.size, 2, none⟩ = some (.slice A4 mX.prints.length c4) := by rw [hw11]; go_simp
              have v0 : w11.cell? ⟨w10.heap.size + 1, 0, none⟩ = some (.int .i64 (outE mX)) := by rw [hw11]; go_simp
              have v2 : w11.cell? ⟨w10.heap.size + 1, 2, none⟩ = some (.slice A6 mX.prints.length c6) := by rw [hw11]; go_simp
              have B11 := hid (btrans B10.out b11)
              have M111 := hid (M110.out.below b11)
              have M211 := hid (M210.out.below b11)
              have F611 := hid (F6.out.keep b11)
              have F411 := hid (F410.out.keep b11)
              replace hw11 := hid hw11
              clear M110 M210 F6 F410 b11 B10
              with_reducible refine (S1.out _ _ _ _ _ _ _ M111.out).mono ?_
              rintro e w12 ⟨A8, A9, c8, c9, rfl, hb12, hn8, hn9⟩
              have M212 := hid (M211.out.below hb12)
              have L12 := hid hb12
              have N8 := hid hn8.1
              have N9 := hid hn9.1
              clear hb12 hn8 hn9 M111 M211 S1
              go_wp2_with fail
              with_reducible refine (S2.out _ _ _ _ _ _ _ M212.out).mono ?_
              rintro e w13 ⟨A10, A11, c10, c11, rfl, hb13, hn10, hn11⟩
              rw [hRl.out, hMl.out]
              have L13 := hid (btrans L12.out hb13)
              have N8' := hid (N8.out.keep hb13)
              have N9' := hid (N9.out.keep hb13)
              have N10 := hid hn10.1
              have N11 := hid hn11.1
              have x0 := cell_keep x0 L13.out
              have x2 := cell_keep x2 L13.out
              have v0 := cell_keep v0 L13.out
              have v2 := cell_keep v2 L13.out
              have hsz13 : w10.heap.size + 1 < w13.heap.size := by have := L13.out.size; omega
              have hsz13' : w10.heap.size < w13.heap.size := by omega
              have B13 := hid (btrans B11.out L13.out)
              have F4 := hid (F411.out.keep L13.out)
              have F6 := hid (F611.out.keep L13.out)
              clear hb13 hn10 hn11 M212 S2 L12 N8 N9 F411 F611 B11 L13
              have hEb : (outE mX == outE mX) = true := by simp
              by_cases hz0 : outE mX = 0
              · have hzb : (outE mX != 0) = false := by rw [hz0]; rfl
                obtain ⟨eR, eM⟩ := hRM.out hz0
                rw [← eR] at N10
                rw [← eM] at N11
                clear eR eM
                go_wp2_with fail
                with_reducible refine (CP.out _ _ _ _ _ (F4.out.keep ?_) (F6.out.keep ?_)).mono ?_
                · ((with_reducible (repeat (first | assumption | exact Below.refl _ _ | refine bset ?_ (Nat.le_refl _) _ | refine balloc ?_ _ | refine bdrew ?_ | refine bdrewN ?_ _))); done)
                · ((with_reducible (repeat (first | assumption | exact Below.refl _ _ | refine bset ?_ (Nat.le_refl _) _ | refine balloc ?_ _ | refine bdrew ?_ | refine bdrewN ?_ _))); done)
                rintro e w14 ⟨rfl, hb14⟩
                have bq := btrans (show Below w13.heap.size w13 _ by ((with_reducible (repeat (first | assumption | exact Below.refl _ _ | refine bset ?_ (Nat.le_refl _) _ | refine balloc ?_ _ | refine bdrew ?_ | refine bdrewN ?_ _))); done)) hb14
                have p0 : w14.cell? ⟨w13.heap.size, 0, none⟩ = some (.slice A8 mX.R.length c8) := cell_keep (by go_simp) hb14
                have p1 : w14.cell? ⟨w13.heap.size, 1, none⟩ = some (.slice A9 mX.M.length c9) := cell_keep (by go_simp) hb14
                have q0 : w14.cell? ⟨w13.heap.size + 1, 0, none⟩ = some (.slice A10 mX.R.length c10) := cell_keep (by go_simp) hb14
                have q1 : w14.cell? ⟨w13.heap.size + 1, 1, none⟩ = some (.slice A11 mX.M.length c11) := cell_keep (by go_simp) hb14
                have x0 := cell_keep x0 bq
                have hq := hb14.size
                (try simp at hq)
                have h14 : w13.heap.size + 1 < w14.heap.size := by omega
                have h14' : w13.heap.size < w14.heap.size := by omega
                have h10 : w10.heap.size < w14.heap.size := by omega
                have B14 := hid (btrans B13.out bq)
                have G8 := hid (N8'.out.keep bq)
                have G9 := hid (N9'.out.keep bq)
                have G10 := hid (N10.out.keep bq)
                have G11 := hid (N11.out.keep bq)
                clear bq hb14 hq CP F4 F6 N8' N9' N10 N11 x2 v0 v2 B13
                go_wp2_with fail
                with_reducible refine (CR.out _ _ _ _ _ G8.out G10.out).mono ?_
                rintro e w15 ⟨rfl, hb15⟩
                have p1 := cell_keep p1 hb15
                have q1 := cell_keep q1 hb15
                have hq := hb15.size
                have h15 : w13.heap.size + 1 < w15.heap.size := by omega
                have h15' : w13.heap.size < w15.heap.size := by omega
                have B15 := hid (btrans B14.out hb15)
                have H9 := hid (G9.out.keep hb15)
                have H11 := hid (G11.out.keep hb15)
                clear hb15 hq CR G8 G9 G10 G11 p0 q0 x0 B14
                go_wp2_with fail
                with_reducible refine (CM.out _ _ _ _ _ H9.out H11.out).mono ?_
                rintro e w16 ⟨rfl, hb16⟩
                have B16 := hid (btrans B15.out hb16)
                clear hb16
                go_wp2_with fail
                with_reducible refine (CW.out _).mono ?_
                rintro e w17 ⟨rfl, hb17⟩
                go_wp2
                go_ret
                exact ⟨rfl, btrans B16.out hb17⟩
              · have hzb : (outE mX != 0) = true := by simpa using hz0
                go_wp2_with fail
                with_reducible refine (CP.out _ _ _ _ _ (F4.out.keep ?_) (F6.out.keep ?_)).mono ?_
                · ((with_reducible (repeat (first | assumption | exact Below.refl _ _ | refine bset ?_ (Nat.le_refl _) _ | refine balloc ?_ _ | refine bdrew ?_ | refine bdrewN ?_ _))); done)
                · ((with_reducible (repeat (first | assumption | exact Below.refl _ _ | refine bset ?_ (Nat.le_refl _) _ | refine balloc ?_ _ | refine bdrew ?_ | refine bdrewN ?_ _))); done)
                rintro e w14 ⟨rfl, hb14⟩
                have bq := btrans (show Below w13.heap.size w13 _ by ((with_reducible (repeat (first | assumption | exact Below.refl _ _ | refine bset ?_ (Nat.le_refl _) _ | refine balloc ?_ _ | refine bdrew ?_ | refine bdrewN ?_ _))); done)) hb14
                have x0 := cell_keep x0 bq
                have hq := hb14.size
                (try simp at hq)
                have h10 : w10.heap.size < w14.heap.size := by omega
                have B14 := hid (btrans B13.out bq)
                clear bq hb14 hq CP F4 F6 N8' N9' N10 N11 x2 v0 v2 B13
                go_wp2_with fail
                with_reducible refine (CW.out _).mono ?_
                rintro e w17 ⟨rfl, hb17⟩
                go_wp2
                go_ret
                exact ⟨rfl, btrans B14.out hb17⟩
            · have hnE : Hid (newE bk' s1 s2 ≠ 0) := hid (by rw [← hee.out]; exact he)
              have N1 := hid (CNn.out he)
              have N2 := hid (CKn.out hnE.out)
              rw [← hee.out] at N2
              have heb : (newE bl s1 s2 != 0) = true := by simpa using he
              generalize newE bl s1 s2 = ee at *
              have hebb : (ee == ee) = true := by simp
              clear CNy CKy CNn CKn CRX CRY CSX CSY HokX HokY HXok HS2 he HBL hEl2
              with_reducible refine (N1.out _ _ P5.out).mono ?_
              rintro e w6 ⟨rfl, hb6⟩
              have b6 := hid (btrans B5.out hb6)
              have K6 := hid (K5.out.keep hb6)
              have y0 := cell_keep y0 hb6
              have y1 := cell_keep y1 hb6
              have hz6 : w.heap.size + 1 < w6.heap.size := by have := hb6.size; omega
              clear hb6 P5 K5 N1
              go_wp2_with fail
              obtain ⟨w7, hw7⟩ : ∃ w7 : World, w7 = w6.alloc (.cells #[.slice (some ⟨g3, 0, none⟩) l.length d3, .int .i8 2, .int .u8 0, .slice none 0 0, .int .i64 0, .int .i64 0] 70) := ⟨_, rfl⟩
              rw [← hw7]
              have b67 : Below w6.heap.size w6 w7 := by rw [hw7]; ((with_reducible (repeat (first | assumption | exact Below.refl _ _ | refine bset ?_ (Nat.le_refl _) _ | refine balloc ?_ _ | refine bdrew ?_ | refine bdrewN ?_ _))); done)
              have P7 : Hid (BlksIn w7 (some ⟨w6.heap.size, 0, none⟩) bk') := hid (HBK.out w7 w6.heap.size _ _ (by rw [hw7]; go_simp) (by rw [hw7]; go_simp) (by rw [hw7]; go_simp) (by rw [hw7]; go_simp) (by rw [hw7]; go_simp) (by rw [hw7]; go_simp) (K6.out.keep b67) hl3 (fun h => by cases h))
              have B7 := hid (btrans b6.out b67)
              replace hw7 := hid hw7
              clear K6 b6 b67 y0 y1 HBK
              with_reducible refine (N2.out _ _ P7.out).mono ?_
              rintro e w8 ⟨rfl, hb8⟩
              have B8 := hid (btrans B7.out hb8)
              clear hb8 N2 P7 B7
              go_wp2_with fail
              with_reducible refine (CW.out _).mono ?_
              rintro e w9 ⟨rfl, hb9⟩
              go_wp2
              go_ret
              exact ⟨rfl, btrans B8.out hb9⟩
    · have hdb : (depE l [t0, t1, t2, t3, t4, t5, t6, t7, t8, t9, t10, t11, t12] != 0) = true := by simpa using hd
      generalize depE l [t0, t1, t2, t3, t4, t5, t6, t7, t8, t9, t10, t11, t12] = d at *
      generalize ofE l [t0, t1, t2, t3, t4, t5, t6, t7, t8, t9, t10, t11, t12] = E at *
      clear hl hw hs1 hs2 hs1w hs2w hV2 hlen hd
      go_enter Try.func18, Try.ntmps18
      go_wp2_with fail
      with_reducible refine (C1.out _ ?_).mono ?_
      · ((with_reducible (repeat (first | assumption | exact Below.refl _ _ | refine bset ?_ (Nat.le_refl _) _ | refine balloc ?_ _ | refine bdrew ?_ | refine bdrewN ?_ _))); done)
      rintro e w1 ⟨A3, c3, rfl, hE1, hb⟩
      have B1 := hid (btrans (a := w) (by ((with_reducible (repeat (first | assumption | exact Below.refl _ _ | refine bset ?_ (Nat.le_refl _) _ | refine balloc ?_ _ | refine bdrew ?_ | refine bdrewN ?_ _))); done)) hb)
      clear hb hE1
      go_wp2_with fail
      with_reducible refine (CW.out _).mono ?_
      rintro e w2 ⟨rfl, hb⟩
      go_wp2
      go_ret
      exact ⟨rfl, btrans B1.out hb⟩
end Go.Proofs.Ytcibkoodnfkogaa
