/- deps.Right, deps.Of, deps.Loop. -/
import Derived.Test.YtcibkoodnfkogaaY13
import Derived.Test.YtcibkoodnfkogaaY12
namespace Go.Proofs.Ytcibkoodnfkogaa
open Go.RowKit
set_option linter.unusedVariables false
set_option linter.unusedSimpArgs false
section
open Go.RowKit
theorem depOk_no {l : List Op} {i : Nat} (hi : i < l.length) (h : depOk l[i] = false) : l.all depOk = false := by
  rw [Bool.eq_false_iff]
  intro e
  have := List.all_eq_true.1 e l[i] (List.getElem_mem hi)
  rw [h] at this
  cases this
set_option maxHeartbeats 4000000 in
set_option maxRecDepth 100000 in
theorem right_any (A : Option Addr) (l : List Op) (cap : Nat) (t : List Int) (w : World) (HL : OpsIn w A l) (hwf : ∀ o ∈ l, o.wf) (hm : l.length ≤ 1000000000000000000) (ht : t.length = 13) :
    Calls Try.prog 89 #[.slice A l.length cap, tabV t] w fun e w' => e = .returned (.int .i64 (depE l t)) ∧ Below w.heap.size w w' := by
  have CC := hid (fun (w : World) (o : Op) (ho : o ∈ l) => check_any o w (hwf o ho))
  have HL' := hid HL
  clear HL hwf
  obtain ⟨t0, t1, t2, t3, t4, t5, t6, t7, t8, t9, t10, t11, t12, rfl⟩ := tab13 ht
  have CT : Hid (∀ w : World, Calls Try.prog 67 #[.agg #[.int .i64 t0, .int .i64 t1, .int .i64 t2, .int .i64 t3, .int .i64 t4, .int .i64 t5, .int .i64 t6, .int .i64 t7, .int .i64 t8, .int .i64 t9, .int .i64 t10, .int .i64 t11, .int .i64 t12]] w fun e w' => e = .returned (.int .i64 (tabE [t0, t1, t2, t3, t4, t5, t6, t7, t8, t9, t10, t11, t12])) ∧ Below w.heap.size w w') := hid fun w => tcheck_any _ w rfl
  show Calls _ _ #[.slice A l.length cap, .agg #[.int .i64 t0, .int .i64 t1, .int .i64 t2, .int .i64 t3, .int .i64 t4, .int .i64 t5, .int .i64 t6, .int .i64 t7, .int .i64 t8, .int .i64 t9, .int .i64 t10, .int .i64 t11, .int .i64 t12]] w _
  generalize [t0, t1, t2, t3, t4, t5, t6, t7, t8, t9, t10, t11, t12] = t at CT ⊢
  clear ht
  cases htk : tabOk t with
  | false =>
    have e1 : tabE t = 20 := by unfold tabE; rw [htk]; rfl
    have e2 : depE l t = 20 := by unfold depE; rw [htk]; rfl
    rw [e1] at CT
    rw [e2]
    clear e1 e2 htk
    go_enter Try.func89, Try.ntmps89
    go_wp2_with fail
    with_reducible refine (CT.out _).mono ?_
    rintro e w1 ⟨rfl, hb⟩
    have B1 := hid (btrans (a := w) (by ((with_reducible (repeat (first | assumption | exact Below.refl _ _ | refine bset ?_ (Nat.le_refl _) _ | refine balloc ?_ _ | refine bdrew ?_ | refine bdrewN ?_ _))); done)) hb)
    clear hb
    go_wp2
    go_ret
    exact ⟨rfl, B1.out⟩
  | true =>
    have e1 : tabE t = 0 := by unfold tabE; rw [htk]; rfl
    rw [e1] at CT
    clear e1
    by_cases h1 : 1024 < l.length
    · have e2 : depE l t = 3 := by unfold depE; rw [htk, if_pos rfl, if_pos h1]
      rw [e2]
      clear e2 htk
      have h1i : (1024 : Int) < (l.length : Int) := by omega
      go_enter Try.func89, Try.ntmps89
      go_wp2_with fail
      with_reducible refine (CT.out _).mono ?_
      rintro e w1 ⟨rfl, hb⟩
      have B1 := hid (btrans (a := w) (by ((with_reducible (repeat (first | assumption | exact Below.refl _ _ | refine bset ?_ (Nat.le_refl _) _ | refine balloc ?_ _ | refine bdrew ?_ | refine bdrewN ?_ _))); done)) hb)
      clear hb
      go_wp2
      go_ret
      exact ⟨rfl, B1.out⟩
    · have e2 : depE l t = if l.all depOk then 0 else 30 := by unfold depE; rw [htk, if_pos rfl, if_neg h1]
      rw [e2]
      generalize hR : (if l.all depOk then (0 : Int) else 30) = R
      have HR := hid hR
      clear e2 htk hR
      have h1i : ¬ (1024 : Int) < (l.length : Int) := by omega
      go_enter Try.func89, Try.ntmps89
      go_wp2_with fail
      with_reducible refine (CT.out _).mono ?_
      rintro e w1 ⟨rfl, hb⟩
      have B1 := hid (btrans (a := w) (by ((with_reducible (repeat (first | assumption | exact Below.refl _ _ | refine bset ?_ (Nat.le_refl _) _ | refine balloc ?_ _ | refine bdrew ?_ | refine bdrewN ?_ _))); done)) hb)
      clear hb
      go_wp2
      go_loopg [18] l.length (fun gk v18 wr => ∃ i : Nat, i ≤ l.length ∧ v18 = .int .i64 i ∧ Hid (gk + i = l.length) ∧ Hid (Below w.heap.size w wr) ∧ Hid (∀ k, (hk : k < l.length) → k < i → depOk l[k] = true))
      case atStart => exact ⟨0, by omega, rfl, by exact Nat.add_zero _, B1, hid (fun k _ hk => absurd hk (Nat.not_lt_zero _))⟩
      case round =>
        obtain ⟨i, hi, rfl, hgk, hbi, hall⟩ := hrel
        clear B1
        by_cases hlt : i < l.length
        · obtain ⟨go, off, rfl, hop⟩ := (HL'.out.keep hbi.out).get i hlt
          obtain ⟨p0, p1, p2, p3, p4⟩ := hop
          have hb0 := hid hbi.out
          have HALL := hall
          clear hall
          have NO : ∀ (h : depOk l[i] = false), R = 30 := fun h => by rw [← HR.out, depOk_no hlt h]; rfl
          have hck := fun w => CC.out w l[i] (List.getElem_mem hlt)
          by_cases h1 : l[i].k < 1
          · have e0 := hid (NO (by unfold depOk; rw [decide_eq_false (by omega)]; rfl))
            clear NO hck HALL
            go_wp2
            go_ret
            refine ⟨ret_int e0.out.symm, ?_⟩
            exact btrans hb0.out (by ((with_reducible (repeat (first | assumption | exact Below.refl _ _ | refine bset ?_ (Nat.le_refl _) _ | refine balloc ?_ _ | refine bdrew ?_ | refine bdrewN ?_ _))); done))
          by_cases h2 : 17 < l[i].k
          · have e0 := hid (NO (by unfold depOk; rw [decide_eq_false (show ¬ l[i].k ≤ 17 by omega), Bool.and_false]; rfl))
            clear NO hck HALL
            go_wp2
            go_ret
            refine ⟨ret_int e0.out.symm, ?_⟩
            exact btrans hb0.out (by ((with_reducible (repeat (first | assumption | exact Below.refl _ _ | refine bset ?_ (Nat.le_refl _) _ | refine balloc ?_ _ | refine bdrew ?_ | refine bdrewN ?_ _))); done))
          cases h3 : chk l[i]
          · have e0 := hid (NO (by unfold depOk; rw [h3, Bool.and_false]))
            have e1 : chkE l[i] = 30 := by unfold chkE; rw [h3]; rfl
            rw [e1] at hck
            have HC := hid hck
            clear NO hck HALL e1 h3
            go_wp2_with fail
            with_reducible refine (HC.out _).mono ?_
            rintro e w3 ⟨rfl, hb⟩
            have B3 := hid (btrans hb0.out (btrans (a := wr) (by ((with_reducible (repeat (first | assumption | exact Below.refl _ _ | refine bset ?_ (Nat.le_refl _) _ | refine balloc ?_ _ | refine bdrew ?_ | refine bdrewN ?_ _))); done)) hb))
            clear hb
            go_wp2
            go_ret
            exact ⟨ret_int e0.out.symm, B3.out⟩
          · have e0 := hid (show depOk l[i] = true by unfold depOk; rw [h3, decide_eq_true (by omega), decide_eq_true (show l[i].k ≤ 17 by omega)]; rfl)
            have e1 : chkE l[i] = 0 := by unfold chkE; rw [h3]; rfl
            rw [e1] at hck
            have HC := hid hck
            clear NO hck e1 h3
            go_wp2_with fail
            with_reducible refine (HC.out _).mono ?_
            rintro e w3 ⟨rfl, hb⟩
            have B3 := hid (btrans hb0.out (btrans (a := wr) (by ((with_reducible (repeat (first | assumption | exact Below.refl _ _ | refine bset ?_ (Nat.le_refl _) _ | refine balloc ?_ _ | refine bdrew ?_ | refine bdrewN ?_ _))); done)) hb))
            clear hb
            go_wp2
            go_roundg (l.length - (i + 1))
            case measure => have := hgk.out; omega
            case rel =>
              refine ⟨i + 1, by omega, by go_num, by show _ + _ = _; omega, B3, hid fun k hk hki => ?_⟩
              by_cases e : k < i
              · exact HALL.out k hk e
              · obtain rfl : k = i := by omega
                exact e0.out
        · obtain rfl : i = l.length := by omega
          have e : Hid (R = 0) := hid (by
            rw [← HR.out, if_pos]
            rw [List.all_eq_true]
            intro x hx
            obtain ⟨m, hm, rfl⟩ := List.getElem_of_mem hx
            exact hall.out m hm hm)
          go_wp2
          go_ret
          exact ⟨ret_int e.out.symm, hbi.out⟩
end
/- deps.Of and deps.Loop. -/
section
open Go.RowKit
/-- Dependences lie from address A on. -/
def EdgesIn (w : World) (A : Option Addr) (l : List Edge) : Prop :=
  l ≠ [] → ∃ g off, A = some ⟨g, off, none⟩ ∧ ∀ (i : Nat) (x : Edge), l[i]? = some x → ∀ (k : Nat) (c : Value), x.cells[k]? = some c → w.cell? ⟨g, off + i * 5 + k, none⟩ = some c
theorem EdgesIn.keep {w w' : World} {A : Option Addr} {l : List Edge} (h : EdgesIn w A l) (hb : Below w.heap.size w w') : EdgesIn w' A l := fun hl => by
  obtain ⟨g, off, ha, hx⟩ := h hl
  exact ⟨g, off, ha, fun i x hi k c hc => cell_keep (hx i x hi k c hc) hb⟩
theorem edgesV_get (l : List Edge) (i : Nat) (x : Edge) (h : l[i]? = some x) (j : Nat) (hj : j < 5) : (edgesV l)[i * 5 + j]? = x.cells[j]? := by
  induction l generalizing i with
  | nil => simp at h
  | cons a l ih =>
    unfold edgesV at *
    rw [List.flatMap_cons]
    rcases i with _ | i
    · simp at h
      subst h
      rw [List.getElem?_append_left (by show _ < 5; omega)]
      simp
    · rw [List.getElem?_append_right (by show 5 ≤ _; omega)]
      rw [show (i + 1) * 5 + j - a.cells.length = i * 5 + j by show _ - 5 = _; omega]
      exact ih i (by simpa using h)
theorem own_edges {w : World} {base : Nat} {e : TypeId} {v : Value} {l : List Edge} (h : w.ownsRow base e 5 v l.length (edgesV l)) : ∃ (A : Option Addr) (c : Nat), v = .slice A l.length c ∧ l.length ≤ c ∧ EdgesIn w A l := by
  rcases h.2 with ⟨he, h0⟩ | ⟨k, cap, cur, he, hbg, hk, hrest⟩
  · have : l = [] := List.eq_nil_of_length_eq_zero h0
    subst this
    exact ⟨none, 0, he, Nat.le_refl _, fun h => absurd rfl h⟩
  · subst he
    refine ⟨_, cap, rfl, ?_, fun _ => ⟨k, 0, rfl, fun i x hi j c hc => ?_⟩⟩
    · exact hrest.1
    · have hj : j < 5 := (List.getElem?_eq_some_iff.1 hc).1
      have hil := (List.getElem?_eq_some_iff.1 hi).1
      rw [Nat.zero_add, h.cellAt _ (by omega), edgesV_get l i x hi j hj, hc]
/-- Dependences and an error are answered. -/
def EdgeP (l : List Edge) (er : Int) (w : World) (e : Ending) (w' : World) : Prop :=
  ∃ (A : Option Addr) (c : Nat), e = .returned (.tuple #[.slice A l.length c, .int .i64 er]) ∧ EdgesIn w' A l ∧ Below w.heap.size w w'
theorem lat_all {l : List Op} {t : List Int} (h : depE l t = 0) : l.length ≤ 1024 ∧ ∀ c : Nat, c < 4 → 1 ≤ t[4 + c]?.getD 0 ∧ t[4 + c]?.getD 0 ≤ 8 := by
  unfold depE at h
  cases ht : tabOk t with
  | false => rw [ht] at h; simp at h
  | true =>
    rw [ht, if_pos rfl] at h
    by_cases hl : 1024 < l.length
    · rw [if_pos hl] at h; omega
    · exact ⟨by omega, fun c hc => lat_bd ht c hc⟩
set_option maxHeartbeats 4000000 in
set_option maxRecDepth 100000 in
theorem of_dep (A : Option Addr) (l : List Op) (cap : Nat) (t : List Int) (w : World) (HL : OpsIn w A l) (hwf : ∀ o ∈ l, o.wf) (hm : l.length ≤ 1000000000000000000) (hcap : l.length ≤ cap) (ht : t.length = 13) :
    Calls Try.prog 55 #[.slice A l.length cap, tabV t] w (EdgeP (ofE l t) (depE l t) w) := by
  have CR := hid (fun (w' : World) (hb : Below w.heap.size w w') => right_any A l cap t w' (HL.keep hb) hwf hm ht)
  have CN := hid (fun (w' : World) (hb : Below w.heap.size w w') (h : l.length ≤ 1024) => new_any A l cap t w' (HL.keep hb) hwf h ht)
  have CO := hid (fun (w0 w1 : World) (hb : Below w.heap.size w w0) (g : Nat) (F : FindAt w0 w1 w1.heap.size g A cap l t (.slice none 0 0) []) (h : l.length ≤ 1024) (hl : ∀ c : Nat, c < 4 → 1 ≤ t[4 + c]?.getD 0 ∧ t[4 + c]?.getD 0 ≤ 8) => once_any F (HL.keep hb) hwf h hcap (by simp) hl)
  have LA := hid (fun (h : depE l t = 0) => lat_all h)
  clear HL hwf hm hcap
  have EQ : Hid (ofE l t = if depE l t == 0 then onceE l t l.length else []) := hid rfl
  generalize ofE l t = E at EQ ⊢
  obtain ⟨t0, t1, t2, t3, t4, t5, t6, t7, t8, t9, t10, t11, t12, rfl⟩ := tab13 ht
  unfold tabV at CR CN ⊢
  simp only [List.map_cons, List.map_nil] at CR CN ⊢
  generalize hT : [t0, t1, t2, t3, t4, t5, t6, t7, t8, t9, t10, t11, t12] = t at CR CN CO LA EQ ⊢
  clear ht hT
  obtain ⟨d, hd⟩ : ∃ d, depE l t = d := ⟨_, rfl⟩
  rw [hd] at CR EQ LA ⊢
  cases hd0 : (d == 0) with
  | false =>
    have hd1 : (d != 0) = true := by unfold bne; rw [hd0]; rfl
    have EN : Hid (E = []) := hid (by rw [EQ.out, hd0]; rfl)
    go_enter Try.func55, Try.ntmps55
    go_wp2_with fail
    with_reducible refine (CR.out _ ?_).mono ?_
    · ((with_reducible (repeat (first | assumption | exact Below.refl _ _ | refine bset ?_ (Nat.le_refl _) _ | refine balloc ?_ _ | refine bdrew ?_ | refine bdrewN ?_ _))); done)
    rintro e w1 ⟨rfl, hb⟩
    have B1 := hid (btrans (a := w) (by ((with_reducible (repeat (first | assumption | exact Below.refl _ _ | refine bset ?_ (Nat.le_refl _) _ | refine balloc ?_ _ | refine bdrew ?_ | refine bdrewN ?_ _))); done)) hb)
    clear hb
    go_wp2
    go_ret2
    refine ⟨none, 0, ?_, ?_, B1.out⟩
    · rw [EN.out]; rfl
    · rw [EN.out]; exact fun h => absurd rfl h
  | true =>
    obtain rfl : d = 0 := eq_of_beq hd0
    obtain ⟨hl, hlat⟩ := LA.out rfl
    have HLAT := hid hlat
    have EN : Hid (E = onceE l t l.length) := hid (by rw [EQ.out]; rfl)
    clear hlat hd0 hd
    go_enter Try.func55, Try.ntmps55
    go_wp2_with fail
    with_reducible refine (CR.out _ ?_).mono ?_
    · ((with_reducible (repeat (first | assumption | exact Below.refl _ _ | refine bset ?_ (Nat.le_refl _) _ | refine balloc ?_ _ | refine bdrew ?_ | refine bdrewN ?_ _))); done)
    rintro e w1 ⟨rfl, hb⟩
    have B1 := hid (btrans (a := w) (by ((with_reducible (repeat (first | assumption | exact Below.refl _ _ | refine bset ?_ (Nat.le_refl _) _ | refine balloc ?_ _ | refine bdrew ?_ | refine bdrewN ?_ _))); done)) hb)
    obtain ⟨hc, hf⟩ := bcell hb
    have hz := bsize hb
    clear hb
    go_wp2_with fail
    with_reducible refine (CN.out _ B1.out hl).mono ?_
    rintro e w2 ⟨rfl, hF⟩
    have F := hid hF
    clear hF
    go_wp2_with fail
    with_reducible refine (CO.out _ _ B1.out _ F.out hl HLAT.out).mono ?_
    rintro e w3 ⟨v3, rfl, hF3, _⟩
    have z16 := hF3.cv
    have B3 := hid (btrans B1.out hF3.bel)
    have OW := hid hF3.own
    clear hF3 F
    obtain ⟨A3, c3, rfl, _, hE⟩ := own_edges OW.out
    have HE := hid hE
    clear hE OW
    rw [List.nil_append] at z16 HE
    rw [← EN.out] at z16 HE
    go_wp2
    go_ret2
    exact ⟨A3, c3, rfl, HE.out, B3.out⟩
set_option maxHeartbeats 4000000 in
set_option maxRecDepth 100000 in
theorem loop_dep (A : Option Addr) (l : List Op) (cap : Nat) (t : List Int) (w : World) (HL : OpsIn w A l) (hwf : ∀ o ∈ l, o.wf) (hm : l.length ≤ 1000000000000000000) (hcap : l.length ≤ cap) (ht : t.length = 13) :
    Calls Try.prog 57 #[.slice A l.length cap, tabV t] w (EdgeP (loopE l t) (depE l t) w) := by
  have CR := hid (fun (w' : World) (hb : Below w.heap.size w w') => right_any A l cap t w' (HL.keep hb) hwf hm ht)
  have CN := hid (fun (w' : World) (hb : Below w.heap.size w w') (h : l.length ≤ 1024) => new_any A l cap t w' (HL.keep hb) hwf h ht)
  have CO := hid (fun (w0 w1 : World) (hb : Below w.heap.size w w0) (g : Nat) (F : FindAt w0 w1 w1.heap.size g A cap l t (.slice none 0 0) []) (h : l.length ≤ 1024) (hl : ∀ c : Nat, c < 4 → 1 ≤ t[4 + c]?.getD 0 ∧ t[4 + c]?.getD 0 ≤ 8) => once_any F (HL.keep hb) hwf h hcap (by simp) hl)
  have CA := hid (fun (w0 w1 : World) (hb : Below w.heap.size w w0) (B g : Nat) (v : Value) (F : FindAt w0 w1 B g A cap l t v (onceE l t l.length)) (h : l.length ≤ 1024) (hl : ∀ c : Nat, c < 4 → 1 ≤ t[4 + c]?.getD 0 ∧ t[4 + c]?.getD 0 ≤ 8) => around_any F (HL.keep hb) hwf h (by have := onceE_len l t l.length h; omega) hl)
  have LA := hid (fun (h : depE l t = 0) => lat_all h)
  clear HL hwf hm hcap
  have EQ : Hid (loopE l t = if depE l t == 0 then onceE l t l.length ++ arndE l t l.length else []) := hid rfl
  generalize loopE l t = E at EQ ⊢
  obtain ⟨t0, t1, t2, t3, t4, t5, t6, t7, t8, t9, t10, t11, t12, rfl⟩ := tab13 ht
  unfold tabV at CR CN ⊢
  simp only [List.map_cons, List.map_nil] at CR CN ⊢
  generalize hT : [t0, t1, t2, t3, t4, t5, t6, t7, t8, t9, t10, t11, t12] = t at CR CN CO CA LA EQ ⊢
  clear ht hT
  obtain ⟨d, hd⟩ : ∃ d, depE l t = d := ⟨_, rfl⟩
  rw [hd] at CR EQ LA ⊢
  cases hd0 : (d == 0) with
  | false =>
    have hd1 : (d != 0) = true := by unfold bne; rw [hd0]; rfl
    have EN : Hid (E = []) := hid (by rw [EQ.out, hd0]; rfl)
    go_enter Try.func57, Try.ntmps57
    go_wp2_with fail
    with_reducible refine (CR.out _ ?_).mono ?_
    · ((with_reducible (repeat (first | assumption | exact Below.refl _ _ | refine bset ?_ (Nat.le_refl _) _ | refine balloc ?_ _ | refine bdrew ?_ | refine bdrewN ?_ _))); done)
    rintro e w1 ⟨rfl, hb⟩
    have B1 := hid (btrans (a := w) (by ((with_reducible (repeat (first | assumption | exact Below.refl _ _ | refine bset ?_ (Nat.le_refl _) _ | refine balloc ?_ _ | refine bdrew ?_ | refine bdrewN ?_ _))); done)) hb)
    clear hb
    go_wp2
    go_ret2
    refine ⟨none, 0, ?_, ?_, B1.out⟩
    · rw [EN.out]; rfl
    · rw [EN.out]; exact fun h => absurd rfl h
  | true =>
    obtain rfl : d = 0 := eq_of_beq hd0
    obtain ⟨hl, hlat⟩ := LA.out rfl
    have HLAT := hid hlat
    have EN : Hid (E = onceE l t l.length ++ arndE l t l.length) := hid (by rw [EQ.out]; rfl)
    clear hlat hd0 hd
    go_enter Try.func57, Try.ntmps57
    go_wp2_with fail
    with_reducible refine (CR.out _ ?_).mono ?_
    · ((with_reducible (repeat (first | assumption | exact Below.refl _ _ | refine bset ?_ (Nat.le_refl _) _ | refine balloc ?_ _ | refine bdrew ?_ | refine bdrewN ?_ _))); done)
    rintro e w1 ⟨rfl, hb⟩
    have B1 := hid (btrans (a := w) (by ((with_reducible (repeat (first | assumption | exact Below.refl _ _ | refine bset ?_ (Nat.le_refl _) _ | refine balloc ?_ _ | refine bdrew ?_ | refine bdrewN ?_ _))); done)) hb)
    obtain ⟨hc, hf⟩ := bcell hb
    have hz := bsize hb
    clear hb
    go_wp2_with fail
    with_reducible refine (CN.out _ B1.out hl).mono ?_
    rintro e w2 ⟨rfl, hF⟩
    have F := hid hF
    clear hF
    go_wp2_with fail
    with_reducible refine (CO.out _ _ B1.out _ F.out hl HLAT.out).mono ?_
    rintro e w3 ⟨v3, rfl, hF3, _⟩
    rw [List.nil_append] at hF3
    have F3 := hid hF3
    clear hF3 F
    go_wp2_with fail
    with_reducible refine (CA.out _ _ B1.out _ _ _ F3.out hl HLAT.out).mono ?_
    rintro e w4 ⟨v4, rfl, hF4, _⟩
    have z16 := hF4.cv
    have B3 := hid (btrans B1.out hF4.bel)
    have OW := hid hF4.own
    clear hF4 F3
    obtain ⟨A3, c3, rfl, _, hE⟩ := own_edges OW.out
    have HE := hid hE
    clear hE OW
    rw [← EN.out] at z16 HE
    go_wp2
    go_ret2
    exact ⟨A3, c3, rfl, HE.out, B3.out⟩
end
/- Dependences: the document's small functions. -/
section
open Go.RowKit
/-- Who was last to write register r ahead of place n: its place and 1, or 0. -/
def lastR (l : List Op) (n : Nat) (r : Int) : Int := (lastT l n)[r.toNat]?.getD 0
def hitB (o : Op) (r : Int) : Bool := wrB o && wrN o == r
theorem wrN_d {o : Op} (h : wrB o = true) : wrN o = o.d := by unfold wrN; rw [h]; rfl
theorem d_bd {o : Op} (hw : o.wf) (h : wrB o = true) : 0 ≤ o.d ∧ o.d ≤ 31 := ⟨hw.d0, (chk_regs (wrB_chk h)).1⟩
theorem lastR_step {l : List Op} {n : Nat} (hn : n < l.length) (hw : ∀ o ∈ l, o.wf) {r : Int} (hr0 : 0 ≤ r) (hr1 : r ≤ 31) : lastR l (n + 1) r = if hitB l[n] r then (n : Int) + 1 else lastR l n r := by
  unfold lastR hitB
  rw [lastT, List.getElem?_eq_getElem hn]
  cases h : wrB l[n] with
  | false => simp only [h, if_false, Bool.false_eq_true, Bool.false_and]
  | true =>
    obtain ⟨hd0, hd1⟩ := d_bd (hw _ (List.getElem_mem hn)) h
    rw [wrN_d h]
    simp only [h, if_true, Bool.true_and]
    by_cases e : l[n].d = r
    · rw [e, if_pos (by simp), List.getElem?_set_self (by rw [lastT_len]; omega)]
      rfl
    · rw [if_neg (by simpa using e), List.getElem?_set_ne (by omega)]
theorem lastR_zero (l : List Op) (r : Int) : lastR l 0 r = 0 := by
  unfold lastR lastT
  rw [List.getElem?_replicate]
  split <;> rfl
theorem lastR_bd {l : List Op} {n : Nat} (hn : n ≤ l.length) (r : Int) : 0 ≤ lastR l n r ∧ lastR l n r ≤ l.length := by
  unfold lastR
  cases h : (lastT l n)[r.toNat]? with
  | none => exact ⟨Int.le_refl _, by simp⟩
  | some x => exact lastT_bd l n hn x (List.mem_of_getElem? h)
theorem openT_eq {l : List Op} (hw : ∀ o ∈ l, o.wf) {r : Int} (hr0 : 0 ≤ r) (hr1 : r ≤ 31) : ∀ (j : Nat), j ≤ l.length → (openT l j)[r.toNat]?.getD 0 = if lastR l j r - 1 < 0 then lastR l l.length r else 0
  | 0, _ => by rw [lastR_zero, if_pos (by omega)]; rfl
  | j + 1, hj => by
    have hn : j < l.length := by omega
    have ih := openT_eq hw hr0 hr1 j (by omega)
    have hb := lastR_bd (l := l) (n := j) (by omega) r
    rw [openT, List.getElem?_eq_getElem hn, lastR_step hn hw hr0 hr1]
    unfold hitB
    cases h : wrB l[j] with
    | false => simp only [h, if_false, Bool.false_eq_true, Bool.false_and]; exact ih
    | true =>
      obtain ⟨hd0, hd1⟩ := d_bd (hw _ (List.getElem_mem hn)) h
      rw [wrN_d h]
      simp only [h, if_true, Bool.true_and]
      by_cases e : l[j].d = r
      · rw [e, List.getElem?_set_self (by rw [openT_len]; omega), if_pos (show (r == r) = true by simp), if_neg (by omega)]
        rfl
      · rw [List.getElem?_set_ne (by omega), if_neg (show ¬ (l[j].d == r) = true by simpa using e)]
        exact ih
set_option maxHeartbeats 4000000 in
set_option maxRecDepth 100000 in
theorem rlat_any (o : Op) (t : List Int) (w : World) (ht : t.length = 13) :
    Calls Try.prog 94 #[o.val, tabV t] w fun e w' => e = .returned (.int .i64 (latE t o)) ∧ Below w.heap.size w w' := by
  have C1 := hid (fun w => rclass_any o.k w)
  obtain ⟨c, hc, hcl⟩ := clsN_nat o.k
  have e : latE t o = t[4 + c]?.getD 0 := by unfold latE; rw [hcl]; rfl
  rw [e]
  rw [hcl] at C1
  clear e hcl
  obtain ⟨k, d, a, b, n⟩ := o
  obtain ⟨t0, t1, t2, t3, t4, t5, t6, t7, t8, t9, t10, t11, t12, rfl⟩ := tab13 ht
  show Calls _ _ #[.agg #[.int .i8 k, .int .u8 d, .int .u8 a, .int .u8 b, .int .i64 n], .agg #[.int .i64 t0, .int .i64 t1, .int .i64 t2, .int .i64 t3, .int .i64 t4, .int .i64 t5, .int .i64 t6, .int .i64 t7, .int .i64 t8, .int .i64 t9, .int .i64 t10, .int .i64 t11, .int .i64 t12]] w _
  have hq : Hid (∀ W : World, W.cell? ⟨w.heap.size + 1, 4, none⟩ = some (.int .i64 t4) → W.cell? ⟨w.heap.size + 1, 5, none⟩ = some (.int .i64 t5) → W.cell? ⟨w.heap.size + 1, 6, none⟩ = some (.int .i64 t6) → W.cell? ⟨w.heap.size + 1, 7, none⟩ = some (.int .i64 t7) → W.cell? ⟨w.heap.size + 1, 4 + c, none⟩ = some (.int .i64 ([t0, t1, t2, t3, t4, t5, t6, t7, t8, t9, t10, t11, t12][4 + c]?.getD 0))) := hid (by
    intro W h4 h5 h6 h7
    rcases (by omega : c = 0 ∨ c = 1 ∨ c = 2 ∨ c = 3) with rfl | rfl | rfl | rfl <;> assumption)
  generalize [t0, t1, t2, t3, t4, t5, t6, t7, t8, t9, t10, t11, t12][4 + c]?.getD 0 = q at *
  clear ht
  go_enter Try.func94, Try.ntmps94
  go_wp2_with fail
  with_reducible refine (C1.out _).mono ?_
  rintro e w1 ⟨rfl, hb⟩
  have B1 := hid (btrans (a := w) (by ((with_reducible (repeat (first | assumption | exact Below.refl _ _ | refine bset ?_ (Nat.le_refl _) _ | refine balloc ?_ _ | refine bdrew ?_ | refine bdrewN ?_ _))); done)) hb)
  have hz := hq.out _ (cell_keep (by simp) hb) (cell_keep (by simp) hb) (cell_keep (by simp) hb) (cell_keep (by simp) hb)
  clear hb
  go_wp2
  go_ret
  exact ⟨rfl, B1.out⟩
set_option maxHeartbeats 4000000 in
set_option maxRecDepth 100000 in
theorem rwr_any (o : Op) (r : Int) (w : World) : Calls Try.prog 123 #[o.val, .int .u8 r] w fun e w' => e = .returned (.bool (hitB o r)) ∧ Below w.heap.size w w' := by
  have C1 := hid (fun w => rwrites_any o w)
  unfold hitB
  generalize wrB o = x at *
  generalize wrN o = y at *
  obtain ⟨k, d, a, b, n⟩ := o
  cases x with
  | false =>
    go_enter Try.func123, Try.ntmps123
    go_wp2_with fail
    with_reducible refine (C1.out _).mono ?_
    rintro e w1 ⟨rfl, hb⟩
    have B1 := hid (btrans (a := w) (by ((with_reducible (repeat (first | assumption | exact Below.refl _ _ | refine bset ?_ (Nat.le_refl _) _ | refine balloc ?_ _ | refine bdrew ?_ | refine bdrewN ?_ _))); done)) hb)
    clear hb
    go_wp2
    go_ret
    exact ⟨rfl, B1.out⟩
  | true =>
    go_enter Try.func123, Try.ntmps123
    go_wp2_with fail
    with_reducible refine (C1.out _).mono ?_
    rintro e w1 ⟨rfl, hb⟩
    have B1 := hid (btrans (a := w) (by ((with_reducible (repeat (first | assumption | exact Below.refl _ _ | refine bset ?_ (Nat.le_refl _) _ | refine balloc ?_ _ | refine bdrew ?_ | refine bdrewN ?_ _))); done)) hb)
    clear hb
    go_wp2
    go_ret
    exact ⟨rfl, B1.out⟩
set_option maxHeartbeats 4000000 in
set_option maxRecDepth 100000 in
theorem reff_any (o : Op) (w : World) : Calls Try.prog 124 #[o.val] w fun e w' => e = .returned (.bool (effB o.k)) ∧ Below w.heap.size w w' := by
  obtain ⟨k, d, a, b, n⟩ := o
  show Calls _ _ _ _ fun e w' => e = .returned (.bool (effB k)) ∧ Below w.heap.size w w'
  unfold effB
  cases h1 : (k == 17) with
  | true =>
    go_enter Try.func124, Try.ntmps124
    go_wp2
    go_ret
    refine ⟨rfl, ?_⟩
    ((with_reducible (repeat (first | assumption | exact Below.refl _ _ | refine bset ?_ (Nat.le_refl _) _ | refine balloc ?_ _ | refine bdrew ?_ | refine bdrewN ?_ _))); done)
  | false =>
    cases h2 : (k == 13) with
    | true =>
      go_enter Try.func124, Try.ntmps124
      go_wp2
      go_ret
      refine ⟨rfl, ?_⟩
      ((with_reducible (repeat (first | assumption | exact Below.refl _ _ | refine bset ?_ (Nat.le_refl _) _ | refine balloc ?_ _ | refine bdrew ?_ | refine bdrewN ?_ _))); done)
    | false =>
      cases h3 : (k == 14) with
      | true =>
        go_enter Try.func124, Try.ntmps124
        go_wp2
        go_ret
        refine ⟨rfl, ?_⟩
        ((with_reducible (repeat (first | assumption | exact Below.refl _ _ | refine bset ?_ (Nat.le_refl _) _ | refine balloc ?_ _ | refine bdrew ?_ | refine bdrewN ?_ _))); done)
      | false =>
        go_enter Try.func124, Try.ntmps124
        go_wp2
        go_ret
        refine ⟨rfl, ?_⟩
        ((with_reducible (repeat (first | assumption | exact Below.refl _ _ | refine bset ?_ (Nat.le_refl _) _ | refine balloc ?_ _ | refine bdrew ?_ | refine bdrewN ?_ _))); done)
set_option maxHeartbeats 4000000 in
set_option maxRecDepth 100000 in
theorem rsays_any (o : Op) (r : Int) (w : World) : Calls Try.prog 122 #[o.val, .int .u8 r] w fun e w' => e = .returned (.bool (seesB o r)) ∧ Below w.heap.size w w' := by
  have C1 := hid (fun w => rrd_any o w)
  unfold seesB
  have hlen := rds_len o
  generalize rds o = L at *
  obtain ⟨k, d, a, b, n⟩ := o
  go_enter Try.func122, Try.ntmps122
  go_wp2_with fail
  with_reducible refine (C1.out _).mono ?_
  rintro e w1 ⟨Ai, ci, rfl, hu, hb⟩
  have B1 := hid (btrans (a := w) (by ((with_reducible (repeat (first | assumption | exact Below.refl _ _ | refine bset ?_ (Nat.le_refl _) _ | refine balloc ?_ _ | refine bdrew ?_ | refine bdrewN ?_ _))); done)) hb)
  have HU := hid hu
  clear hb hu C1
  go_wp2
  go_loopg [6] L.length (fun gk v6 wr => ∃ k : Nat, k ≤ L.length ∧ v6 = .int .i64 k ∧ Hid (gk + k = L.length) ∧ Hid (Below w1.heap.size w1 wr) ∧ Hid (∀ m x, m < k → L[m]? = some x → (x == r) = false))
  case atStart => exact ⟨0, by omega, rfl, by exact Nat.add_zero _, hid (Below.refl _ _), hid (fun m x hm => absurd hm (Nat.not_lt_zero _))⟩
  case round =>
    obtain ⟨k, hk, rfl, hgk, hbk, hall⟩ := hrel
    by_cases hk2 : k < L.length
    · obtain ⟨gi, oi, rfl, _, _, hc⟩ := HU.out (by rintro rfl; simp at hk2)
      have hx := cell_keep (hc k L[k] (List.getElem?_eq_getElem hk2)) hbk.out
      have HX := hid (List.getElem?_eq_getElem hk2)
      generalize L[k] = x at *
      clear hc
      cases hxr : (x == r) with
      | true =>
        have e : L.any (fun x => x == r) = true := List.any_eq_true.2 ⟨x, List.mem_of_getElem? HX.out, hxr⟩
        replace e := hid e
        go_wp2
        go_ret
        exact ⟨ret_bool e.out.symm, btrans B1.out hbk.out⟩
      | false =>
        go_wp2
        go_roundg (L.length - (k + 1))
        case measure => have := hgk.out; omega
        case rel =>
          refine ⟨k + 1, by omega, by go_num, by show _ + _ = _; omega, hbk, hid fun m y hm hy => ?_⟩
          by_cases hmk : m < k
          · exact hall.out m y hmk hy
          · obtain rfl : m = k := by omega
            rw [HX.out] at hy
            injection hy with hy
            subst hy
            exact hxr
    · obtain rfl : k = L.length := by omega
      have e : L.any (fun x => x == r) = false := by
        rw [List.any_eq_false]
        intro x hx
        obtain ⟨m, hm⟩ := List.getElem?_of_mem hx
        have := hall.out m x (List.getElem?_eq_some_iff.1 hm).1 hm
        simpa using this
      replace e := hid e
      go_wp2
      go_ret
      exact ⟨ret_bool e.out.symm, btrans B1.out hbk.out⟩
set_option maxHeartbeats 4000000 in
set_option maxRecDepth 100000 in
theorem rlast_any (A : Option Addr) (l : List Op) (cap : Nat) (n : Nat) (r : Int) (w : World) (HL : OpsIn w A l) (hwf : ∀ o ∈ l, o.wf) (hn : n ≤ l.length) (hm : l.length ≤ 1024) (hr0 : 0 ≤ r) (hr1 : r ≤ 31) :
    Calls Try.prog 121 #[.slice A l.length cap, .int .i64 n, .int .u8 r] w fun e w' => e = .returned (.int .i64 (lastR l n r - 1)) ∧ Below w.heap.size w w' := by
  have CW := hid (fun (w : World) (o : Op) => rwr_any o r w)
  have ST := hid (fun (n : Nat) (hn : n < l.length) => lastR_step hn hwf hr0 hr1)
  have HL' := hid HL
  clear HL hwf hr0 hr1
  go_enter Try.func121, Try.ntmps121
  go_wp2
  go_loopg [7] n (fun gk v7 wr => ∃ m : Nat, m ≤ n ∧ v7 = .int .i64 ((m : Int) - 1) ∧ Hid (gk = m) ∧ Hid (Below w.heap.size w wr) ∧ Hid (lastR l n r = lastR l m r))
  case atStart => exact ⟨n, Nat.le_refl _, rfl, hid rfl, hid (Below.refl _ _), hid rfl⟩
  case round =>
    obtain ⟨m, hmn, rfl, hgk, hbk, heq⟩ := hrel
    rcases m with _ | m
    · have e : Hid (lastR l n r - 1 = -1) := hid (by rw [heq.out, lastR_zero]; rfl)
      go_wp2
      go_ret
      exact ⟨ret_int e.out.symm, hbk.out⟩
    · have hml : m < l.length := by omega
      obtain ⟨go, off, rfl, hop⟩ := (HL'.out.keep hbk.out).get m hml
      obtain ⟨p0, p1, p2, p3, p4⟩ := hop
      have em : ((m + 1 : Nat) : Int) - 1 = (m : Int) := by omega
      rw [em]
      have STM := hid (ST.out m hml)
      cases hh : hitB l[m] r with
      | true =>
        have e : Hid (lastR l n r - 1 = (m : Int)) := hid (by rw [heq.out, STM.out, hh, if_pos rfl]; omega)
        go_wp2_with fail
        with_reducible refine (CW.out _ _).mono ?_
        rintro e w1 ⟨rfl, hb⟩
        rw [hh]
        have B1 := hid (btrans hbk.out hb)
        clear hb
        go_wp2
        go_ret
        exact ⟨ret_int e.out.symm, B1.out⟩
      | false =>
        have e : Hid (lastR l n r = lastR l m r) := hid (by rw [heq.out, STM.out, hh]; rfl)
        go_wp2_with fail
        with_reducible refine (CW.out _ _).mono ?_
        rintro e w1 ⟨rfl, hb⟩
        rw [hh]
        have B1 := hid (btrans hbk.out hb)
        clear hb
        go_wp2
        go_roundg m
        case measure => have := hgk.out; omega
        case rel => exact ⟨m, by omega, by go_num, rfl, B1, e⟩
end
end Go.Proofs.Ytcibkoodnfkogaa
