/- The finder's small functions: lat, sees, effect, from. -/
import Derived.Test.YtcibkoodnfkogaaY8
import Derived.Deep.RegionLaw
namespace Go.Proofs.Ytcibkoodnfkogaa
open Go.RowKit
set_option linter.unusedVariables false
set_option linter.unusedSimpArgs false
section
open Go.RowKit
theorem clsN_nat (k : Int) : ∃ c : Nat, c < 4 ∧ clsN k = c := by
  have h := shp_cls k
  cases hb : clsB k with
  | false => exact ⟨0, by omega, by unfold clsN; rw [hb]; rfl⟩
  | true =>
    unfold clsN
    rw [hb, if_pos rfl]
    unfold clsB at hb
    rw [Bool.and_eq_true, decide_eq_true_eq] at hb
    exact ⟨(shp k).cls.toNat, by omega, by omega⟩
set_option maxHeartbeats 4000000 in
set_option maxRecDepth 100000 in
theorem lat_any {w0 w : World} {B g cap : Nat} {A : Option Addr} {l : List Op} {t : List Int} {v : Value} {out : List Edge} (h : FindAt w0 w B g A cap l t v out) (HL : OpsIn w0 A l) (i : Nat) (hi : i < l.length) (hm : l.length ≤ 1024) :
    Calls Try.prog 118 #[.pointer (some ⟨g, 0, none⟩), .int .i64 i] w fun e w' => e = .returned (.int .i64 (latE t l[i])) ∧ Below w.heap.size w w' := by
  have C1 := hid (fun w => class_any l[i].k w)
  obtain ⟨go, off, rfl, hop⟩ := (HL.keep h.bel).get i hi
  obtain ⟨p1, _⟩ := hop
  obtain ⟨c, hc, hcl⟩ := clsN_nat l[i].k
  have z0 := h.c0
  have z1 : w.cell? ⟨g, 5 + c, none⟩ = some (.int .i64 (t[4 + c]?.getD 0)) := by
    have := h.ct (4 + c) (by omega)
    rwa [show 1 + (4 + c) = 5 + c by omega] at this
  have e : latE t l[i] = t[4 + c]?.getD 0 := by unfold latE; rw [hcl]; rfl
  rw [e]
  rw [hcl] at C1
  have hg := h.gw
  generalize t[4 + c]?.getD 0 = q at *
  generalize l[i].k = k at *
  clear h HL e hcl
  go_enter Try.func118, Try.ntmps118
  go_wp2_with fail
  with_reducible refine (C1.out _).mono ?_
  rintro e w1 ⟨rfl, hb⟩
  have B1 := hid hb
  have z2 := cell_keep z1 hb
  clear z1 hb
  go_wp2
  go_ret
  exact ⟨rfl, B1.out⟩
set_option maxHeartbeats 4000000 in
set_option maxRecDepth 100000 in
theorem effect_any (o : Op) (w : World) : Calls Try.prog 142 #[o.val] w fun e w' => e = .returned (.bool (effB o.k)) ∧ Below w.heap.size w w' := by
  obtain ⟨k, d, a, b, n⟩ := o
  show Calls _ _ _ _ fun e w' => e = .returned (.bool (effB k)) ∧ Below w.heap.size w w'
  unfold effB
  cases h1 : (k == 17) with
  | true =>
    go_enter Try.func142, Try.ntmps142
    go_wp2
    go_ret
    refine ⟨rfl, ?_⟩
    ((with_reducible (repeat (first | assumption | exact Below.refl _ _ | refine bset ?_ (Nat.le_refl _) _ | refine balloc ?_ _ | refine bdrew ?_ | refine bdrewN ?_ _))); done)
  | false =>
    cases h2 : (k == 13) with
    | true =>
      go_enter Try.func142, Try.ntmps142
      go_wp2
      go_ret
      refine ⟨rfl, ?_⟩
      ((with_reducible (repeat (first | assumption | exact Below.refl _ _ | refine bset ?_ (Nat.le_refl _) _ | refine balloc ?_ _ | refine bdrew ?_ | refine bdrewN ?_ _))); done)
    | false =>
      cases h3 : (k == 14) with
      | true =>
        go_enter Try.func142, Try.ntmps142
        go_wp2
        go_ret
        refine ⟨rfl, ?_⟩
        ((with_reducible (repeat (first | assumption | exact Below.refl _ _ | refine bset ?_ (Nat.le_refl _) _ | refine balloc ?_ _ | refine bdrew ?_ | refine bdrewN ?_ _))); done)
      | false =>
        go_enter Try.func142, Try.ntmps142
        go_wp2
        go_ret
        refine ⟨rfl, ?_⟩
        ((with_reducible (repeat (first | assumption | exact Below.refl _ _ | refine bset ?_ (Nat.le_refl _) _ | refine balloc ?_ _ | refine bdrew ?_ | refine bdrewN ?_ _))); done)
set_option maxHeartbeats 4000000 in
set_option maxRecDepth 100000 in
theorem sees_any {w0 w : World} {B g cap : Nat} {A : Option Addr} {l : List Op} {t : List Int} {v : Value} {out : List Edge} (h : FindAt w0 w B g A cap l t v out) (i : Nat) (hi : i < l.length) (hm : l.length ≤ 1024) (hw : l[i].wf) (r : Int) :
    Calls Try.prog 141 #[.pointer (some ⟨g, 0, none⟩), .int .i64 i, .int .i64 r] w fun e w' => e = .returned (.bool (seesB l[i] r)) ∧ Below w.heap.size w w' := by
  obtain ⟨Ar, cr, Ad, cd, h14, _, hr⟩ := h.rd
  obtain ⟨⟨gr, Ai, ci, rfl, _, _, h3, h4⟩, _⟩ := hr i l[i] (List.getElem?_eq_getElem hi)
  have hlen := rds_len l[i]
  have HB := hid (rds_bd hw)
  have hz := h.gw
  unfold seesB
  generalize rds l[i] = L at *
  have H4 := hid h4
  clear h hr hw h4
  go_enter Try.func141, Try.ntmps141
  go_wp2
  go_loopg [17] L.length (fun gk v17 wr => ∃ k : Nat, k ≤ L.length ∧ v17 = .int .i64 k ∧ Hid (gk + k = L.length) ∧ Hid (Below w.heap.size w wr) ∧ Hid (∀ m x, m < k → L[m]? = some x → (x == r) = false))
  case atStart => exact ⟨0, by omega, rfl, by exact Nat.add_zero _, hid (Below.refl _ _), hid (fun m x hm => absurd hm (Nat.not_lt_zero _))⟩
  case round =>
    obtain ⟨k, hk, rfl, hgk, hbk, hall⟩ := hrel
    by_cases hk2 : k < L.length
    · obtain ⟨gi, oi, rfl, _, _, hc⟩ := H4.out (by rintro rfl; simp at hk2)
      have hx := cell_keep (hc k L[k] (List.getElem?_eq_getElem hk2)) hbk.out
      have HX := hid (List.getElem?_eq_getElem hk2)
      obtain ⟨hx0, hx1⟩ := HB.out L[k] (List.getElem_mem hk2)
      generalize L[k] = x at *
      clear hc
      cases hxr : (x == r) with
      | true =>
        have e : L.any (fun x => x == r) = true := List.any_eq_true.2 ⟨x, List.mem_of_getElem? HX.out, hxr⟩
        replace e := hid e
        go_wp2
        go_ret
        exact ⟨ret_bool e.out.symm, hbk.out⟩
      | false =>
        go_wp2
        go_roundg (L.length - (k + 1))
        case measure => have := hgk.out; omega
        case rel =>
          refine ⟨k + 1, by omega, by go_num, by show _ + _ = _; omega, hbk, hid fun m y hm hy => ?_⟩
          by_cases hmk : m < k
          · exact hall.out m y hmk hy
          · obtain rfl : m = k := by omega
            rw [HX.out] at hy
            injection hy with hy
            subst hy
            exact hxr
    · obtain rfl : k = L.length := by omega
      have e : L.any (fun x => x == r) = false := by
        rw [List.any_eq_false]
        intro x hx
        obtain ⟨m, hm⟩ := List.getElem?_of_mem hx
        have := hall.out m x (List.getElem?_eq_some_iff.1 hm).1 hm
        simpa using this
      replace e := hid e
      go_wp2
      go_ret
      exact ⟨ret_bool e.out.symm, hbk.out⟩
set_option maxHeartbeats 4000000 in
set_option maxRecDepth 100000 in
theorem from_any {w0 w : World} {B g cap : Nat} {A : Option Addr} {l : List Op} {t : List Int} {v : Value} {out : List Edge} (h : FindAt w0 w B g A cap l t v out) (i j : Nat) (hi : i < l.length) (hj : j < l.length) (hm : l.length ≤ 1024) (hw : l[j].wf)
    (gt : Nat) (T : List Int) (hT : IntsAt w gt 189 T) (hTl : T.length = 32) :
    Calls Try.prog 116 #[.pointer (some ⟨g, 0, none⟩), .int .i64 i, .int .i64 j, .pointer (some ⟨gt, 0, none⟩)] w fun e w' => e = .returned (.bool (fromB T l[j] i)) ∧ Below w.heap.size w w' := by
  obtain ⟨Ar, cr, Ad, cd, h14, _, hr⟩ := h.rd
  obtain ⟨⟨gr, Ai, ci, rfl, _, _, h3, h4⟩, _⟩ := hr j l[j] (List.getElem?_eq_getElem hj)
  have hlen := rds_len l[j]
  have HB := hid (rds_bd hw)
  have hz := h.gw
  have hgt := hT.lt
  have HT := hid hT
  have HTl := hid hTl
  unfold fromB
  generalize rds l[j] = L at *
  have H4 := hid h4
  clear h hr hw h4 hT hTl
  go_enter Try.func116, Try.ntmps116
  go_wp2
  go_loopg [19] L.length (fun gk v19 wr => ∃ k : Nat, k ≤ L.length ∧ v19 = .int .i64 k ∧ Hid (gk + k = L.length) ∧ Hid (Below w.heap.size w wr) ∧ Hid (∀ m x, m < k → L[m]? = some x → (T[x.toNat]?.getD 0 == (i : Int) + 1) = false))
  case atStart => exact ⟨0, by omega, rfl, by exact Nat.add_zero _, hid (Below.refl _ _), hid (fun m x hm => absurd hm (Nat.not_lt_zero _))⟩
  case round =>
    obtain ⟨k, hk, rfl, hgk, hbk, hall⟩ := hrel
    by_cases hk2 : k < L.length
    · obtain ⟨gi, oi, rfl, _, _, hc⟩ := H4.out (by rintro rfl; simp at hk2)
      have hx := cell_keep (hc k L[k] (List.getElem?_eq_getElem hk2)) hbk.out
      have HX := hid (List.getElem?_eq_getElem hk2)
      obtain ⟨hx0, hx1⟩ := HB.out L[k] (List.getElem_mem hk2)
      generalize L[k] = x at *
      obtain ⟨y, rfl⟩ := Int.eq_ofNat_of_zero_le hx0
      have hy : y < 32 := by omega
      have hty := cell_keep (HT.out.cell2 y (T[y]?.getD 0) (by rw [List.getElem?_eq_getElem (by rw [HTl.out]; exact hy)]; rfl)) hbk.out
      have ETY : Hid (T[y]?.getD 0 = T[(y : Int).toNat]?.getD 0) := hid rfl
      generalize T[y]?.getD 0 = ty at *
      clear hc
      cases hxr : (ty == (i : Int) + 1) with
      | true =>
        have e : L.any (fun r => T[r.toNat]?.getD 0 == (i : Int) + 1) = true := List.any_eq_true.2 ⟨(y : Int), List.mem_of_getElem? HX.out, by rw [← ETY.out]; exact hxr⟩
        replace e := hid e
        go_wp2
        go_ret
        exact ⟨ret_bool e.out.symm, hbk.out⟩
      | false =>
        go_wp2
        go_roundg (L.length - (k + 1))
        case measure => have := hgk.out; omega
        case rel =>
          refine ⟨k + 1, by omega, by go_num, by show _ + _ = _; omega, hbk, hid fun m y2 hm hy2 => ?_⟩
          by_cases hmk : m < k
          · exact hall.out m y2 hmk hy2
          · obtain rfl : m = k := by omega
            rw [HX.out] at hy2
            injection hy2 with hy2
            subst hy2
            rw [← ETY.out]
            exact hxr
    · obtain rfl : k = L.length := by omega
      have e : L.any (fun r => T[r.toNat]?.getD 0 == (i : Int) + 1) = false := by
        rw [List.any_eq_false]
        intro x hx
        obtain ⟨m, hm⟩ := List.getElem?_of_mem hx
        have := hall.out m x (List.getElem?_eq_some_iff.1 hm).1 hm
        simpa using this
      replace e := hid e
      go_wp2
      go_ret
      exact ⟨ret_bool e.out.symm, hbk.out⟩
end
/- The finder's put. -/
section
open Go.RowKit
/-- More was found, and nothing else was turned. -/
def EmitP (w0 : World) (B g cap : Nat) (A : Option Addr) (l : List Op) (t : List Int) (v : Value) (out es : List Edge) (w : World) (e : Ending) (w' : World) : Prop :=
  ∃ v', e = .returned (.tuple #[]) ∧ FindAt w0 w' B g A cap l t v' (out ++ es) ∧ Spared g v v' w w'
theorem edge_one (x : Edge) : ∀ u ∈ x.cells, u.oneCell' = true := by
  intro u hu
  simp only [Edge.cells, List.mem_cons, List.not_mem_nil, or_false] at hu
  rcases hu with rfl | rfl | rfl | rfl | rfl <;> rfl
set_option maxHeartbeats 4000000 in
set_option maxRecDepth 100000 in
theorem put_any {w0 w : World} {B g cap : Nat} {A : Option Addr} {l : List Op} {t : List Int} {v : Value} {out : List Edge} (h : FindAt w0 w B g A cap l t v out) (b : Nat) (x : Edge) (hx : ∀ k c, x.cells[k]? = some c → w.cell? ⟨b, k, none⟩ = some c) (i j ds : Int) (ho : out.length ≤ 100000000) :
    Calls Try.prog 117 #[.pointer (some ⟨g, 0, none⟩), .int .i64 i, .int .i64 j, .int .i64 ds, .slice (some ⟨b, 0, none⟩) 1 1] w (EmitP w0 B g cap A l t v out [Edge.mk i j x.l ds x.y] w) := by
  obtain ⟨ii, iz, hii, hiz, h5i, h40i, hz5i⟩ := edge_info
  have EI := hid hii
  have EZ := hid hiz
  have E5 := hid h5i
  have E40 := hid h40i
  have EZ5 := hid hz5i
  have EU := hid (Try.underlying93)
  have q0 := hx 0 _ rfl
  have q1 := hx 1 _ rfl
  have q2 := hx 2 _ rfl
  have q3 := hx 3 _ rfl
  have q4 := hx 4 _ rfl
  have c16 := h.cv
  have f16 := h.fz
  have hgw := h.gw
  have hbw : b < w.heap.size := World.block_lt_of_cell? w _ q0
  have H := hid h
  have HNE : Hid (some g ≠ v.ownBlock) := hid fun e => by have := (h.own.lt g e.symm).1; have := h.gB; omega
  have hBw := h.Bw
  clear h hx hii hiz h5i h40i hz5i
  go_enter Try.func117, Try.ntmps117
  go_wp2
  go_loopg [14] 1 (fun gk v14 wr => ∃ k : Nat, k ≤ 1 ∧ v14 = .int .i64 k ∧ Hid (gk + k = 1) ∧ Hid (k = 0 → wr = w) ∧ Hid (k = 1 → ∃ v', FindAt w0 wr B g A cap l t v' (out ++ [Edge.mk i j x.l ds x.y]) ∧ Spared g v v' w wr))
  case atStart => exact ⟨0, by omega, rfl, rfl, hid (fun _ => rfl), hid (fun h => by cases h)⟩
  case round =>
    obtain ⟨k, hk, rfl, hgk, hk0, hk1⟩ := hrel
    by_cases hk2 : k = 0
    · subst hk2
      obtain rfl := hk0.out rfl
      clear hk0 hk1
      go_wp2
      go_region_law ((refine step_append_lies _ (by rfl) _ _ _ (by rfl) B 99 ii iz 5 40 EU.out EI.out EZ.out E5.out E40.out EZ5.out (by omega) v out.length (edgesV out) (by rfl) (own_below H.out.own (by ((with_reducible (repeat (first | assumption | exact Below.refl _ _ | refine bset ?_ (Nat.le_refl _) _ | refine balloc ?_ _ | refine bdrew ?_ | refine bdrewN ?_ _))); done))) ⟨wr.heap.size + 1, 0, none⟩ 1 1 (Edge.cells ⟨i, j, x.l, ds, x.y⟩) (by rfl) (by rfl) (World.news_of_block (heap_new_at _ _ _ (by simp))) (edge_one _) (by omega) (by unfold maxLen; omega) (by omega) (by simp; omega) _ rfl ?_); intro g3 d3 w9 hown9 hgrow9 hat9 hlt9; have r9 := hgrow9.cell (cell_keep c16 (by ((with_reducible (repeat (first | assumption | exact Below.refl _ _ | refine bset ?_ (Nat.le_refl _) _ | refine balloc ?_ _ | refine bdrew ?_ | refine bdrewN ?_ _))); done))) HNE.out; have f9 := (hgrow9.frozen_far ⟨g, 16, none⟩ (by simp; omega) HNE.out).trans (frozen_keep f16 hgw (by ((with_reducible (repeat (first | assumption | exact Below.refl _ _ | refine bset ?_ (Nat.le_refl _) _ | refine balloc ?_ _ | refine bdrew ?_ | refine bdrewN ?_ _))); done))))
      all_goals
        have OW : w9.ownsRow B 99 5 (.slice (some ⟨g3, 0, none⟩) (out.length + 1) d3) (out ++ [Edge.mk i j x.l ds x.y]).length (edgesV (out ++ [Edge.mk i j x.l ds x.y])) := by
          rw [edgesV_app, List.length_append]
          exact hown9
        have F9 : Hid (FindAt w0 (w9.setCell ⟨g, 16, none⟩ (.slice (some ⟨g3, 0, none⟩) (out.length + 1) d3)) B g A cap l t (.slice (some ⟨g3, 0, none⟩) (out.length + 1) d3) (out ++ [Edge.mk i j x.l ds x.y])) := hid (by
          refine H.out.grown ?_ hgrow9 OW
          ((with_reducible (repeat (first | assumption | exact Below.refl _ _ | refine bset ?_ (Nat.le_refl _) _ | refine balloc ?_ _ | refine bdrew ?_ | refine bdrewN ?_ _))); done))
        have S9 : Hid (Spared g v (.slice (some ⟨g3, 0, none⟩) (out.length + 1) d3) wr (w9.setCell ⟨g, 16, none⟩ (.slice (some ⟨g3, 0, none⟩) (out.length + 1) d3))) := hid (by
          refine H.out.spared ?_ hgrow9 ?_
          · ((with_reducible (repeat (first | assumption | exact Below.refl _ _ | refine bset ?_ (Nat.le_refl _) _ | refine balloc ?_ _ | refine bdrew ?_ | refine bdrewN ?_ _))); done)
          · rcases hat9 with e | e
            · exact .inl e.symm
            · refine .inr fun k hk => ?_
              injection hk with hk
              subst hk
              exact Nat.le_of_eq e.symm)
        clear hown9 hgrow9 hat9 hlt9 OW
        go_wp2
        go_roundg 0
        case measure => have := hgk.out; omega
        case rel =>
          have K1 : Hid (1 = 1 → ∃ v', FindAt w0 (w9.setCell ⟨g, 16, none⟩ (.slice (some ⟨g3, 0, none⟩) (out.length + 1) d3)) B g A cap l t v' (out ++ [Edge.mk i j x.l ds x.y]) ∧ Spared g v v' wr (w9.setCell ⟨g, 16, none⟩ (.slice (some ⟨g3, 0, none⟩) (out.length + 1) d3))) := hid (fun _ => ⟨_, F9.out, S9.out⟩)
          exact ⟨1, by omega, by go_num, rfl, hid (fun h => by cases h), K1⟩
    · obtain rfl : k = 1 := by omega
      obtain ⟨v', h1, h2⟩ := hk1.out rfl
      have H1 := hid h1
      have H2 := hid h2
      clear h1 h2 hk1 hk0
      go_wp2
      refine bodyPost_ret (v := .tuple #[]) (by simp [results, Try.results117, go_sem]) rfl ⟨v', rfl, H1.out, H2.out⟩
end
end Go.Proofs.Ytcibkoodnfkogaa
