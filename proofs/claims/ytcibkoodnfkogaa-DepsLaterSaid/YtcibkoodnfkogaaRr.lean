/- The document's Reads. -/
import Derived.Test.YtcibkoodnfkogaaRd
namespace Go.Proofs.Ytcibkoodnfkogaa
open Go.RowKit
set_option linter.unusedVariables false
set_option linter.unusedSimpArgs false
theorem u8_info : ∃ i z, Try.prog.info? 5 = some i ∧ i.zero = some z ∧ i.size = 1 ∧ i.bytes = 1 ∧ z.cells.size = 1 := by
  have h : (Try.prog.info? 5).map (fun i => (i.zero.map (·.cells.size), i.size, i.bytes)) = some (some 1, 1, 1) := by kernel_rfl
  cases hi : Try.prog.info? 5 with
  | none => rw [hi] at h; cases h
  | some i =>
    rw [hi] at h
    cases hz : i.zero with
    | none => simp [hz] at h
    | some z =>
      simp [hz] at h
      exact ⟨i, z, rfl, hz, h.2.1, h.2.2, h.1⟩
theorem own_u8 {w : World} {base : Nat} {e : TypeId} {v : Value} {l : List Int} (h : w.ownsRow base e 1 v l.length (l.map (Value.int .u8))) : ∃ (A : Option Addr) (c : Nat), v = .slice A l.length c ∧ U8At w A l base := by
  rcases h.2 with ⟨he, h0⟩ | ⟨k, cap, cur, he, hbg, hk, hrest⟩
  · have : l = [] := List.eq_nil_of_length_eq_zero h0
    subst this
    exact ⟨none, 0, he, fun h => absurd rfl h⟩
  · subst he
    refine ⟨_, cap, rfl, fun _ => ⟨k, 0, rfl, hbg, (Array.getElem?_eq_some_iff.1 hk).1, fun i x hi => ?_⟩⟩
    have hil := (List.getElem?_eq_some_iff.1 hi).1
    rw [Nat.zero_add, h.cellAt i (by omega)]
    simp [hi]
theorem rrd_no (o : Op) (w : World) (hc : chk o = false) : Calls Try.prog 120 #[o.val] w (RdP (rds o) w) := by
  have C1 := hid (fun w => rcheck_any o w)
  have C2 := hid (fun w => rof_any o.k w)
  have HC : Hid (chkE o = 30) := hid (by unfold chkE; rw [hc]; rfl)
  rw [rds_no hc]
  obtain ⟨k, d, a, b, n⟩ := o
  generalize hs : shp k = s at C2
  clear hs hc
  go_enter Try.func120, Try.ntmps120
  go_wp2_with fail
  with_reducible refine (C2.out _).mono ?_
  rintro e w1 ⟨rfl, hb⟩
  have B1 := hid (btrans (a := w) (by ((with_reducible (repeat (first | assumption | exact Below.refl _ _ | refine bset ?_ (Nat.le_refl _) _ | refine balloc ?_ _ | refine bdrew ?_ | refine bdrewN ?_ _))); done)) hb)
  obtain ⟨hc1, hf1⟩ := bcell hb
  have hz := bsize hb
  clear hb
  go_wp2_with fail
  with_reducible refine (C1.out _).mono ?_
  rintro e w2 ⟨rfl, hb⟩
  rw [HC.out]
  have B2 := hid (btrans (balloc B1.out _) hb)
  clear hb
  go_wp2
  go_ret
  exact ⟨none, 0, rfl, fun h => absurd rfl h, B2.out⟩
set_option maxHeartbeats 4000000 in
set_option maxRecDepth 100000 in
theorem rrd_yes (o : Op) (w : World) (hc : chk o = true) : Calls Try.prog 120 #[o.val] w (RdP (rds o) w) := by
  have C1 := hid (fun w => rcheck_any o w)
  have C2 := hid (fun w => rof_any o.k w)
  have HC : Hid (chkE o = 0) := hid (by unfold chkE; rw [hc]; rfl)
  rw [rds_yes hc]
  clear hc
  obtain ⟨k, d, a, b, n⟩ := o
  show Calls _ _ _ _ (RdP (if (shp k).a && (shp k).b && a != b then [a, b] else if (shp k).a then [a] else if (shp k).b then [b] else []) w)
  generalize hs : shp k = s at C2 ⊢
  clear hs
  obtain ⟨nm, cl, sd, sa, sb, sn, si, is⟩ := s
  show Calls _ _ _ _ (RdP (if sa && sb && a != b then [a, b] else if sa then [a] else if sb then [b] else []) w)
  obtain ⟨L, hL⟩ : ∃ L, (if sa && sb && a != b then [a, b] else if sa then [a] else if sb then [b] else []) = L := ⟨_, rfl⟩
  rw [hL]
  have HL := hid hL
  clear hL
  obtain ⟨ui, uz, hui, huz, u1, u8, uz1⟩ := u8_info
  have UI := hid hui
  have UZ := hid huz
  have U1 := hid u1
  have U8 := hid u8
  have UZ1 := hid uz1
  have UU := hid (Try.underlying187)
  clear hui huz u1 u8 uz1
  go_enter Try.func120, Try.ntmps120
  go_wp2_with fail
  with_reducible refine (C2.out _).mono ?_
  rintro e w1 ⟨rfl, hb⟩
  have B1 := hid (btrans (a := w) (by ((with_reducible (repeat (first | assumption | exact Below.refl _ _ | refine bset ?_ (Nat.le_refl _) _ | refine balloc ?_ _ | refine bdrew ?_ | refine bdrewN ?_ _))); done)) hb)
  have hc1 := (bcell hb).1
  have z2 : w1.cell? ⟨w.heap.size, 2, none⟩ = some (.int .u8 a) := by go_simp
  have z3 : w1.cell? ⟨w.heap.size, 3, none⟩ = some (.int .u8 b) := by go_simp
  have hz := bsize hb
  go_wp2_with fail
  with_reducible refine (C1.out _).mono ?_
  rintro e w2 ⟨rfl, hb2⟩
  rw [HC.out]
  have B2 := hid (btrans (balloc B1.out _) hb2)
  have hc2 := (bcell hb2).1
  have y3 : w2.cell? ⟨w1.heap.size, 3, none⟩ = some (.bool sa) := by go_simp
  have y4 : w2.cell? ⟨w1.heap.size, 4, none⟩ = some (.bool sb) := by go_simp
  replace z2 := cell_keep (cell_keep z2 (balloc (Below.refl _ w1) _)) hb2
  replace z3 := cell_keep (cell_keep z3 (balloc (Below.refl _ w1) _)) hb2
  have hz1 := bsize hb2
  have hz2 : w.heap.size < w2.heap.size := by omega
  clear hb hb2 hc1 hc2 B1
  cases sa with
  | true =>
    go_wp2_with (at_builtin; refine wpList_append_lies _ (by rfl) _ _ _ (by rfl) w2.heap.size 5 ui uz 1 1 UU.out UI.out UZ.out U1.out U8.out UZ1.out (by omega) (.slice none 0 0) 0 [] (by rfl) ?aown ⟨w2.heap.size, 0, none⟩ 1 1 [.int .u8 a] (by rfl) (by rfl) ?anews ?aone (by omega) ?a63 ?abytes ?abase _ rfl ?_)
    case aown => exact World.ownsRow_nil _ _ _ _
    case anews => exact World.news_of_block (heap_new_at _ _ _ (by simp))
    case aone => intro u hu; simp only [List.mem_cons, List.not_mem_nil, or_false] at hu; subst hu; rfl
    case a63 => unfold maxLen; omega
    case abytes => omega
    case abase => simp
    intro g3 d3 w7 hown7 hgrow7 hat hlt7
    have B7 := hid ((balloc B2.out (.cells #[.int .u8 a] 5)).grown hgrow7 (by simp; omega) (fun k hk => by cases hk))
    have q2 := hgrow7.cell (cell_keep z2 (balloc (Below.refl _ w2) (.cells #[.int .u8 a] 5))) (fun e => by cases e)
    have q3 := hgrow7.cell (cell_keep z3 (balloc (Below.refl _ w2) (.cells #[.int .u8 a] 5))) (fun e => by cases e)
    have r3 := hgrow7.cell (cell_keep y3 (balloc (Below.refl _ w2) (.cells #[.int .u8 a] 5))) (fun e => by cases e)
    have r4 := hgrow7.cell (cell_keep y4 (balloc (Below.refl _ w2) (.cells #[.int .u8 a] 5))) (fun e => by cases e)
    have OW : Hid (w7.ownsRow w2.heap.size 5 1 (.slice (some ⟨g3, 0, none⟩) 1 d3) 1 [.int .u8 a]) := hid (by simpa using hown7)
    have hz7 := hgrow7.size
    simp at hz7
    have hz8 : w.heap.size < w7.heap.size := by omega
    clear hown7 hgrow7 hat hlt7 z2 z3 y3 y4
    cases sb with
    | true =>
      cases hab : (b != a) with
      | true =>
        have hab2 : (a != b) = true := by rw [bne_iff_ne] at hab ⊢; exact fun h => hab h.symm
        have hl : L = [a, b] := by rw [← HL.out, hab2]; rfl
        subst hl
        go_wp2_with (at_builtin; refine wpList_append_lies _ (by rfl) _ _ _ (by rfl) w2.heap.size 5 ui uz 1 1 UU.out UI.out UZ.out U1.out U8.out UZ1.out (by omega) (.slice (some ⟨g3, 0, none⟩) 1 d3) 1 [.int .u8 a] (by rfl) ?bown ⟨w7.heap.size, 0, none⟩ 1 1 [.int .u8 b] (by rfl) (by rfl) ?bnews ?bone (by omega) ?b63 ?bbytes ?bbase _ rfl ?_)
        case bown => exact own_below OW.out (balloc (Below.refl _ _) _)
        case bone => first | rfl | (intro u hu; simp only [List.mem_cons, List.not_mem_nil, or_false] at hu; subst hu; rfl)
        case b63 => first | (unfold maxLen; omega) | omega
        case bbase => first | omega | (simp; omega)
        intro g5 d5 w8 hown8 hgrow8 hat hlt8
        have B8 := hid ((balloc B7.out (.cells #[.int .u8 b] 5)).grown hgrow8 (by simp; omega) (fun k hk => by have := (OW.out.lt k hk).1; omega))
        have OW8 : Hid (w8.ownsRow w2.heap.size 5 1 (.slice (some ⟨g5, 0, none⟩) [a, b].length d5) [a, b].length ([a, b].map (Value.int .u8))) := hid (by simpa using hown8)
        clear hown8 hgrow8 hat hlt8 q2 q3 r3 r4
        obtain ⟨A, c, he, hu⟩ := own_u8 OW8.out
        have HU := hid hu
        have HE := hid he
        clear hu he
        go_wp2
        go_ret
        refine ⟨A, c, ?_, HU.out.mono (Nat.le_of_lt hz2), B8.out⟩
        exact congrArg Ending.returned HE.out
      | false =>
        have hab2 : (a != b) = false := by
          unfold bne at hab ⊢
          rw [Bool.not_eq_false'] at hab ⊢
          rw [beq_iff_eq] at hab ⊢
          exact hab.symm
        have hl : L = [a] := by rw [← HL.out, hab2]; rfl
        subst hl
        obtain ⟨A, c, he, hu⟩ := own_u8 (l := [a]) OW.out
        have HU := hid hu
        have HE := hid he
        clear hu he
        go_wp2
        go_ret
        refine ⟨A, c, ?_, HU.out.mono (Nat.le_of_lt hz2), B7.out⟩
        exact congrArg Ending.returned HE.out
    | false =>
      have hl : L = [a] := by rw [← HL.out]; rfl
      subst hl
      obtain ⟨A, c, he, hu⟩ := own_u8 (l := [a]) OW.out
      have HU := hid hu
      have HE := hid he
      clear hu he
      go_wp2
      go_ret
      refine ⟨A, c, ?_, HU.out.mono (Nat.le_of_lt hz2), B7.out⟩
      exact congrArg Ending.returned HE.out
  | false =>
    cases sb with
    | true =>
      have hl : L = [b] := by rw [← HL.out]; rfl
      subst hl
      go_wp2_with (at_builtin; refine wpList_append_lies _ (by rfl) _ _ _ (by rfl) w2.heap.size 5 ui uz 1 1 UU.out UI.out UZ.out U1.out U8.out UZ1.out (by omega) (.slice none 0 0) 0 [] (by rfl) ?cown ⟨w2.heap.size, 0, none⟩ 1 1 [.int .u8 b] (by rfl) (by rfl) ?cnews ?cone (by omega) ?c63 ?cbytes ?cbase _ rfl ?_)
      case cown => exact World.ownsRow_nil _ _ _ _
      case cnews => exact World.news_of_block (heap_new_at _ _ _ (by simp))
      case cone => intro u hu; simp only [List.mem_cons, List.not_mem_nil, or_false] at hu; subst hu; rfl
      case c63 => unfold maxLen; omega
      case cbytes => omega
      case cbase => simp
      intro g3 d3 w7 hown7 hgrow7 hat hlt7
      have B7 := hid ((balloc B2.out (.cells #[.int .u8 b] 5)).grown hgrow7 (by simp; omega) (fun k hk => by cases hk))
      have OW : Hid (w7.ownsRow w2.heap.size 5 1 (.slice (some ⟨g3, 0, none⟩) [b].length d3) [b].length ([b].map (Value.int .u8))) := hid (by simpa using hown7)
      clear hown7 hgrow7 hat hlt7 z2 z3 y3 y4
      obtain ⟨A, c, he, hu⟩ := own_u8 OW.out
      have HU := hid hu
      have HE := hid he
      clear hu he
      go_wp2
      go_ret
      refine ⟨A, c, ?_, HU.out.mono (Nat.le_of_lt hz2), B7.out⟩
      exact congrArg Ending.returned HE.out
    | false =>
      have hl : L = [] := by rw [← HL.out]; rfl
      subst hl
      go_wp2
      go_ret
      exact ⟨none, 0, rfl, fun h => absurd rfl h, B2.out⟩
theorem rrd_any (o : Op) (w : World) : Calls Try.prog 120 #[o.val] w (RdP (rds o) w) := by
  cases hc : chk o with
  | false => exact rrd_no o w hc
  | true => exact rrd_yes o w hc
end Go.Proofs.Ytcibkoodnfkogaa
