/- OpsTell: the walk. -/
import Derived.Test.YtpiagggnjppkhaaDoorRr
import Derived.Test.YtpiagggnjppkhaaDoorWk
import Derived.Deep.RegionHeld3
namespace Go.Proofs.YtpiagggnjppkhaaDoor
open Go.RowKit
set_option linter.unusedVariables false
set_option linter.unusedSimpArgs false
set_option maxHeartbeats 4000000 in
set_option maxRecDepth 100000 in
theorem regs_any (A A2 : Option Addr) (l : List Int) (cap cap2 : Nat) (w : World) (hl : U8In w A l) (hl2 : U8In w A2 l) (hm : l.length ≤ 1000000000000000000) :
    Calls Tryd.prog 20 #[.slice A l.length cap, .slice A2 l.length cap2] w fun e w' => e = .returned (.bool true) ∧ Below w.heap.size w w' := by
  have HL := hid hl
  have HL2 := hid hl2
  clear hl hl2
  go_enter Tryd.func20, Tryd.ntmps20
  go_wp2
  go_loopg [13] l.length (fun g v wr => ∃ i : Nat, i ≤ l.length ∧ v = .int .i64 i ∧ Hid (g + i = l.length) ∧ ∃ n, wr = w.drewN n)
  case atStart => exact ⟨0, by omega, rfl, by exact Nat.add_zero _, 0, rfl⟩
  case round =>
    obtain ⟨i, hi, rfl, hg, n, rfl⟩ := hrel
    by_cases hlt : i < l.length
    · obtain ⟨g, off, rfl, hx⟩ := HL.out (by intro h; rw [h] at hlt; simp at hlt)
      obtain ⟨g2, off2, rfl, hx2⟩ := HL2.out (by intro h; rw [h] at hlt; simp at hlt)
      have c0 := hx i _ (List.getElem?_eq_getElem hlt)
      have d0 := hx2 i _ (List.getElem?_eq_getElem hlt)
      have hij : (i : Int) < (l.length : Int) := by omega
      have hi0 : (0 : Int) ≤ (i : Int) := by omega
      clear hx hx2
      go_wp2
      go_quiet (fail)
      go_wp2
      go_roundg (l.length - (i + 1))
      case measure => have := hg.out; omega
      case rel => exact ⟨i + 1, by omega, by go_num, by show _ + _ = _; omega, _, rfl⟩
    · obtain rfl : i = l.length := by omega
      go_wp2
      go_ret
      exact ⟨rfl, bdrewN (Below.refl _ _) n⟩
theorem text_all (o : Op) (w : World) (hwf : o.wf) (htab : Lib.TabIs Tryd.prog w "internal/strconv.uint64pow10" .u64 Lib.pow10Tab) :
    Calls Tryd.prog 13 #[o.val] w fun e w' => e = .returned (.tuple #[.string (txtS o), .int .i64 (chkE o)]) ∧ Below w.heap.size w w' := by
  cases hc : chk o with
  | false => exact text_no o w hwf hc
  | true => exact text_yes o w hwf hc htab
theorem rtext_all (o : Op) (w : World) (hwf : o.wf) :
    Calls Tryd.prog 15 #[o.val] w fun e w' => e = .returned (.tuple #[.string (txtS o), .int .i64 (chkE o)]) ∧ Below w.heap.size w w' := by
  cases hc : chk o with
  | false => exact rtext_no o w hc
  | true => exact rtext_yes o w hwf hc
theorem rds_len (o : Op) : (rds o).length ≤ 2 := by
  unfold rds
  repeat' split
  all_goals simp
set_option maxHeartbeats 4000000 in
set_option maxRecDepth 100000 in
theorem OpsTell_walk (o : Op) (w : World) (htab : Lib.TabIs Tryd.prog w "internal/strconv.uint64pow10" .u64 Lib.pow10Tab) (hwf : o.wf) :
    Calls Tryd.prog 6 #[.agg o.cells.toArray] w fun e w' => e = .returned (.bool true) ∧ Below w.heap.size w w' := by
  have C1 := hid (fun w h => text_all o w hwf h)
  have C2 := hid (fun w => rtext_all o w hwf)
  have C3 := hid (fun w => writes_any o w hwf)
  have C4 := hid (fun w => rwrites_any o w)
  have C5 := hid (fun w => class_any o.k w)
  have C6 := hid (fun w => rclass_any o.k w)
  have C7 := hid (fun w => check_any o w hwf)
  have C8 := hid (fun w => rcheck_any o w)
  have C9 := hid (fun w => rd_any o w hwf)
  have C10 := hid (fun w => rrd_any o w)
  have CW := hid (fun w h => wakes03_any w h)
  have hl2 := rds_len o
  have C11 := hid (fun (A A2 : Option Addr) (c c2 : Nat) (w : World) (h : U8In w A (rds o)) (h2 : U8In w A2 (rds o)) => regs_any A A2 (rds o) c c2 w h h2 (by omega))
  have HT := hid htab
  clear htab hwf
  generalize rds o = L at *
  generalize txtS o = T at *
  generalize chkE o = E at *
  generalize wrN o = N at *
  generalize wrB o = B at *
  obtain ⟨k, d, a, b, n⟩ := o
  show Calls _ _ #[.agg #[.int .i8 k, .int .u8 d, .int .u8 a, .int .u8 b, .int .i64 n]] _ _
  generalize hcn : clsN (Op.mk k d a b n).k = CN at *
  generalize hcb : clsB (Op.mk k d a b n).k = CB at *
  clear hcn hcb
  go_enter Tryd.func6, Tryd.ntmps6
  go_wp2_with fail
  with_reducible refine (C1.out _ (Tab.keep HT.out ?_)).mono ?_
  · ((with_reducible (repeat (first | assumption | exact Below.refl _ _ | refine bset ?_ (Nat.le_refl _) _ | refine balloc ?_ _ | refine bdrew ?_ | refine bdrewN ?_ _))); done)
  rintro e w1 ⟨rfl, hb⟩
  have B1 := hid (btrans (a := w) (by ((with_reducible (repeat (first | assumption | exact Below.refl _ _ | refine bset ?_ (Nat.le_refl _) _ | refine balloc ?_ _ | refine bdrew ?_ | refine bdrewN ?_ _))); done)) hb)
  have hc1 := (bcell hb).1
  have z0 : w1.cell? ⟨w.heap.size, 0, none⟩ = some (.int .i8 k) := by go_simp
  have z1 : w1.cell? ⟨w.heap.size, 1, none⟩ = some (.int .u8 d) := by go_simp
  have z2 : w1.cell? ⟨w.heap.size, 2, none⟩ = some (.int .u8 a) := by go_simp
  have z3 : w1.cell? ⟨w.heap.size, 3, none⟩ = some (.int .u8 b) := by go_simp
  have z4 : w1.cell? ⟨w.heap.size, 4, none⟩ = some (.int .i64 n) := by go_simp
  clear hb hc1
  go_wp2_with fail
  with_reducible refine (C2.out _).mono ?_
  rintro e w2 ⟨rfl, hb⟩
  have B2 := hid (btrans (B1).out hb)
  replace z0 := cell_keep z0 hb
  replace z1 := cell_keep z1 hb
  replace z2 := cell_keep z2 hb
  replace z3 := cell_keep z3 hb
  replace z4 := cell_keep z4 hb
  clear hb
  go_wp2_with fail
  with_reducible refine (C3.out _).mono ?_
  rintro e w3 ⟨rfl, hb⟩
  have B3 := hid (btrans (B2).out hb)
  replace z0 := cell_keep z0 hb
  replace z1 := cell_keep z1 hb
  replace z2 := cell_keep z2 hb
  replace z3 := cell_keep z3 hb
  replace z4 := cell_keep z4 hb
  clear hb
  go_wp2_with fail
  with_reducible refine (C4.out _).mono ?_
  rintro e w4 ⟨rfl, hb⟩
  have B4 := hid (btrans (B3).out hb)
  replace z0 := cell_keep z0 hb
  replace z1 := cell_keep z1 hb
  replace z2 := cell_keep z2 hb
  replace z3 := cell_keep z3 hb
  replace z4 := cell_keep z4 hb
  clear hb
  go_wp2_with fail
  with_reducible refine (C5.out _).mono ?_
  rintro e w5 ⟨rfl, hb⟩
  have B5 := hid (btrans (B4).out hb)
  replace z0 := cell_keep z0 hb
  replace z1 := cell_keep z1 hb
  replace z2 := cell_keep z2 hb
  replace z3 := cell_keep z3 hb
  replace z4 := cell_keep z4 hb
  clear hb
  go_wp2_with fail
  with_reducible refine (C6.out _).mono ?_
  rintro e w6 ⟨rfl, hb⟩
  have B6 := hid (btrans (B5).out hb)
  replace z0 := cell_keep z0 hb
  replace z1 := cell_keep z1 hb
  replace z2 := cell_keep z2 hb
  replace z3 := cell_keep z3 hb
  replace z4 := cell_keep z4 hb
  clear hb
  go_wp2
  go_region_held3 (fun w' => w'.cell? ⟨w.heap.size, 0, none⟩ = some (.int .i8 k) ∧ w'.cell? ⟨w.heap.size, 1, none⟩ = some (.int .u8 d) ∧ w'.cell? ⟨w.heap.size, 2, none⟩ = some (.int .u8 a) ∧ w'.cell? ⟨w.heap.size, 3, none⟩ = some (.int .u8 b) ∧ w'.cell? ⟨w.heap.size, 4, none⟩ = some (.int .i64 n) ∧ Hid (Below w6.heap.size w6 w')) (first | (go_split_ands; (repeat' apply And.intro) <;> (first | assumption | exact cell_keep (by assumption) hb | exact hid (btrans (Hid.out (by assumption)) hb) | exact hid (bdrew (Below.refl _ _)))) | go_keep)
    (first | ((with_reducible refine (C7.out _).mono ?_); rintro e w' ⟨rfl, hb⟩) | ((with_reducible refine (C8.out _).mono ?_); rintro e w' ⟨rfl, hb⟩) | ((with_reducible refine (C9.out _).mono ?_); rintro e w' ⟨A9, c9, rfl, hu9, hb⟩) | ((with_reducible refine (C10.out _).mono ?_); rintro e w' ⟨A10, c10, rfl, hu10, hb⟩) | ((with_reducible refine (C11.out _ _ _ _ _ ?_ ?_).mono ?_); (next => (first | assumption | exact U8In.keep (by assumption) (by assumption))); (next => (first | assumption | exact U8In.keep (by assumption) (by assumption))); rintro e w' ⟨rfl, hb⟩) | ((with_reducible refine (CW.out _ ?_).mono ?_); (next => (go_split_ands; exact Tab.keep (Tab.keep HT.out B6.out) (Hid.out (by assumption)))); rintro e w' ⟨rfl, hb⟩))
  all_goals
    go_split_ands
    go_wp2
    go_ret
    exact ⟨rfl, btrans B6.out (Hid.out (by assumption))⟩
end Go.Proofs.YtpiagggnjppkhaaDoor
