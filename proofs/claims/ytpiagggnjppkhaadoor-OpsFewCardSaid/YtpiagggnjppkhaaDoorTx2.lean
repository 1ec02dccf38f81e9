/- The document's Text. -/
import Derived.Test.YtpiagggnjppkhaaDoorDig
import Derived.Test.YtpiagggnjppkhaaDoorR03c
namespace Go.Proofs.YtpiagggnjppkhaaDoor
open Go.RowKit
set_option linter.unusedVariables false
set_option linter.unusedSimpArgs false
theorem rtext_no (o : Op) (w : World) (hc : chk o = false) :
    Calls Tryd.prog 15 #[o.val] w fun e w' => e = .returned (.tuple #[.string (txtS o), .int .i64 (chkE o)]) ∧ Below w.heap.size w w' := by
  have C1 := hid (fun w => rcheck_any o w)
  have e1 : txtS o = ⟨#[]⟩ := by unfold txtS; rw [hc]; rfl
  have e2 : chkE o = 30 := by unfold chkE; rw [hc]; rfl
  rw [e1, e2]
  have HC := hid e2
  clear e1 e2
  obtain ⟨k, d, a, b, n⟩ := o
  go_enter Tryd.func15, Tryd.ntmps15
  go_wp2_with fail
  with_reducible refine (C1.out _).mono ?_
  rintro e w1 ⟨rfl, hb⟩
  rw [HC.out]
  go_wp2
  go_ret2
  exact ⟨rfl, btrans (a := w) (by ((with_reducible (repeat (first | assumption | exact Below.refl _ _ | refine bset ?_ (Nat.le_refl _) _ | refine balloc ?_ _ | refine bdrew ?_ | refine bdrewN ?_ _))); done)) hb⟩
theorem itoa_nat (m : Nat) : Lib.itoa (m : Int) = Lib.decDigits m := Lib.itoa_nonneg m
set_option maxHeartbeats 4000000 in
set_option maxRecDepth 100000 in
theorem rtext_yes (o : Op) (w : World) (hwf : o.wf) (hc : chk o = true) :
    Calls Tryd.prog 15 #[o.val] w fun e w' => e = .returned (.tuple #[.string (txtS o), .int .i64 (chkE o)]) ∧ Below w.heap.size w w' := by
  have C1 := hid (fun w => rcheck_any o w)
  have hbd := chk_bd3 hc
  have e2 : chkE o = 0 := by unfold chkE; rw [hc]; rfl
  have e1 : txtS o = ⟨(txtL (shp o.k) o).toArray⟩ := by unfold txtS; rw [hc]; rfl
  rw [e1, e2]
  have HC := hid e2
  clear e1 e2 hc
  obtain ⟨k, d, a, b, n⟩ := o
  obtain ⟨_, _, hd0, hd1, ha0, ha1, hb0, hb1, hn0, hn1⟩ := hwf
  obtain ⟨hd31, ha31, hb31⟩ := hbd
  simp only at hd0 hd1 ha0 ha1 hb0 hb1 hn0 hn1 hd31 ha31 hb31
  have C2 := hid (fun w => rof_any k w)
  obtain ⟨d, rfl⟩ := Int.eq_ofNat_of_zero_le hd0
  obtain ⟨a, rfl⟩ := Int.eq_ofNat_of_zero_le ha0
  obtain ⟨b, rfl⟩ := Int.eq_ofNat_of_zero_le hb0
  show Calls _ _ _ _ fun e w' => e = .returned (.tuple #[.string ⟨(txtL (shp k) _).toArray⟩, _]) ∧ _
  generalize hs : shp k = s at C2 ⊢
  have hnl := name_len k
  rw [hs] at hnl
  clear hs
  obtain ⟨nm, cl, sd, sa, sb, sn, si, is⟩ := s
  obtain ⟨⟨nm⟩⟩ := nm
  have hnm : nm.length ≤ 10 := hnl
  clear hnl
  have l1 := itoa_len d (by omega) (by omega)
  have l2 := itoa_len a (by omega) (by omega)
  have l3 := itoa_len b (by omega) (by omega)
  have l4 := itoa_len n hn0 hn1
  have DD := hid (fun w => digits_any (d : Int) w (by omega) (by omega))
  have DA := hid (fun w => digits_any (a : Int) w (by omega) (by omega))
  have DB := hid (fun w => digits_any (b : Int) w (by omega) (by omega))
  have DN := hid (fun w => digits_any n w hn0 hn1)
  have HT : Hid (txtL ⟨⟨⟨nm⟩⟩, cl, sd, sa, sb, sn, si, is⟩ ⟨k, d, a, b, n⟩ = nm ++ (if sd then [32, 114] ++ Lib.itoa (d : Int) else []) ++ (if sa then [32, 114] ++ Lib.itoa (a : Int) else []) ++ (if sb then [32, 114] ++ Lib.itoa (b : Int) else []) ++ (if sn then [32] ++ Lib.itoa (b : Int) else []) ++ (if si then [32] ++ Lib.itoa n else [])) := hid (by
    rw [itoa_nat, itoa_nat, itoa_nat]
    rfl)
  rw [HT.out]
  clear HT
  generalize Lib.itoa (d : Int) = D at *
  generalize Lib.itoa (a : Int) = A at *
  generalize Lib.itoa (b : Int) = B at *
  generalize Lib.itoa n = N at *
  go_enter Tryd.func15, Tryd.ntmps15
  go_wp2_with fail
  with_reducible refine (C1.out _).mono ?_
  rintro e w1 ⟨rfl, hb⟩
  rw [HC.out]
  have B1 := hid (btrans (a := w) (by ((with_reducible (repeat (first | assumption | exact Below.refl _ _ | refine bset ?_ (Nat.le_refl _) _ | refine balloc ?_ _ | refine bdrew ?_ | refine bdrewN ?_ _))); done)) hb)
  have hc1 := (bcell hb).1
  have z0 : w1.cell? ⟨w.heap.size, 0, none⟩ = some (.int .i8 k) := by go_simp
  have z1 : w1.cell? ⟨w.heap.size, 1, none⟩ = some (.int .u8 d) := by go_simp
  have z2 : w1.cell? ⟨w.heap.size, 2, none⟩ = some (.int .u8 a) := by go_simp
  have z3 : w1.cell? ⟨w.heap.size, 3, none⟩ = some (.int .u8 b) := by go_simp
  have z4 : w1.cell? ⟨w.heap.size, 4, none⟩ = some (.int .i64 n) := by go_simp
  clear hb hc1
  go_wp2_with fail
  with_reducible refine (C2.out _).mono ?_
  rintro e w2 ⟨rfl, hb⟩
  replace z1 := cell_keep z1 hb
  replace z2 := cell_keep z2 hb
  replace z3 := cell_keep z3 hb
  replace z4 := cell_keep z4 hb
  have hwz : w.heap.size < w2.heap.size := World.block_lt_of_cell? w2 _ z1
  have B2 := hid (balloc (btrans B1.out hb) (.cells #[.string ⟨⟨nm⟩⟩, .int .i64 cl, .bool sd, .bool sa, .bool sb, .bool sn, .bool si] 58))
  clear z0 hb B1
  cases sd <;> cases sa <;> cases sb <;> cases sn <;> cases si
  all_goals
    go_wp2_with (go_at_call 29; (first | (with_reducible refine (DD.out _).mono ?_) | (with_reducible refine (DA.out _).mono ?_) | (with_reducible refine (DB.out _).mono ?_) | (with_reducible refine (DN.out _).mono ?_)); rintro e w' ⟨rfl, rfl⟩)
    go_ret2
    refine ⟨?_, B2.out⟩
    show Ending.returned (Value.tuple #[Value.string _, _]) = Ending.returned (Value.tuple #[Value.string _, _])
    refine congrArg (fun s => Ending.returned (Value.tuple #[Value.string s, .int .i64 0])) ?_
    apply ByteArray.ext
    simp
end Go.Proofs.YtpiagggnjppkhaaDoor
