/- OpsFew: the walk. -/
import Derived.Test.YtpiagggnjppkhaaDoorFewP
namespace Go.Proofs.YtpiagggnjppkhaaDoor
open Go.RowKit
set_option linter.unusedVariables false
set_option linter.unusedSimpArgs false
theorem txt_len (o : Op) (hwf : o.wf) : (txtS o).data.toList.length ≤ 100 := by
  unfold txtS
  split
  · rename_i hc
    have hb := chk_bd3 hc
    have h1 := name_len o.k
    have hr : ∀ (y : Bool) (r : Int), 0 ≤ r → r ≤ 31 → (regT y r).length ≤ 4 := fun y r h0 h1 => by
      obtain ⟨m, rfl⟩ := Int.eq_ofNat_of_zero_le h0
      exact reg_len y m (by omega)
    have a1 := hr (shp o.k).d o.d hwf.d0 hb.1
    have a2 := hr (shp o.k).a o.a hwf.a0 hb.2.1
    have a3 := hr (shp o.k).b o.b hwf.b0 hb.2.2
    have a4 := dec_len 1 o.b.toNat (by have := hb.2.2; omega)
    have a5 := itoa_len o.n hwf.n0 hwf.n1
    show (txtL (shp o.k) o).length ≤ 100
    unfold txtL
    simp only [List.length_append]
    have b1 : (if (shp o.k).num then [32] ++ Lib.decDigits o.b.toNat else []).length ≤ 3 := by split <;> simp <;> omega
    have b2 : (if (shp o.k).imm then [32] ++ Lib.itoa o.n else []).length ≤ 22 := by split <;> simp <;> omega
    omega
  · simp
set_option maxHeartbeats 4000000 in
set_option maxRecDepth 100000 in
theorem OpsFew_walk (o : Op) (w : World) (htab : Lib.TabIs Tryd.prog w "internal/strconv.uint64pow10" .u64 Lib.pow10Tab) (hwf : o.wf) :
    Calls Tryd.prog 5 #[.agg o.cells.toArray] w fun e w' => e = .returned (.bool true) ∧ Below w.heap.size w w' := by
  have C1 := hid (fun w => rd_any o w hwf)
  have C2 := hid (fun w => writes_any o w hwf)
  have C3 := hid (fun w h => text_all o w hwf h)
  have C4 := hid (fun w => check_any o w hwf)
  have CW := hid (fun w h => wakes03_any w h)
  have hl2 := rds_len o
  have htl := txt_len o hwf
  have HT := hid htab
  have hfew : Hid (chk o = true → cnt (txtS o).data.toList = (rds o).length + b1 (wrB o) ∨ (cnt (txtS o).data.toList = (rds o).length + b1 (wrB o) + 1 ∧ o.a = o.b)) := hid few_says
  have hno : Hid (chk o = false → rds o = [] ∧ wrB o = false ∧ txtS o = ⟨#[]⟩) := hid fun h => ⟨rds_no h, by unfold wrB; rw [h, Bool.and_false], by unfold txtS; rw [h]; rfl⟩
  have HE : Hid (chkE o = if chk o then 0 else 30) := hid rfl
  clear htab hwf
  generalize rds o = L at *
  generalize txtS o = T at *
  generalize chkE o = E at *
  generalize wrN o = N at *
  generalize wrB o = B at *
  generalize chk o = C at *
  obtain ⟨k, d, a, b, n⟩ := o
  show Calls _ _ #[.agg #[.int .i8 k, .int .u8 d, .int .u8 a, .int .u8 b, .int .i64 n]] _ _
  go_enter Tryd.func5, Tryd.ntmps5
  go_wp2_with fail
  refine (C1.out _).mono ?_
  rintro e w1 ⟨A, c, rfl, hu, hb⟩
  have B1 := hid (btrans (a := w) (by ((with_reducible (repeat (first | assumption | exact Below.refl _ _ | refine bset ?_ (Nat.le_refl _) _ | refine balloc ?_ _ | refine bdrew ?_ | refine bdrewN ?_ _))); done)) hb)
  have hc1 := (bcell hb).1
  have z0 : w1.cell? ⟨w.heap.size, 0, none⟩ = some (.int .i8 k) := by go_simp
  have z1 : w1.cell? ⟨w.heap.size, 1, none⟩ = some (.int .u8 d) := by go_simp
  have z2 : w1.cell? ⟨w.heap.size, 2, none⟩ = some (.int .u8 a) := by go_simp
  have z3 : w1.cell? ⟨w.heap.size, 3, none⟩ = some (.int .u8 b) := by go_simp
  have z4 : w1.cell? ⟨w.heap.size, 4, none⟩ = some (.int .i64 n) := by go_simp
  clear hb hc1 hu
  go_wp2_with fail
  with_reducible refine (C2.out _).mono ?_
  rintro e w2 ⟨rfl, hb⟩
  have B2 := hid (btrans (B1).out hb)
  replace z0 := cell_keep z0 hb
  replace z1 := cell_keep z1 hb
  replace z2 := cell_keep z2 hb
  replace z3 := cell_keep z3 hb
  replace z4 := cell_keep z4 hb
  clear hb
  go_wp2_with fail
  with_reducible refine (C3.out _ (Tab.keep HT.out B2.out)).mono ?_
  rintro e w3 ⟨rfl, hb⟩
  have B3 := hid (btrans (B2).out hb)
  replace z0 := cell_keep z0 hb
  replace z1 := cell_keep z1 hb
  replace z2 := cell_keep z2 hb
  replace z3 := cell_keep z3 hb
  replace z4 := cell_keep z4 hb
  clear hb
  go_wp2_with fail
  with_reducible refine (C4.out _).mono ?_
  rintro e w4 ⟨rfl, hb⟩
  have B4 := hid (btrans (B3).out hb)
  replace z0 := cell_keep z0 hb
  replace z1 := cell_keep z1 hb
  replace z2 := cell_keep z2 hb
  replace z3 := cell_keep z3 hb
  replace z4 := cell_keep z4 hb
  clear hb
  cases C with
  | false =>
    obtain ⟨rfl, rfl, rfl⟩ := hno.out rfl
    obtain rfl : E = 30 := HE.out
    go_wp2_with fail
    with_reducible refine (CW.out _ (Tab.keep HT.out B4.out)).mono ?_
    rintro e w5 ⟨rfl, hb⟩
    go_wp2
    go_ret
    exact ⟨rfl, btrans B4.out hb⟩
  | true =>
    obtain rfl : E = 0 := HE.out
    have HF := hid (hfew.out rfl)
    obtain ⟨⟨x⟩⟩ := T
    have hxl : x.length ≤ 100 := htl
    clear htl hno HE hfew
    go_wp2
    go_loopg [8, 9] x.length (fun gk v8 v9 wr => ∃ i : Nat, (i < x.length ∨ i = 0) ∧ v9 = .int .i64 i ∧ v8 = .int .i64 (cnt (x.take (i + 1)) : Nat) ∧ cnt (x.take (i + 1)) ≤ i ∧ Hid (gk + i = x.length) ∧ wr = w4)
    case atStart => exact ⟨0, .inr rfl, rfl, by cases x <;> rfl, by cases x <;> exact Nat.le_refl _, by exact Nat.add_zero _, rfl⟩
    case round =>
      obtain ⟨i, hi, rfl, rfl, hci, hg, rfl⟩ := hrel
      by_cases hlt : i + 1 < x.length
      · have hs := cnt_step x i hlt
        have hil : i < x.length := by omega
        have g1 : ((⟨⟨x⟩⟩ : ByteArray)[i]'(show i < x.length from hil)) = x[i] := rfl
        have g2 : ((⟨⟨x⟩⟩ : ByteArray)[i + 1]'(show i + 1 < x.length from hlt)) = x[i + 1] := rfl
        have n32 : ∀ c : UInt8, (((c.toNat : Int) == 32) = decide (c = 32)) := fun c => by
          rw [Bool.eq_iff_iff, beq_iff_eq, decide_eq_true_eq]
          exact ⟨fun h => UInt8.toNat_inj.1 (by have : c.toNat = 32 := by omega
                                                exact this), fun h => by rw [h]; rfl⟩
        have n114 : ∀ c : UInt8, (((c.toNat : Int) == 114) = decide (c = 114)) := fun c => by
          rw [Bool.eq_iff_iff, beq_iff_eq, decide_eq_true_eq]
          exact ⟨fun h => UInt8.toNat_inj.1 (by have : c.toNat = 114 := by omega
                                                exact this), fun h => by rw [h]; rfl⟩
        have t1 : ((((⟨⟨x⟩⟩ : ByteArray)[i]'(show i < x.length from hil)).toNat : Int) == 32) = decide (x[i] = 32) := by rw [g1]; exact n32 _
        have t2 : ((((⟨⟨x⟩⟩ : ByteArray)[i + 1]'(show i + 1 < x.length from hlt)).toNat : Int) == 114) = decide (x[i + 1] = 114) := by rw [g2]; exact n114 _
        clear g1 g2 n32 n114
        by_cases h32 : x[i] = 32
        · rw [decide_eq_true h32] at t1
          by_cases h114 : x[i + 1] = 114
          · rw [decide_eq_true h114] at t2
            have hs2 : Hid (cnt (x.take (i + 1)) + 1 = cnt (x.take (i + 1 + 1))) := hid (by rw [hs, if_pos ⟨h32, h114⟩])
            clear hs h32 h114
            generalize cnt (x.take (i + 1)) = m at *
            go_wp2
            go_roundg (x.length - (i + 1))
            case measure => have := hg.out; omega
            case rel => exact ⟨i + 1, .inl hlt, by go_num, by rw [← hs2.out]; go_num, by rw [← hs2.out]; omega, by show _ + _ = _; omega, rfl⟩
          · rw [decide_eq_false h114] at t2
            have hs2 : Hid (cnt (x.take (i + 1)) = cnt (x.take (i + 1 + 1))) := hid (by have := hs; rw [if_neg (fun h => h114 h.2)] at this; exact this.symm)
            clear hs h32 h114
            generalize cnt (x.take (i + 1)) = m at *
            go_wp2
            go_roundg (x.length - (i + 1))
            case measure => have := hg.out; omega
            case rel => exact ⟨i + 1, .inl hlt, by go_num, by rw [← hs2.out], by rw [← hs2.out]; omega, by show _ + _ = _; omega, rfl⟩
        · rw [decide_eq_false h32] at t1
          have hs2 : Hid (cnt (x.take (i + 1)) = cnt (x.take (i + 1 + 1))) := hid (by have := hs; rw [if_neg (fun h => h32 h.1)] at this; exact this.symm)
          clear hs h32 t2
          generalize cnt (x.take (i + 1)) = m at *
          go_wp2
          go_roundg (x.length - (i + 1))
          case measure => have := hg.out; omega
          case rel => exact ⟨i + 1, .inl hlt, by go_num, by rw [← hs2.out], by rw [← hs2.out]; omega, by show _ + _ = _; omega, rfl⟩
      · have hxx : Hid (x.take (i + 1) = x) := hid (List.take_of_length_le (by omega))
        rw [hxx.out] at hci ⊢
        have HF2 : (cnt x = L.length + b1 B) ∨ (cnt x = L.length + b1 B + 1 ∧ a = b) := HF.out
        clear HF hxx
        generalize cnt x = m at *
        cases B with
        | true =>
          rcases HF2 with hm | ⟨hm, hab⟩
          · obtain rfl : m = L.length + 1 := hm
            go_wp2_with fail
            with_reducible refine (CW.out _ (Tab.keep HT.out B4.out)).mono ?_
            rintro e w5 ⟨rfl, hb⟩
            go_wp2
            go_ret
            exact ⟨rfl, btrans B4.out hb⟩
          · obtain rfl : m = L.length + 1 + 1 := hm
            have hab2 : (a == b) = true := by rw [hab]; simp
            subst hab
            go_wp2_with fail
            with_reducible refine (CW.out _ (Tab.keep HT.out B4.out)).mono ?_
            rintro e w5 ⟨rfl, hb⟩
            go_wp2
            go_ret
            exact ⟨rfl, btrans B4.out hb⟩
        | false =>
          rcases HF2 with hm | ⟨hm, hab⟩
          · obtain rfl : m = L.length := hm
            go_wp2_with fail
            with_reducible refine (CW.out _ (Tab.keep HT.out B4.out)).mono ?_
            rintro e w5 ⟨rfl, hb⟩
            go_wp2
            go_ret
            exact ⟨rfl, btrans B4.out hb⟩
          · obtain rfl : m = L.length + 1 := hm
            have hab2 : (a == b) = true := by rw [hab]; simp
            subst hab
            go_wp2_with fail
            with_reducible refine (CW.out _ (Tab.keep HT.out B4.out)).mono ?_
            rintro e w5 ⟨rfl, hb⟩
            go_wp2
            go_ret
            exact ⟨rfl, btrans B4.out hb⟩
end Go.Proofs.YtpiagggnjppkhaaDoor
