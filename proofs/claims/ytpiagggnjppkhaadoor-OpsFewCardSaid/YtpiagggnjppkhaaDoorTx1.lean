/- The contract of ops.Text. -/
import Derived.Test.YtpiagggnjppkhaaDoorOps2
import Derived.Test.YtpiagggnjppkhaaDoorShelf
import Derived.Test.YtpiagggnjppkhaaDoorBase2
import Derived.Lib.AppendIntMem
namespace Go.Proofs.YtpiagggnjppkhaaDoor
open Go.RowKit
set_option linter.unusedVariables false
set_option linter.unusedSimpArgs false
/-- The text of an operation. -/
def regT (yes : Bool) (r : Int) : List UInt8 := if yes then [32, 114] ++ Lib.decDigits r.toNat else []
def txtL (s : Shp) (o : Op) : List UInt8 :=
  s.name.data.toList ++ regT s.d o.d ++ regT s.a o.a ++ regT s.b o.b ++ (if s.num then [32] ++ Lib.decDigits o.b.toNat else []) ++ (if s.imm then [32] ++ Lib.itoa o.n else [])
def txtS (o : Op) : ByteArray := if chk o then ⟨(txtL (shp o.k) o).toArray⟩ else ⟨#[]⟩
/-- What the call reads: the operation's box (g), its shape (s1), the three registers (s2). -/
structure TxAt (x : World) (g s1 s2 : Nat) (d a b : Nat) (n : Int) (sd sa sb sn si : Bool) : Prop where
  c0 : x.cell? ⟨s2, 0, none⟩ = some (.bool sd)
  c1 : x.cell? ⟨s2, 1, none⟩ = some (.int .u8 d)
  c2 : x.cell? ⟨s2, 2, none⟩ = some (.bool sa)
  c3 : x.cell? ⟨s2, 3, none⟩ = some (.int .u8 a)
  c4 : x.cell? ⟨s2, 4, none⟩ = some (.bool sb)
  c5 : x.cell? ⟨s2, 5, none⟩ = some (.int .u8 b)
  n5 : x.cell? ⟨s1, 5, none⟩ = some (.bool sn)
  n6 : x.cell? ⟨s1, 6, none⟩ = some (.bool si)
  b3 : x.cell? ⟨g, 3, none⟩ = some (.int .u8 b)
  b4 : x.cell? ⟨g, 4, none⟩ = some (.int .i64 n)
theorem TxAt.keep {x y : World} {g s1 s2 : Nat} {d a b : Nat} {n : Int} {sd sa sb sn si : Bool} (h : TxAt x g s1 s2 d a b n sd sa sb sn si) (hb : Below x.heap.size x y) : TxAt y g s1 s2 d a b n sd sa sb sn si :=
  ⟨cell_keep h.c0 hb, cell_keep h.c1 hb, cell_keep h.c2 hb, cell_keep h.c3 hb, cell_keep h.c4 hb, cell_keep h.c5 hb, cell_keep h.n5 hb, cell_keep h.n6 hb, cell_keep h.b3 hb, cell_keep h.b4 hb⟩
def preL (nm : List UInt8) (d a b : Nat) (sd sa sb : Bool) (i : Nat) : List UInt8 :=
  nm ++ (if 1 ≤ i then regT sd d else []) ++ (if 2 ≤ i then regT sa a else []) ++ (if 3 ≤ i then regT sb b else [])
theorem dec_len (m : Nat) : ∀ u : Nat, u < 10 ^ (m + 1) → (Lib.decDigits u).length ≤ m + 1 := by
  induction m with
  | zero =>
    intro u hu
    rw [Lib.decDigits, dif_pos (by omega)]
    simp
  | succ m ih =>
    intro u hu
    rw [Lib.decDigits]
    by_cases h : u < 10
    · rw [dif_pos h]; simp
    · rw [dif_neg h, List.length_append]
      have := ih (u / 10) (by rw [Nat.pow_succ] at hu; omega)
      simp
      omega
theorem itoa_len (n : Int) (h0 : -9223372036854775808 ≤ n) (h1 : n ≤ 9223372036854775807) : (Lib.itoa n).length ≤ 21 := by
  unfold Lib.itoa
  split
  · have := dec_len 19 n.natAbs (by have : (10 : Nat) ^ (19 + 1) = 100000000000000000000 := by decide
                                    omega)
    simp
    omega
  · have := dec_len 19 n.toNat (by have : (10 : Nat) ^ (19 + 1) = 100000000000000000000 := by decide
                                   omega)
    omega
theorem name_len (k : Int) : (shp k).name.data.toList.length ≤ 10 := by
  unfold shp
  split
  · rename_i h
    have : ∀ i : Nat, i < 24 → (shps.getD i noShp).name.data.toList.length ≤ 10 := by decide
    exact this k.toNat (by omega)
  · decide
theorem reg_len (y : Bool) (r : Nat) (h : r ≤ 31) : (regT y r).length ≤ 4 := by
  unfold regT
  split
  · have := dec_len 1 r (by omega)
    simp
    omega
  · simp
theorem pre_len (nm : List UInt8) (d a b : Nat) (sd sa sb : Bool) (i : Nat) (hd : d ≤ 31) (ha : a ≤ 31) (hb : b ≤ 31) : (preL nm d a b sd sa sb i).length ≤ nm.length + 12 := by
  unfold preL
  have h1 := reg_len sd d hd
  have h2 := reg_len sa a ha
  have h3 := reg_len sb b hb
  simp only [List.length_append]
  repeat' split
  all_goals simp
  all_goals omega
theorem cat (x y : List UInt8) : (⟨⟨x⟩⟩ : ByteArray) ++ ⟨⟨y⟩⟩ = ⟨⟨x ++ y⟩⟩ := by
  apply ByteArray.ext
  simp
theorem cat3 (x y z : List UInt8) : Value.string ((⟨⟨x⟩⟩ : ByteArray) ++ (⟨⟨y⟩⟩ ++ ⟨⟨z⟩⟩)) = Value.string ⟨⟨x ++ (y ++ z)⟩⟩ := by rw [cat, cat]
theorem below_gr {w w' : World} {k : Nat} {os : Array Obj} (h : w' = Go.Sort.grow (w.drewN k) os) : Below w.heap.size w w' := by
  subst h
  refine ⟨rfl, rfl, rfl, by simp [Go.Sort.grow], fun b hb => ?_⟩
  show (w.heap ++ os)[b]? = _
  rw [Array.getElem?_append_left hb]
theorem Tab.keep {w w' : World} (h : Lib.TabIs Tryd.prog w "internal/strconv.uint64pow10" .u64 Lib.pow10Tab) (hb : Below w.heap.size w w') : Lib.TabIs Tryd.prog w' "internal/strconv.uint64pow10" .u64 Lib.pow10Tab := Lib.tabBelow_of_tabIs h w' hb
theorem chk_bd3 {o : Op} (h : chk o = true) : o.d ≤ 31 ∧ o.a ≤ 31 ∧ o.b ≤ 31 := by
  unfold chk at h
  simp only [Bool.and_eq_true, decide_eq_true_eq] at h
  obtain ⟨⟨⟨⟨⟨⟨⟨⟨h0, h1⟩, h2⟩, h3⟩, h4⟩, h5⟩, h6⟩, h7⟩, h8⟩ := h
  exact ⟨h1, h2, h3⟩
theorem text_no (o : Op) (w : World) (hwf : o.wf) (hc : chk o = false) :
    Calls Tryd.prog 13 #[o.val] w fun e w' => e = .returned (.tuple #[.string (txtS o), .int .i64 (chkE o)]) ∧ Below w.heap.size w w' := by
  have C1 := hid (fun w => check_any o w hwf)
  have e1 : txtS o = ⟨#[]⟩ := by unfold txtS; rw [hc]; rfl
  have e2 : chkE o = 30 := by unfold chkE; rw [hc]; rfl
  rw [e1, e2]
  have HC := hid e2
  clear e1 e2
  obtain ⟨k, d, a, b, n⟩ := o
  go_enter Tryd.func13, Tryd.ntmps13
  go_wp2_with fail
  with_reducible refine (C1.out _).mono ?_
  rintro e w1 ⟨rfl, hb⟩
  rw [HC.out]
  go_wp2
  go_ret2
  exact ⟨rfl, btrans (a := w) (by ((with_reducible (repeat (first | assumption | exact Below.refl _ _ | refine bset ?_ (Nat.le_refl _) _ | refine balloc ?_ _ | refine bdrew ?_ | refine bdrewN ?_ _))); done)) hb⟩
set_option maxHeartbeats 4000000 in
set_option maxRecDepth 100000 in
theorem text_yes (o : Op) (w : World) (hwf : o.wf) (hc : chk o = true) (htab : Lib.TabIs Tryd.prog w "internal/strconv.uint64pow10" .u64 Lib.pow10Tab) :
    Calls Tryd.prog 13 #[o.val] w fun e w' => e = .returned (.tuple #[.string (txtS o), .int .i64 (chkE o)]) ∧ Below w.heap.size w w' := by
  have C1 := hid (fun w => check_any o w hwf)
  have hbd := chk_bd3 hc
  have e2 : chkE o = 0 := by unfold chkE; rw [hc]; rfl
  have e1 : txtS o = ⟨(txtL (shp o.k) o).toArray⟩ := by unfold txtS; rw [hc]; rfl
  rw [e1, e2]
  have HC := hid e2
  have HTAB := hid htab
  clear e1 e2 htab hc
  obtain ⟨k, d, a, b, n⟩ := o
  obtain ⟨_, _, hd0, hd1, ha0, ha1, hb0, hb1, hn0, hn1⟩ := hwf
  obtain ⟨hd31, ha31, hb31⟩ := hbd
  simp only at hd0 hd1 ha0 ha1 hb0 hb1 hn0 hn1 hd31 ha31 hb31
  have C2 := hid (fun w => of_any k w)
  obtain ⟨d, rfl⟩ := Int.eq_ofNat_of_zero_le hd0
  obtain ⟨a, rfl⟩ := Int.eq_ofNat_of_zero_le ha0
  obtain ⟨b, rfl⟩ := Int.eq_ofNat_of_zero_le hb0
  show Calls _ _ _ _ fun e w' => e = .returned (.tuple #[.string ⟨(txtL (shp k) _).toArray⟩, _]) ∧ _
  generalize hs : shp k = s at C2 ⊢
  have hnl := name_len k
  rw [hs] at hnl
  clear hs
  obtain ⟨nm, cl, sd, sa, sb, sn, si, is⟩ := s
  go_enter Tryd.func13, Tryd.ntmps13
  go_wp2_with fail
  with_reducible refine (C1.out _).mono ?_
  rintro e w1 ⟨rfl, hb⟩
  rw [HC.out]
  have B1 := hid (btrans (a := w) (by ((with_reducible (repeat (first | assumption | exact Below.refl _ _ | refine bset ?_ (Nat.le_refl _) _ | refine balloc ?_ _ | refine bdrew ?_ | refine bdrewN ?_ _))); done)) hb)
  have hc1 := (bcell hb).1
  have z0 : w1.cell? ⟨w.heap.size, 0, none⟩ = some (.int .i8 k) := by go_simp
  have z1 : w1.cell? ⟨w.heap.size, 1, none⟩ = some (.int .u8 d) := by go_simp
  have z2 : w1.cell? ⟨w.heap.size, 2, none⟩ = some (.int .u8 a) := by go_simp
  have z3 : w1.cell? ⟨w.heap.size, 3, none⟩ = some (.int .u8 b) := by go_simp
  have z4 : w1.cell? ⟨w.heap.size, 4, none⟩ = some (.int .i64 n) := by go_simp
  clear hb hc1
  go_wp2_with fail
  with_reducible refine (C2.out _).mono ?_
  rintro e w2 ⟨rfl, hb⟩
  replace z1 := cell_keep z1 hb
  replace z2 := cell_keep z2 hb
  replace z3 := cell_keep z3 hb
  replace z4 := cell_keep z4 hb
  have hwz : w.heap.size < w2.heap.size := World.block_lt_of_cell? w2 _ z1
  have B2 := hid (btrans B1.out hb)
  clear z0 hb B1
  obtain ⟨⟨nm⟩⟩ := nm
  have hnm : nm.length ≤ 10 := hnl
  clear hnl
  go_wp2_with fail
  go_loopg [7, 40] 3 (fun gk v7 v40 wr => ∃ (i : Nat) (x : List UInt8), i ≤ 3 ∧ v40 = .int .i64 i ∧ v7 = .string ⟨⟨x⟩⟩ ∧ Hid (gk + i = 3) ∧ Hid (x = preL nm d a b sd sa sb i) ∧ Hid (TxAt wr w.heap.size w2.heap.size (w2.heap.size + 1) d a b n sd sa sb sn si) ∧ Hid (Below w.heap.size w wr))
  case atStart =>
    refine ⟨0, nm, by omega, rfl, rfl, by exact Nat.add_zero _, hid (by simp [preL]), hid ?_, hid (balloc (balloc B2.out _) _)⟩
    constructor <;> go_simp
  case round =>
    obtain ⟨i, x, hi, rfl, rfl, hg, hx, hT, hB⟩ := hrel
    obtain ⟨c0, c1, c2, c3, c4, c5, n5, n6, b3, b4⟩ := hT.out
    have hxl : x.length ≤ 30 := by rw [hx.out]; have := pre_len nm d a b sd sa sb i (by omega) (by omega) (by omega); omega
    obtain rfl | rfl | rfl | rfl : i = 0 ∨ i = 1 ∨ i = 2 ∨ i = 3 := by omega
    · cases sd with
      | true =>
        obtain ⟨D, hD⟩ : ∃ D, Lib.decDigits d = D := ⟨_, rfl⟩
        have hDl : D.length ≤ 2 := by rw [← hD]; exact dec_len 1 d (by omega)
        have hxs : Hid (x ++ ([32, 114] ++ D) = preL nm d a b true sa sb 1) := hid (by rw [hx.out, ← hD]; simp [preL, regT])
        have IT := hid (fun w => Tryd.strconv_Itoa_small d (by omega) w)
        rw [hD] at IT
        clear hD
        go_wp2_with (go_at_call 25; (refine (IT.out _).mono ?_); rintro e w' ⟨rfl, hw⟩; subst hw)
        go_roundg 2
        case measure => have := hg.out; omega
        case rel => exact ⟨1, x ++ ([32, 114] ++ D), by omega, by go_num, cat3 _ _ _, by have := hg.out; show _ + _ = _; omega, hxs, hid (hT.out.keep (balloc (Below.refl _ _) _)), hid (balloc hB.out _)⟩
      | false =>
        have hxs : Hid (x = preL nm d a b false sa sb 1) := hid (by rw [hx.out]; simp [preL, regT])
        go_wp2
        go_roundg 2
        case measure => have := hg.out; omega
        case rel => exact ⟨1, x, by omega, by go_num, rfl, by have := hg.out; show _ + _ = _; omega, hxs, hid (hT.out.keep (balloc (Below.refl _ _) _)), hid (balloc hB.out _)⟩
    · cases sa with
      | true =>
        obtain ⟨D, hD⟩ : ∃ D, Lib.decDigits a = D := ⟨_, rfl⟩
        have hDl : D.length ≤ 2 := by rw [← hD]; exact dec_len 1 a (by omega)
        have hxs : Hid (x ++ ([32, 114] ++ D) = preL nm d a b sd true sb 2) := hid (by rw [hx.out, ← hD]; simp [preL, regT])
        have IT := hid (fun w => Tryd.strconv_Itoa_small a (by omega) w)
        rw [hD] at IT
        clear hD
        go_wp2_with (go_at_call 25; (refine (IT.out _).mono ?_); rintro e w' ⟨rfl, hw⟩; subst hw)
        go_roundg 1
        case measure => have := hg.out; omega
        case rel => exact ⟨2, x ++ ([32, 114] ++ D), by omega, by go_num, cat3 _ _ _, by have := hg.out; show _ + _ = _; omega, hxs, hid (hT.out.keep (balloc (Below.refl _ _) _)), hid (balloc hB.out _)⟩
      | false =>
        have hxs : Hid (x = preL nm d a b sd false sb 2) := hid (by rw [hx.out]; simp [preL, regT])
        go_wp2
        go_roundg 1
        case measure => have := hg.out; omega
        case rel => exact ⟨2, x, by omega, by go_num, rfl, by have := hg.out; show _ + _ = _; omega, hxs, hid (hT.out.keep (balloc (Below.refl _ _) _)), hid (balloc hB.out _)⟩
    · cases sb with
      | true =>
        obtain ⟨D, hD⟩ : ∃ D, Lib.decDigits b = D := ⟨_, rfl⟩
        have hDl : D.length ≤ 2 := by rw [← hD]; exact dec_len 1 b (by omega)
        have hxs : Hid (x ++ ([32, 114] ++ D) = preL nm d a b sd sa true 3) := hid (by rw [hx.out, ← hD]; simp [preL, regT])
        have IT := hid (fun w => Tryd.strconv_Itoa_small b (by omega) w)
        rw [hD] at IT
        clear hD
        go_wp2_with (go_at_call 25; (refine (IT.out _).mono ?_); rintro e w' ⟨rfl, hw⟩; subst hw)
        go_roundg 0
        case measure => have := hg.out; omega
        case rel => exact ⟨3, x ++ ([32, 114] ++ D), by omega, by go_num, cat3 _ _ _, by have := hg.out; show _ + _ = _; omega, hxs, hid (hT.out.keep (balloc (Below.refl _ _) _)), hid (balloc hB.out _)⟩
      | false =>
        have hxs : Hid (x = preL nm d a b sd sa false 3) := hid (by rw [hx.out]; simp [preL, regT])
        go_wp2
        go_roundg 0
        case measure => have := hg.out; omega
        case rel => exact ⟨3, x, by omega, by go_num, rfl, by have := hg.out; show _ + _ = _; omega, hxs, hid (hT.out.keep (balloc (Below.refl _ _) _)), hid (balloc hB.out _)⟩
    · obtain ⟨D, hD⟩ : ∃ D, Lib.decDigits b = D := ⟨_, rfl⟩
      have hDl : D.length ≤ 2 := by rw [← hD]; exact dec_len 1 b (by omega)
      have IT := hid (fun w => Tryd.strconv_Itoa_small b (by omega) w)
      rw [hD] at IT
      obtain ⟨N, hN⟩ : ∃ N, Lib.itoa n = N := ⟨_, rfl⟩
      have hNl : N.length ≤ 21 := by rw [← hN]; exact itoa_len n hn0 hn1
      have FI := hid (fun w' (h : Lib.TabIs Tryd.prog w' "internal/strconv.uint64pow10" .u64 Lib.pow10Tab) => Tryd.strconv_FormatInt_10 n hn0 hn1 w' h)
      rw [hN] at FI
      have HF : Hid (txtL ⟨⟨⟨nm⟩⟩, cl, sd, sa, sb, sn, si, is⟩ ⟨k, d, a, b, n⟩ = x ++ (if sn then [32] ++ D else []) ++ (if si then [32] ++ N else [])) := hid (by rw [hx.out, ← hD, ← hN]; simp [txtL, preL])
      clear hD hN
      cases sn with
      | true =>
        cases si with
        | true =>
          go_wp2_with (go_at_call 25; (refine (IT.out _).mono ?_); rintro e w' ⟨rfl, hw⟩; subst hw)
          refine (FI.out _ (Tab.keep HTAB.out hB.out)).mono ?_
          rintro e w5 ⟨rfl, kk, os, hw5⟩
          have hb5 := hid (below_gr hw5)
          clear hw5
          go_wp2
          go_ret2
          refine ⟨?_, btrans hB.out hb5.out⟩
          rw [HF.out]
          simp
          try (apply ByteArray.ext; simp)
        | false =>
          go_wp2_with (go_at_call 25; (refine (IT.out _).mono ?_); rintro e w' ⟨rfl, hw⟩; subst hw)
          go_ret2
          refine ⟨?_, hB.out⟩
          rw [HF.out]
          simp
          try (apply ByteArray.ext; simp)
      | false =>
        cases si with
        | true =>
          go_wp2_with fail
          refine (FI.out _ (Tab.keep HTAB.out hB.out)).mono ?_
          rintro e w5 ⟨rfl, kk, os, hw5⟩
          have hb5 := hid (below_gr hw5)
          clear hw5
          go_wp2
          go_ret2
          refine ⟨?_, btrans hB.out hb5.out⟩
          rw [HF.out]
          simp
          try (apply ByteArray.ext; simp)
        | false =>
          go_wp2
          go_ret2
          refine ⟨?_, hB.out⟩
          rw [HF.out]
          simp
          try (apply ByteArray.ext; simp)
end Go.Proofs.YtpiagggnjppkhaaDoor
