/- wakes: what the document says of a few operations. -/
import Derived.Test.YtpiagggnjppkhaaDoorTx1
import Derived.Test.YtpiagggnjppkhaaDoorRRk
namespace Go.Proofs.YtpiagggnjppkhaaDoor
open Go.RowKit
set_option linter.unusedVariables false
set_option linter.unusedSimpArgs false
def wkOp : Op := ⟨15, 1, 2, 0, -8⟩
theorem wkOp_chk : chk wkOp = true := by decide +kernel
theorem wkOp_txt : txtS wkOp = ⟨#[108, 111, 97, 100, 32, 114, 49, 32, 114, 50, 32, 45, 56]⟩ := by
  have h1 : Lib.decDigits 1 = [49] := Lib.decDigits_one (by decide)
  have h2 : Lib.decDigits 2 = [50] := Lib.decDigits_one (by decide)
  have h8 : Lib.itoa (-8) = [45, 56] := by
    have := Lib.itoa_neg 8 (by decide)
    rw [Lib.decDigits_one (by decide)] at this
    exact this
  unfold txtS
  rw [wkOp_chk, if_pos rfl]
  have hs : shp wkOp.k = ⟨⟨#[108, 111, 97, 100]⟩, 2, true, true, false, false, true, true⟩ := by rfl
  rw [hs]
  show (⟨([108, 111, 97, 100] ++ ([32, 114] ++ Lib.decDigits 1) ++ ([32, 114] ++ Lib.decDigits 2) ++ [] ++ [] ++ ([32] ++ Lib.itoa (-8))).toArray⟩ : ByteArray) = _
  rw [h1, h2, h8]
  rfl
set_option maxHeartbeats 4000000 in
set_option maxRecDepth 100000 in
theorem wakes03_any (w : World) (htab : Lib.TabIs Tryd.prog w "internal/strconv.uint64pow10" .u64 Lib.pow10Tab) :
    Calls Tryd.prog 9 #[] w fun e w' => e = .returned (.bool true) ∧ Below w.heap.size w w' := by
  have C1 : Hid (∀ w' : World, Below w.heap.size w w' → Calls Tryd.prog 13 #[.agg #[.int .i8 15, .int .u8 1, .int .u8 2, .int .u8 0, .int .i64 (-8)]] w' fun e w2 => e = .returned (.tuple #[.string ⟨#[108, 111, 97, 100, 32, 114, 49, 32, 114, 50, 32, 45, 56]⟩, .int .i64 0]) ∧ Below w'.heap.size w' w2) := hid fun w' hb => by
    have := text_yes wkOp w' (by constructor <;> decide) wkOp_chk (Tab.keep htab hb)
    rw [wkOp_txt] at this
    exact this
  have C2 : Hid (∀ w' : World, Calls Tryd.prog 7 #[.int .i8 8, .int .i64 (-8), .int .i64 65] w' fun e w2 => e = .returned (.tuple #[.int .i64 (-4), .int .i64 0]) ∧ w' = w2) := hid fun w' => reckon_any 8 (-8) 65 w' (by decide) (by decide)
  have C3 : Hid (∀ w' : World, Calls Tryd.prog 14 #[.agg #[.int .i8 2, .int .u8 0, .int .u8 0, .int .u8 0, .int .i64 1]] w' fun e w2 => e = .returned (.int .i64 30) ∧ Below w'.heap.size w' w2) := hid fun w' => check_any ⟨2, 0, 0, 0, 1⟩ w' (by constructor <;> decide)
  clear htab
  go_enter Tryd.func9, Tryd.ntmps9
  go_wp2_with fail
  with_reducible refine (C1.out _ ?_).mono ?_
  · ((with_reducible (repeat (first | assumption | exact Below.refl _ _ | refine bset ?_ (Nat.le_refl _) _ | refine balloc ?_ _ | refine bdrew ?_ | refine bdrewN ?_ _))); done)
  rintro e w1 ⟨rfl, hb⟩
  have B1 := hid (btrans (a := w) (by ((with_reducible (repeat (first | assumption | exact Below.refl _ _ | refine bset ?_ (Nat.le_refl _) _ | refine balloc ?_ _ | refine bdrew ?_ | refine bdrewN ?_ _))); done)) hb)
  clear hb
  go_wp2_with fail
  with_reducible refine (C2.out _).mono ?_
  rintro e w2 ⟨rfl, rfl⟩
  go_wp2_with fail
  with_reducible refine (C3.out _).mono ?_
  rintro e w3 ⟨rfl, hb⟩
  go_wp2
  go_ret
  exact ⟨rfl, btrans B1.out hb⟩
set_option maxHeartbeats 4000000 in
set_option maxRecDepth 100000 in
theorem OpsReckon_walk (k a b : Int) (w : World) (htab : Lib.TabIs Tryd.prog w "internal/strconv.uint64pow10" .u64 Lib.pow10Tab) (_ : -9223372036854775808 ≤ a ∧ a ≤ 9223372036854775807) (hbb : -9223372036854775808 ≤ b ∧ b ≤ 9223372036854775807) :
    Calls Tryd.prog 3 #[.int .i8 k, .int .i64 a, .int .i64 b] w fun e w' => e = .returned (.bool true) ∧ Below w.heap.size w w' := by
  obtain ⟨hb0, hb1⟩ := hbb
  have C1 := hid (fun w => reckon_any k a b w hb0 hb1)
  have C2 : Hid (∀ w, Calls Tryd.prog 8 #[.int .i8 k, .int .i64 a, .int .i64 b] w fun e w' => e = .returned (.tuple #[.int .i64 (rckN k a b), .int .i64 (rckE k b)]) ∧ w = w') := hid (fun w => rreckon_any k a b w hb0 hb1)
  have CW := hid (fun w h => wakes03_any w h)
  have HT := hid htab
  clear htab hb0 hb1
  go_enter Tryd.func3, Tryd.ntmps3
  go_wp2_with fail
  with_reducible refine (C1.out _).mono ?_
  rintro e w1 ⟨rfl, rfl⟩
  go_wp2_with fail
  with_reducible refine (C2.out _).mono ?_
  rintro e w1 ⟨rfl, rfl⟩
  go_wp2_with fail
  with_reducible refine (CW.out _ HT.out).mono ?_
  rintro e w1 ⟨rfl, hb⟩
  go_wp2
  go_ret
  exact ⟨rfl, hb⟩
end Go.Proofs.YtpiagggnjppkhaaDoor
