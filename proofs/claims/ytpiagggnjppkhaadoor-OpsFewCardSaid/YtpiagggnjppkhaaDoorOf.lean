/- The contracts of ops.shapes and ops.Of: the chapter's table. -/
import Derived.Test.YtpiagggnjppkhaaDoorBase
namespace Go.Proofs.YtpiagggnjppkhaaDoor
open Go.RowKit
set_option linter.unusedVariables false
set_option linter.unusedSimpArgs false

set_option maxHeartbeats 400000 in
theorem three_any (s : ByteArray) (c : Int) (w : World) :
    Calls Tryd.prog 35 #[.string s, .int .i8 c] w fun e w' => e = .returned (.agg #[.string s, .int .i8 c, .bool true, .bool true, .bool true, .bool false, .bool false, .bool true]) ∧ Below w.heap.size w w' := by
  go_enter Tryd.func35, Tryd.ntmps35
  go_wp2
  exact bodyPost_ret (v := .agg #[.string s, .int .i8 c, .bool true, .bool true, .bool true, .bool false, .bool false, .bool true]) (by simp [results, Tryd.results35, go_sem]) rfl ⟨rfl, balloc (Below.refl _ _) _⟩

def zShp : Array Value := ((List.replicate 24 [Value.string ⟨#[]⟩, .int .i8 0, .bool false, .bool false, .bool false, .bool false, .bool false, .bool false]).flatten).toArray
theorem zShp_size : zShp.size = 192 := by kernel_rfl
theorem zShp_ne : ¬ zShp = #[] := fun h => by
  have := zShp_size
  rw [h] at this
  simp at this
theorem zShp_is : ∃ zs : Array Value, zs = zShp ∧ (∀ w, (zeroValue 62).run Tryd.prog w = .ok (.agg zs) w) ∧ zs.size = 192 ∧ ¬ zs = #[] := ⟨zShp, rfl, fun w => by kernel_rfl, zShp_size, zShp_ne⟩
def shpsC : Array Value := (shps.flatMap Shp.cells).toArray
set_option maxHeartbeats 8000000 in
set_option maxRecDepth 100000 in
theorem shapes_any (w : World) : Calls Tryd.prog 30 #[] w fun e w' => e = .returned (.agg shpsC) ∧ Below w.heap.size w w' := by
  obtain ⟨zs, hzz, hz, hzs, hzn⟩ := zShp_is
  have HZZ := hid hzz
  clear hzz
  go_enter Tryd.func30, Tryd.ntmps30
  go_wp2_with fail
  go_at_call 35
  refine (three_any _ _ _).mono ?_
  rintro e w' ⟨rfl, hb⟩
  go_wp2_with fail
  refine (three_any _ _ _).mono ?_
  rintro e w' ⟨rfl, hb1⟩
  replace hb := btrans hb hb1
  clear hb1
  go_wp2_with fail
  refine (three_any _ _ _).mono ?_
  rintro e w' ⟨rfl, hb1⟩
  replace hb := btrans hb hb1
  clear hb1
  go_wp2_with fail
  refine (three_any _ _ _).mono ?_
  rintro e w' ⟨rfl, hb1⟩
  replace hb := btrans hb hb1
  clear hb1
  go_wp2_with fail
  refine (three_any _ _ _).mono ?_
  rintro e w' ⟨rfl, hb1⟩
  replace hb := btrans hb hb1
  clear hb1
  go_wp2_with fail
  refine (three_any _ _ _).mono ?_
  rintro e w' ⟨rfl, hb1⟩
  replace hb := btrans hb hb1
  clear hb1
  go_wp2_with fail
  refine (three_any _ _ _).mono ?_
  rintro e w' ⟨rfl, hb1⟩
  replace hb := btrans hb hb1
  clear hb1
  go_wp2_with fail
  refine (three_any _ _ _).mono ?_
  rintro e w' ⟨rfl, hb1⟩
  replace hb := btrans hb hb1
  clear hb1
  go_wp2_with fail
  refine (three_any _ _ _).mono ?_
  rintro e w' ⟨rfl, hb1⟩
  replace hb := btrans hb hb1
  clear hb1
  go_wp2_with fail
  refine (three_any _ _ _).mono ?_
  rintro e w' ⟨rfl, hb1⟩
  replace hb := btrans hb hb1
  clear hb1
  go_wp2_with fail
  refine (three_any _ _ _).mono ?_
  rintro e w' ⟨rfl, hb1⟩
  replace hb := btrans hb hb1
  clear hb1
  go_wp2_with fail
  refine (three_any _ _ _).mono ?_
  rintro e w' ⟨rfl, hb1⟩
  replace hb := btrans hb hb1
  clear hb1
  have hg := old_block hb
  have hB := below_old hb
  clear hb
  go_wp2_with (first | (with_reducible refine wpList_buildTo rfl 62 _ rfl _ rfl shpsC ?hf ?_) | (with_reducible refine wpList_store_rowTo rfl 62 _ _ rfl rfl w.heap.size shpsC ?hx ?hy 62 _ hg ?hi ?hold ?h1 ?_))
  case hf => kernel_rfl
  case hi => kernel_rfl
  case hold => exact hzs.trans (by kernel_rfl)
  case h1 => kernel_rfl
  refine bodyPost_ret (v := .agg shpsC) (results_cell_row rfl _ _ w.heap.size 62 shpsC (0, 0) _ rfl (setRow_heap _ _ _ _ _ _ hg) Tryd.underlying62 rfl (by kernel_rfl)) rfl ⟨rfl, ?_⟩
  exact below_setRow hB (Nat.le_refl _) _
end Go.Proofs.YtpiagggnjppkhaaDoor
