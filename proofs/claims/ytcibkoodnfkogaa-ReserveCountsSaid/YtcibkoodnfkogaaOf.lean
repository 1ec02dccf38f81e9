/- The contracts of ops.shapes and ops.Of: the chapter's table. -/
import Derived.Test.YtcibkoodnfkogaaBase
namespace Go.Proofs.Ytcibkoodnfkogaa
open Go.RowKit
set_option linter.unusedVariables false
set_option linter.unusedSimpArgs false

set_option maxHeartbeats 400000 in
theorem three_any (s : ByteArray) (c : Int) (w : World) :
    Calls Try.prog 143 #[.string s, .int .i8 c] w fun e w' => e = .returned (.agg #[.string s, .int .i8 c, .bool true, .bool true, .bool true, .bool false, .bool false, .bool true]) ∧ Below w.heap.size w w' := by
  go_enter Try.func143, Try.ntmps143
  go_wp2
  exact bodyPost_ret (v := .agg #[.string s, .int .i8 c, .bool true, .bool true, .bool true, .bool false, .bool false, .bool true]) (by simp [results, Try.results143, go_sem]) rfl ⟨rfl, balloc (Below.refl _ _) _⟩

def shpsC : Array Value := (shps.flatMap Shp.cells).toArray
set_option maxHeartbeats 8000000 in
set_option maxRecDepth 100000 in
theorem shapes_any (w : World) : Calls Try.prog 134 #[] w fun e w' => e = .returned (.agg shpsC) ∧ Below w.heap.size w w' := by
  go_enter Try.func134, Try.ntmps134
  go_wp2_with fail
  go_at_call 143
  refine (three_any _ _ _).mono ?_
  rintro e w' ⟨rfl, hb⟩
  go_wp2_with fail
  refine (three_any _ _ _).mono ?_
  rintro e w' ⟨rfl, hb1⟩
  replace hb := btrans hb hb1
  clear hb1
  go_wp2_with fail
  refine (three_any _ _ _).mono ?_
  rintro e w' ⟨rfl, hb1⟩
  replace hb := btrans hb hb1
  clear hb1
  go_wp2_with fail
  refine (three_any _ _ _).mono ?_
  rintro e w' ⟨rfl, hb1⟩
  replace hb := btrans hb hb1
  clear hb1
  go_wp2_with fail
  refine (three_any _ _ _).mono ?_
  rintro e w' ⟨rfl, hb1⟩
  replace hb := btrans hb hb1
  clear hb1
  go_wp2_with fail
  refine (three_any _ _ _).mono ?_
  rintro e w' ⟨rfl, hb1⟩
  replace hb := btrans hb hb1
  clear hb1
  go_wp2_with fail
  refine (three_any _ _ _).mono ?_
  rintro e w' ⟨rfl, hb1⟩
  replace hb := btrans hb hb1
  clear hb1
  go_wp2_with fail
  refine (three_any _ _ _).mono ?_
  rintro e w' ⟨rfl, hb1⟩
  replace hb := btrans hb hb1
  clear hb1
  go_wp2_with fail
  refine (three_any _ _ _).mono ?_
  rintro e w' ⟨rfl, hb1⟩
  replace hb := btrans hb hb1
  clear hb1
  go_wp2_with fail
  refine (three_any _ _ _).mono ?_
  rintro e w' ⟨rfl, hb1⟩
  replace hb := btrans hb hb1
  clear hb1
  go_wp2_with fail
  refine (three_any _ _ _).mono ?_
  rintro e w' ⟨rfl, hb1⟩
  replace hb := btrans hb hb1
  clear hb1
  go_wp2_with fail
  refine (three_any _ _ _).mono ?_
  rintro e w' ⟨rfl, hb1⟩
  replace hb := btrans hb hb1
  clear hb1
  have hg := old_block hb
  have hB := below_old hb
  clear hb
  go_wp2_with (first | (with_reducible refine wpList_buildTo rfl 201 _ rfl _ rfl shpsC ?hf ?_) | (with_reducible refine wpList_store_rowTo rfl 201 _ _ rfl rfl w.heap.size shpsC ?hx ?hy 201 _ hg ?hi ?hold ?h1 ?_))
  case hf => kernel_rfl
  case hi => kernel_rfl
  case hold => kernel_rfl
  case h1 => kernel_rfl
  refine bodyPost_ret (v := .agg shpsC) (results_cell_row rfl _ _ w.heap.size 201 shpsC (0, 0) _ rfl (setRow_heap _ _ _ _ _ _ hg) Try.underlying201 rfl (by kernel_rfl)) rfl ⟨rfl, ?_⟩
  exact below_setRow hB (Nat.le_refl _) _
end Go.Proofs.Ytcibkoodnfkogaa
