/- Words of these proofs: operations, tables, shapes as plain data, and how they lie in memory. -/
import Derived.Test.YtcibkoodnfkogaaProg
import Derived.WalkKit
import Derived.WalkLawsBesides
import Derived.WalkSpells
import Derived.Below
import Derived.KernelRfl
import Derived.Outline
import Derived.OwnWalk
import Derived.RegionTactic
import Derived.ChangeAlike
import Derived.Deep.QuietTactic
import Derived.BigQuiet
import Derived.Great.BuildSlice
import Derived.Laws.Rows
import Derived.Laws.CopyOwn
import Derived.Deep.LoopGhost
import Derived.Deep.Cut
import Derived.Deep.DeepCutAuto
namespace Go.Proofs.Ytcibkoodnfkogaa
open Go.RowKit
set_option linter.unusedVariables false
set_option linter.unusedSimpArgs false
section
open Go.RowKit

/-- A kind of operation's row: name, class, which fields count, is it one. -/
structure Shp where
  name : ByteArray
  cls : Int
  d : Bool
  a : Bool
  b : Bool
  num : Bool
  imm : Bool
  is : Bool
def Shp.cells (s : Shp) : List Value := [.string s.name, .int .i8 s.cls, .bool s.d, .bool s.a, .bool s.b, .bool s.num, .bool s.imm, .bool s.is]
def Shp.val (s : Shp) : Value := .agg #[.string s.name, .int .i8 s.cls, .bool s.d, .bool s.a, .bool s.b, .bool s.num, .bool s.imm, .bool s.is]
def noShp : Shp := ⟨⟨#[]⟩, 0, false, false, false, false, false, false⟩
def shp3 (name : ByteArray) (cls : Int) : Shp := ⟨name, cls, true, true, true, false, false, true⟩
def shps : List Shp := [
  ⟨⟨#[110, 111, 112]⟩, -1, false, false, false, false, false, true⟩,
  ⟨⟨#[99, 111, 110, 115, 116]⟩, 0, true, false, false, false, true, true⟩,
  shp3 ⟨#[97, 100, 100]⟩ 0, shp3 ⟨#[115, 117, 98]⟩ 0, shp3 ⟨#[97, 110, 100]⟩ 0, shp3 ⟨#[111, 114]⟩ 0, shp3 ⟨#[120, 111, 114]⟩ 0,
  shp3 ⟨#[115, 104, 108]⟩ 0, shp3 ⟨#[115, 104, 114]⟩ 0, shp3 ⟨#[108, 101, 115, 115]⟩ 0, shp3 ⟨#[101, 113, 117, 97, 108]⟩ 0,
  ⟨⟨#[109, 111, 118, 101]⟩, 0, true, true, false, false, false, true⟩,
  shp3 ⟨#[116, 105, 109, 101, 115]⟩ 1, shp3 ⟨#[100, 105, 118, 105, 100, 101]⟩ 1, shp3 ⟨#[114, 101, 115, 116]⟩ 1,
  ⟨⟨#[108, 111, 97, 100]⟩, 2, true, true, false, false, true, true⟩,
  ⟨⟨#[115, 116, 111, 114, 101]⟩, 2, false, true, true, false, true, true⟩,
  ⟨⟨#[112, 114, 105, 110, 116]⟩, 2, false, true, false, false, false, true⟩,
  ⟨⟨#[106, 117, 109, 112]⟩, 3, false, false, false, false, true, true⟩,
  ⟨⟨#[98, 114, 97, 110, 99, 104]⟩, 3, false, true, false, false, true, true⟩,
  ⟨⟨#[104, 97, 108, 116]⟩, 3, false, true, false, false, false, true⟩,
  ⟨⟨#[99, 111, 117, 110, 116]⟩, 3, false, true, false, false, true, true⟩,
  ⟨⟨#[115, 104, 111, 114, 116]⟩, 3, false, true, false, true, true, true⟩,
  ⟨⟨#[97, 103, 97, 105, 110]⟩, 3, false, false, false, false, true, true⟩]
/-- The row of a kind; of none: nothing. -/
def shp (k : Int) : Shp := if 0 ≤ k ∧ k < 24 then shps.getD k.toNat noShp else noShp
def isK (k : Int) : Bool := decide (0 ≤ k) && decide (k < 24)

/-- An operation. -/
structure Op where
  k : Int
  d : Int
  a : Int
  b : Int
  n : Int
deriving DecidableEq
def Op.cells (o : Op) : List Value := [.int .i8 o.k, .int .u8 o.d, .int .u8 o.a, .int .u8 o.b, .int .i64 o.n]
abbrev Op.val (o : Op) : Value := .agg #[.int .i8 o.k, .int .u8 o.d, .int .u8 o.a, .int .u8 o.b, .int .i64 o.n]
/-- Its fields are numbers of their kinds. -/
structure Op.wf (o : Op) : Prop where
  k0 : -128 ≤ o.k
  k1 : o.k ≤ 127
  d0 : 0 ≤ o.d
  d1 : o.d ≤ 255
  a0 : 0 ≤ o.a
  a1 : o.a ≤ 255
  b0 : 0 ≤ o.b
  b1 : o.b ≤ 255
  n0 : -9223372036854775808 ≤ o.n
  n1 : o.n ≤ 9223372036854775807

theorem bcell {W w1 : World} (hb : Below W.heap.size W w1) : (∀ b o, b < W.heap.size → w1.cell? ⟨b, o, none⟩ = W.cell? ⟨b, o, none⟩) ∧ (∀ b o, b < W.heap.size → w1.frozen? ⟨b, o, none⟩ = W.frozen? ⟨b, o, none⟩) :=
  ⟨fun b o h => hb.cell (p := ⟨b, o, none⟩) h, fun b o h => hb.frozen (p := ⟨b, o, none⟩) h⟩
theorem below_drewN {B : Nat} {a w : World} (h : Below B a w) (n : Nat) : Below B a (w.drewN n) := h.trans ⟨rfl, rfl, rfl, Nat.le_refl _, fun _ _ => rfl⟩
theorem balloc {a w : World} (h : Below a.heap.size a w) (o : Obj) : Below a.heap.size a (w.alloc o) := h.alloc h.size o
theorem bdrew {a w : World} (h : Below a.heap.size a w) : Below a.heap.size a w.drew := h.drew
theorem bdrewN {a w : World} (h : Below a.heap.size a w) (n : Nat) : Below a.heap.size a (w.drewN n) := below_drewN h n
theorem bset {a w : World} (h : Below a.heap.size a w) {p : Addr} (hp : a.heap.size ≤ p.block) (u : Value) : Below a.heap.size a (w.setCell p u) := h.setCell hp u
theorem btrans {a w w' : World} (h : Below a.heap.size a w) (k : Below w.heap.size w w') : Below a.heap.size a w' := h.trans (k.mono h.size)
theorem old_block {w w' : World} {o : Obj} (h : Below (w.alloc o).heap.size (w.alloc o) w') : w'.heap[w.heap.size]? = some o := by
  rw [h.block _ (by simp)]
  exact heap_alloc_new w o
theorem below_old {w w' : World} {o : Obj} (h : Below (w.alloc o).heap.size (w.alloc o) w') : Below w.heap.size w w' := btrans (balloc (Below.refl _ _) o) h
theorem bsize {w w' : World} {o : Obj} (h : Below (w.alloc o).heap.size (w.alloc o) w') : w.heap.size < w'.heap.size := by
  have := h.size
  simp at this
  omega
theorem ret_int {k : IntKind} {a b : Int} (h : a = b) : Ending.returned (.int k a) = .returned (.int k b) := by rw [h]
theorem ret_bool {a b : Bool} (h : a = b) : Ending.returned (.bool a) = .returned (.bool b) := by rw [h]
theorem below_step {w w1 w2 : World} {o : Obj} (h : Below w.heap.size w w1) (k : Below (w1.alloc o).heap.size (w1.alloc o) w2) : Below w.heap.size w w2 := btrans (balloc h o) k
/-- The slice value v reads, in w, as these numbers of kind k; its cells lie from block B on. -/
def Ints (k : IntKind) (w : World) (B : Nat) (v : Value) (l : List Int) : Prop :=
  ∃ A cap, v = .slice A l.length cap ∧ l.length ≤ cap ∧ (l ≠ [] → ∃ g off, A = some ⟨g, off, none⟩ ∧ B ≤ g ∧ ∀ j x, l[j]? = some x → w.cell? ⟨g, off + j, none⟩ = some (.int k x))
theorem Ints.nil (k : IntKind) (w : World) (B : Nat) : Ints k w B (.slice none 0 0) [] := ⟨none, 0, rfl, Nat.le_refl _, fun h => absurd rfl h⟩
theorem Ints.keep {k : IntKind} {w w' : World} {B : Nat} {v : Value} {l : List Int} (h : Ints k w B v l) (hb : Below w.heap.size w w') : Ints k w' B v l := by
  obtain ⟨A, cap, hv, hc, hn⟩ := h
  refine ⟨A, cap, hv, hc, fun hl => ?_⟩
  obtain ⟨g, off, ha, hg, hcell⟩ := hn hl
  refine ⟨g, off, ha, hg, fun j x hj => ?_⟩
  have h := hcell j x hj
  rw [hb.cell (World.block_lt_of_cell? w _ h)]
  exact h
theorem hid {p : Prop} (h : p) : Hid p := h
end
/- The contracts of ops.shapes and ops.Of: the chapter's table. -/
section
open Go.RowKit

set_option maxHeartbeats 400000 in
theorem three_any (s : ByteArray) (c : Int) (w : World) :
    Calls Try.prog 143 #[.string s, .int .i8 c] w fun e w' => e = .returned (.agg #[.string s, .int .i8 c, .bool true, .bool true, .bool true, .bool false, .bool false, .bool true]) ∧ Below w.heap.size w w' := by
  go_enter Try.func143, Try.ntmps143
  go_wp2
  exact bodyPost_ret (v := .agg #[.string s, .int .i8 c, .bool true, .bool true, .bool true, .bool false, .bool false, .bool true]) (by simp [results, Try.results143, go_sem]) rfl ⟨rfl, balloc (Below.refl _ _) _⟩

def shpsC : Array Value := (shps.flatMap Shp.cells).toArray
set_option maxHeartbeats 8000000 in
set_option maxRecDepth 100000 in
theorem shapes_any (w : World) : Calls Try.prog 134 #[] w fun e w' => e = .returned (.agg shpsC) ∧ Below w.heap.size w w' := by
  go_enter Try.func134, Try.ntmps134
  go_wp2_with fail
  go_at_call 143
  refine (three_any _ _ _).mono ?_
  rintro e w' ⟨rfl, hb⟩
  go_wp2_with fail
  refine (three_any _ _ _).mono ?_
  rintro e w' ⟨rfl, hb1⟩
  replace hb := btrans hb hb1
  clear hb1
  go_wp2_with fail
  refine (three_any _ _ _).mono ?_
  rintro e w' ⟨rfl, hb1⟩
  replace hb := btrans hb hb1
  clear hb1
  go_wp2_with fail
  refine (three_any _ _ _).mono ?_
  rintro e w' ⟨rfl, hb1⟩
  replace hb := btrans hb hb1
  clear hb1
  go_wp2_with fail
  refine (three_any _ _ _).mono ?_
  rintro e w' ⟨rfl, hb1⟩
  replace hb := btrans hb hb1
  clear hb1
  go_wp2_with fail
  refine (three_any _ _ _).mono ?_
  rintro e w' ⟨rfl, hb1⟩
  replace hb := btrans hb hb1
  clear hb1
  go_wp2_with fail
  refine (three_any _ _ _).mono ?_
  rintro e w' ⟨rfl, hb1⟩
  replace hb := btrans hb hb1
  clear hb1
  go_wp2_with fail
  refine (three_any _ _ _).mono ?_
  rintro e w' ⟨rfl, hb1⟩
  replace hb := btrans hb hb1
  clear hb1
  go_wp2_with fail
  refine (three_any _ _ _).mono ?_
  rintro e w' ⟨rfl, hb1⟩
  replace hb := btrans hb hb1
  clear hb1
  go_wp2_with fail
  refine (three_any _ _ _).mono ?_
  rintro e w' ⟨rfl, hb1⟩
  replace hb := btrans hb hb1
  clear hb1
  go_wp2_with fail
  refine (three_any _ _ _).mono ?_
  rintro e w' ⟨rfl, hb1⟩
  replace hb := btrans hb hb1
  clear hb1
  go_wp2_with fail
  refine (three_any _ _ _).mono ?_
  rintro e w' ⟨rfl, hb1⟩
  replace hb := btrans hb hb1
  clear hb1
  have hg := old_block hb
  have hB := below_old hb
  clear hb
  go_wp2_with (first | (with_reducible refine wpList_buildTo rfl 201 _ rfl _ rfl shpsC ?hf ?_) | (with_reducible refine wpList_store_rowTo rfl 201 _ _ rfl rfl w.heap.size shpsC ?hx ?hy 201 _ hg ?hi ?hold ?h1 ?_))
  case hf => kernel_rfl
  case hi => kernel_rfl
  case hold => kernel_rfl
  case h1 => kernel_rfl
  refine bodyPost_ret (v := .agg shpsC) (results_cell_row rfl _ _ w.heap.size 201 shpsC (0, 0) _ rfl (setRow_heap _ _ _ _ _ _ hg) Try.underlying201 rfl (by kernel_rfl)) rfl ⟨rfl, ?_⟩
  exact below_setRow hB (Nat.le_refl _) _
end
/- The contracts of ops.Of: the chapter's table. -/
section
open Go.RowKit

theorem index_shp (k : Int) (h0 : 0 ≤ k) (h1 : k < 24) (w : World) : (Instr.index 201 (.agg shpsC) (.int .i8 k)).run Try.prog w = .ok (.agg #[.string (shp k).name, .int .i8 (shp k).cls, .bool (shp k).d, .bool (shp k).a, .bool (shp k).b, .bool (shp k).num, .bool (shp k).imm, .bool (shp k).is]) w := by
  have h : k = 0 ∨ k = 1 ∨ k = 2 ∨ k = 3 ∨ k = 4 ∨ k = 5 ∨ k = 6 ∨ k = 7 ∨ k = 8 ∨ k = 9 ∨ k = 10 ∨ k = 11 ∨ k = 12 ∨ k = 13 ∨ k = 14 ∨ k = 15 ∨ k = 16 ∨ k = 17 ∨ k = 18 ∨ k = 19 ∨ k = 20 ∨ k = 21 ∨ k = 22 ∨ k = 23 := by omega
  rcases h with rfl | rfl | rfl | rfl | rfl | rfl | rfl | rfl | rfl | rfl | rfl | rfl | rfl | rfl | rfl | rfl | rfl | rfl | rfl | rfl | rfl | rfl | rfl | rfl <;> (show _ = _; kernel_rfl)
theorem shp_is (k : Int) (h0 : 0 ≤ k) (h1 : k < 24) : (shp k).is = true := by
  have h : k = 0 ∨ k = 1 ∨ k = 2 ∨ k = 3 ∨ k = 4 ∨ k = 5 ∨ k = 6 ∨ k = 7 ∨ k = 8 ∨ k = 9 ∨ k = 10 ∨ k = 11 ∨ k = 12 ∨ k = 13 ∨ k = 14 ∨ k = 15 ∨ k = 16 ∨ k = 17 ∨ k = 18 ∨ k = 19 ∨ k = 20 ∨ k = 21 ∨ k = 22 ∨ k = 23 := by omega
  rcases h with rfl | rfl | rfl | rfl | rfl | rfl | rfl | rfl | rfl | rfl | rfl | rfl | rfl | rfl | rfl | rfl | rfl | rfl | rfl | rfl | rfl | rfl | rfl | rfl <;> rfl
theorem shp_none (k : Int) (h : ¬ (0 ≤ k ∧ k < 24)) : shp k = noShp := by unfold shp; rw [if_neg h]

set_option maxHeartbeats 4000000 in
set_option maxRecDepth 100000 in
theorem of_none (k : Int) (w : World) (h : ¬ (0 ≤ k ∧ k < 24)) : Calls Try.prog 105 #[.int .i8 k] w fun e w' => e = .returned (.tuple #[noShp.val, .bool false]) ∧ Below w.heap.size w w' := by
  by_cases h0 : k < 0
  · clear h
    go_enter Try.func105, Try.ntmps105
    go_wp2
    refine bodyPost_ret (v := .tuple #[noShp.val, .bool false]) (by simp [results, Try.results105, go_sem, noShp, Shp.val]) rfl ⟨rfl, ?_⟩
    exact balloc (Below.refl _ _) _
  · have h1 : 24 ≤ k := by omega
    clear h
    go_enter Try.func105, Try.ntmps105
    go_wp2
    refine bodyPost_ret (v := .tuple #[noShp.val, .bool false]) (by simp [results, Try.results105, go_sem, noShp, Shp.val]) rfl ⟨rfl, ?_⟩
    exact balloc (Below.refl _ _) _
set_option maxHeartbeats 4000000 in
set_option maxRecDepth 100000 in
theorem of_some (k : Int) (w : World) (h0 : 0 ≤ k) (h1 : k < 24) : Calls Try.prog 105 #[.int .i8 k] w fun e w' => e = .returned (.tuple #[(shp k).val, .bool (shp k).is]) ∧ Below w.heap.size w w' := by
  have hix := index_shp k h0 h1
  go_enter Try.func105, Try.ntmps105
  go_wp2_with (go_at_call 134; refine (shapes_any _).mono ?_; rintro e w' ⟨rfl, hb⟩; obtain ⟨hc, hf⟩ := bcell hb; have hz := bsize hb)
  clear hix
  go_region
  all_goals go_wp2
  all_goals
    refine bodyPost_ret (v := .tuple #[(shp k).val, .bool (shp k).is]) (by simp [results, Try.results105, go_sem, Shp.val, hc, hz]) rfl ⟨rfl, ?_⟩
  all_goals
    have hB := below_old hb
    ((with_reducible (repeat (first | assumption | exact Below.refl _ _ | refine bset ?_ (Nat.le_refl _) _ | refine balloc ?_ _ | refine bdrew ?_ | refine bdrewN ?_ _))); done)
/-- ops.Of. -/
theorem of_any (k : Int) (w : World) : Calls Try.prog 105 #[.int .i8 k] w fun e w' => e = .returned (.tuple #[.agg #[.string (shp k).name, .int .i8 (shp k).cls, .bool (shp k).d, .bool (shp k).a, .bool (shp k).b, .bool (shp k).num, .bool (shp k).imm, .bool (shp k).is], .bool (isK k)]) ∧ Below w.heap.size w w' := by
  by_cases h : 0 ≤ k ∧ k < 24
  · have e : isK k = (shp k).is := by rw [shp_is k h.1 h.2]; unfold isK; rw [decide_eq_true h.1, decide_eq_true h.2]; rfl
    rw [e]
    exact of_some k w h.1 h.2
  · have e : isK k = false := by
      unfold isK
      by_cases h0 : 0 ≤ k
      · rw [decide_eq_false (fun h1 => h ⟨h0, h1⟩), Bool.and_false]
      · rw [decide_eq_false h0, Bool.false_and]
    rw [e, shp_none k h]
    exact of_none k w h
end
/- The contracts of bits.Fits at 32 bits and of ops.Check. -/
section
open Go.RowKit

def fits32 (n : Int) : Bool := decide (-2147483648 ≤ n) && decide (n ≤ 2147483647)
/-- Is it an operation? -/
def chk (o : Op) : Bool := isK o.k && decide (o.d ≤ 31) && decide (o.a ≤ 31) && decide (o.b ≤ 31) && fits32 o.n &&
  ((shp o.k).d || o.d == 0) && ((shp o.k).a || o.a == 0) && ((shp o.k).b || (shp o.k).num || o.b == 0) && ((shp o.k).imm || o.n == 0)

theorem wrap_u64 (n : Int) : IntKind.u64.wrap n = n % 18446744073709551616 := by simp [IntKind.wrap, IntKind.bits, IntKind.signed]
theorem sg32 (x : Int) (h0 : -9223372036854775808 ≤ x) (h1 : x ≤ 9223372036854775807) : (wrap64 (x % 18446744073709551616 * 4294967296 % 18446744073709551616) / 4294967296 == x) = fits32 x := by
  rw [Bool.eq_iff_iff]
  simp only [fits32, beq_iff_eq, Bool.and_eq_true, decide_eq_true_eq]
  unfold wrap64
  omega
set_option maxHeartbeats 4000000 in
set_option maxRecDepth 100000 in
theorem fits_any (x : Int) (w : World) (h0 : -9223372036854775808 ≤ x) (h1 : x ≤ 9223372036854775807) :
    Calls Try.prog 106 #[.int .i64 x, .int .i64 32] w fun e w' => e = .returned (.bool (fits32 x)) ∧ Below w.heap.size w w' := by
  go_enter Try.func106, Try.ntmps106
  go_wp2
  go_ret
  refine ⟨ret_bool ?_, Below.refl _ _⟩
  rw [← sg32 x h0 h1]
  simp only [wrap_u64]
/-- The error of an operation. -/
def chkE (o : Op) : Int := if chk o then 0 else 30
set_option maxHeartbeats 4000000 in
set_option maxRecDepth 100000 in
theorem check_any (o : Op) (w : World) (ho : o.wf) :
    Calls Try.prog 72 #[o.val] w fun e w' => e = .returned (.int .i64 (chkE o)) ∧ Below w.heap.size w w' := by
  obtain ⟨k, d, a, b, n⟩ := o
  obtain ⟨_, _, d0, d1, a0, a1, b0, b1, n0, n1⟩ := ho
  simp only [Op.val] at *
  cases hk : isK k
  · go_enter Try.func72, Try.ntmps72
    go_wp2_with (go_at_call 105; refine (of_any _ _).mono ?_; rintro e w' ⟨rfl, hb⟩; obtain ⟨hc, hf⟩ := bcell hb; have hz := bsize hb)
    go_ret
    refine ⟨ret_int (by simp [chkE, chk, hk]), ?_⟩
    have hB := below_old hb
    ((with_reducible (repeat (first | assumption | exact Below.refl _ _ | refine bset ?_ (Nat.le_refl _) _ | refine balloc ?_ _ | refine bdrew ?_ | refine bdrewN ?_ _))); done)
  cases hn : fits32 n
  · go_enter Try.func72, Try.ntmps72
    go_wp2_with (first | (go_at_call 105; refine (of_any _ _).mono ?_; rintro e w' ⟨rfl, hb⟩; obtain ⟨hc, hf⟩ := bcell hb; have hz := bsize hb) | (go_at_call 106; refine (fits_any _ _ (by omega) (by omega)).mono ?_; rintro e w' ⟨rfl, hb2⟩; obtain ⟨hc2, hf2⟩ := bcell hb2; have hz2 := bsize hb2))
    all_goals go_ret
    all_goals refine ⟨ret_int (by simp [chkE, chk, hn]), ?_⟩
    all_goals have hB := below_old hb
    all_goals first | (have hB := below_step hB hb2; ((with_reducible (repeat (first | assumption | exact Below.refl _ _ | refine bset ?_ (Nat.le_refl _) _ | refine balloc ?_ _ | refine bdrew ?_ | refine bdrewN ?_ _))); done)) | ((with_reducible (repeat (first | assumption | exact Below.refl _ _ | refine bset ?_ (Nat.le_refl _) _ | refine balloc ?_ _ | refine bdrew ?_ | refine bdrewN ?_ _))); done)
  by_cases hd : d ≤ 31
  · by_cases ha : a ≤ 31
    · by_cases hbb : b ≤ 31
      · go_enter Try.func72, Try.ntmps72
        go_wp2_with (first | (go_at_call 105; refine (of_any _ _).mono ?_; rintro e w' ⟨rfl, hb⟩; obtain ⟨hc, hf⟩ := bcell hb; have hz := bsize hb) | (go_at_call 106; refine (fits_any _ _ (by omega) (by omega)).mono ?_; rintro e w' ⟨rfl, hb2⟩; obtain ⟨hc2, hf2⟩ := bcell hb2; have hz2 := bsize hb2))
        all_goals go_ret
        all_goals refine ⟨ret_int ?_, ?_⟩
        all_goals first | (show Below _ _ _; have hB := below_old hb; have hB := below_step hB hb2; ((with_reducible (repeat (first | assumption | exact Below.refl _ _ | refine bset ?_ (Nat.le_refl _) _ | refine balloc ?_ _ | refine bdrew ?_ | refine bdrewN ?_ _))); done)) | (clear hb hc hf hb2 hc2 hf2; simp_all [chkE, chk])
      · have hq : chkE ⟨k, d, a, b, n⟩ = 30 := by unfold chkE chk; rw [if_neg (by simp; omega)]
        rw [hq]
        clear hq
        go_enter Try.func72, Try.ntmps72
        go_wp2_with (go_at_call 105; refine (of_any _ _).mono ?_; rintro e w' ⟨rfl, hb⟩; obtain ⟨hc, hf⟩ := bcell hb; have hz := bsize hb)
        all_goals go_ret
        all_goals refine ⟨rfl, ?_⟩
        all_goals have hB := below_old hb
        all_goals ((with_reducible (repeat (first | assumption | exact Below.refl _ _ | refine bset ?_ (Nat.le_refl _) _ | refine balloc ?_ _ | refine bdrew ?_ | refine bdrewN ?_ _))); done)
    · have hq : chkE ⟨k, d, a, b, n⟩ = 30 := by unfold chkE chk; rw [if_neg (by simp; omega)]
      rw [hq]
      clear hq
      go_enter Try.func72, Try.ntmps72
      go_wp2_with (go_at_call 105; refine (of_any _ _).mono ?_; rintro e w' ⟨rfl, hb⟩; obtain ⟨hc, hf⟩ := bcell hb; have hz := bsize hb)
      all_goals go_ret
      all_goals refine ⟨rfl, ?_⟩
      all_goals have hB := below_old hb
      all_goals ((with_reducible (repeat (first | assumption | exact Below.refl _ _ | refine bset ?_ (Nat.le_refl _) _ | refine balloc ?_ _ | refine bdrew ?_ | refine bdrewN ?_ _))); done)
  · have hq : chkE ⟨k, d, a, b, n⟩ = 30 := by unfold chkE chk; rw [if_neg (by simp; omega)]
    rw [hq]
    clear hq
    go_enter Try.func72, Try.ntmps72
    go_wp2_with (go_at_call 105; refine (of_any _ _).mono ?_; rintro e w' ⟨rfl, hb⟩; obtain ⟨hc, hf⟩ := bcell hb; have hz := bsize hb)
    all_goals go_ret
    all_goals refine ⟨rfl, ?_⟩
    all_goals have hB := below_old hb
    all_goals ((with_reducible (repeat (first | assumption | exact Below.refl _ _ | refine bset ?_ (Nat.le_refl _) _ | refine balloc ?_ _ | refine bdrew ?_ | refine bdrewN ?_ _))); done)
end
/- More words: lists of operations in memory. -/
section
open Go.RowKit
/-- An operation's five cells lie at block g from place o on. -/
structure OpAt (w : World) (g o : Nat) (x : Op) : Prop where
  c0 : w.cell? ⟨g, o, none⟩ = some (.int .i8 x.k)
  c1 : w.cell? ⟨g, o + 1, none⟩ = some (.int .u8 x.d)
  c2 : w.cell? ⟨g, o + 2, none⟩ = some (.int .u8 x.a)
  c3 : w.cell? ⟨g, o + 3, none⟩ = some (.int .u8 x.b)
  c4 : w.cell? ⟨g, o + 4, none⟩ = some (.int .i64 x.n)
theorem OpAt.keep {w w' : World} {g o : Nat} {x : Op} (h : OpAt w g o x) (hb : Below w.heap.size w w') : OpAt w' g o x := by
  have hg : g < w.heap.size := World.block_lt_of_cell? w _ h.c0
  exact ⟨(hb.cell (p := ⟨g, o, none⟩) hg).trans h.c0, (hb.cell (p := ⟨g, o + 1, none⟩) hg).trans h.c1, (hb.cell (p := ⟨g, o + 2, none⟩) hg).trans h.c2, (hb.cell (p := ⟨g, o + 3, none⟩) hg).trans h.c3, (hb.cell (p := ⟨g, o + 4, none⟩) hg).trans h.c4⟩
/-- A list of operations lies from address A on. -/
def OpsIn (w : World) (A : Option Addr) (l : List Op) : Prop :=
  l ≠ [] → ∃ g off, A = some ⟨g, off, none⟩ ∧ ∀ i x, l[i]? = some x → OpAt w g (off + i * 5) x
theorem OpsIn.keep {w w' : World} {A : Option Addr} {l : List Op} (h : OpsIn w A l) (hb : Below w.heap.size w w') : OpsIn w' A l := fun hl => by
  obtain ⟨g, off, ha, hx⟩ := h hl
  exact ⟨g, off, ha, fun i x hi => (hx i x hi).keep hb⟩
theorem OpsIn.get {w : World} {A : Option Addr} {l : List Op} (h : OpsIn w A l) (i : Nat) (hi : i < l.length) :
    ∃ g off, A = some ⟨g, off, none⟩ ∧ OpAt w g (off + i * 5) l[i] := by
  obtain ⟨g, off, ha, hx⟩ := h (by rintro rfl; simp at hi)
  exact ⟨g, off, ha, hx i l[i] (List.getElem?_eq_getElem hi)⟩
theorem bset_lt {a w : World} (h : Below a.heap.size a w) {p : Addr} (hp : a.heap.size ≤ p.block) (u : Value) : Below a.heap.size a (w.setCell p u) := h.setCell hp u
theorem cell_keep {w w' : World} {a : Addr} {v : Value} (h : w.cell? a = some v) (hb : Below w.heap.size w w') : w'.cell? a = some v := by
  rw [hb.cell (World.block_lt_of_cell? w a h)]
  exact h
end
/- Programs as plain data; the contracts of program.all, of, fits. -/
section
open Go.RowKit
/-- Is it an operation of a program? -/
def opOk (o : Op) : Bool := decide (1 ≤ o.k) && decide (o.k ≤ 17) && chk o
def allOk (l : List Op) : Bool := l.all opOk
theorem allOk_no {l : List Op} {i : Nat} (hi : i < l.length) (h : opOk l[i] = false) : allOk l = false := by
  rw [Bool.eq_false_iff]
  intro ha
  have := List.all_eq_true.1 ha l[i] (List.getElem_mem hi)
  rw [h] at this
  cases this
theorem allOk_yes {l : List Op} (h : ∀ j (hj : j < l.length), opOk l[j] = true) : allOk l = true := by
  refine List.all_eq_true.2 fun o hm => ?_
  obtain ⟨j, hj, rfl⟩ := List.getElem_of_mem hm
  exact h j hj
set_option maxHeartbeats 4000000 in
set_option maxRecDepth 100000 in
theorem all_any (A : Option Addr) (l : List Op) (cap : Nat) (w : World) (hl : OpsIn w A l) (hw : ∀ o ∈ l, o.wf) (hm : l.length ≤ 1000000000000000000) :
    Calls Try.prog 74 #[.slice A l.length cap] w fun e w' => e = .returned (.bool (allOk l)) ∧ Below w.heap.size w w' := by
  have HL := hid hl
  have HW := hid hw
  clear hl hw
  go_enter Try.func74, Try.ntmps74
  go_wp2
  go_loopg [7] l.length (fun g v wr => ∃ i : Nat, i ≤ l.length ∧ v = .int .i64 i ∧ Hid (g + i = l.length) ∧ Hid (∀ j (hj : j < i) (hj2 : j < l.length), opOk l[j] = true) ∧ Below w.heap.size w wr)
  case atStart => exact ⟨0, by omega, rfl, by exact Nat.add_zero _, fun j hj => by omega, Below.refl _ _⟩
  case round =>
    obtain ⟨i, hi, rfl, hg, hall, hbw⟩ := hrel
    by_cases hlt : i < l.length
    · obtain ⟨g, off, rfl, hop⟩ := (OpsIn.keep HL.out hbw).get i hlt
      obtain ⟨c0, c1, c2, c3, c4⟩ := hop
      have hwf := hid (HW.out l[i] (List.getElem_mem hlt))
      have hb0 := hbw
      by_cases h1 : l[i].k < 1
      · have e0 := hid (allOk_no hlt (show opOk l[i] = false by unfold opOk; rw [decide_eq_false (by omega)]; rfl))
        go_wp2
        go_ret
        refine ⟨ret_bool e0.out.symm, ?_⟩
        ((with_reducible (repeat (first | assumption | exact Below.refl _ _ | refine bset ?_ (Nat.le_refl _) _ | refine balloc ?_ _ | refine bdrew ?_ | refine bdrewN ?_ _))); done)
      by_cases h2 : 17 < l[i].k
      · have e0 := hid (allOk_no hlt (show opOk l[i] = false by unfold opOk; rw [decide_eq_false (show ¬ l[i].k ≤ 17 by omega), Bool.and_false]; rfl))
        go_wp2
        go_ret
        refine ⟨ret_bool e0.out.symm, ?_⟩
        ((with_reducible (repeat (first | assumption | exact Below.refl _ _ | refine bset ?_ (Nat.le_refl _) _ | refine balloc ?_ _ | refine bdrew ?_ | refine bdrewN ?_ _))); done)
      have hck := fun w => check_any l[i] w hwf.out
      cases h3 : chk l[i]
      · have e0 := hid (allOk_no hlt (show opOk l[i] = false by unfold opOk; rw [h3, Bool.and_false]))
        have e1 : chkE l[i] = 30 := by unfold chkE; rw [h3]; rfl
        rw [e1] at hck
        have HC := hid hck
        clear e1 hck h3
        go_wp2_with (go_at_call 72; (with_reducible refine (HC.out _).mono ?_); rintro e w' ⟨rfl, hb⟩)
        go_ret
        exact ⟨ret_bool e0.out.symm, below_step hb0 hb⟩
      · have e0 := hid (show opOk l[i] = true by unfold opOk; rw [h3, decide_eq_true (by omega), decide_eq_true (show l[i].k ≤ 17 by omega)]; rfl)
        have e1 : chkE l[i] = 0 := by unfold chkE; rw [h3]; rfl
        rw [e1] at hck
        have HC := hid hck
        clear e1 hck h3
        go_wp2_with (go_at_call 72; (with_reducible refine (HC.out _).mono ?_); rintro e w' ⟨rfl, hb⟩)
        go_roundg (l.length - (i + 1))
        case measure => have := hg.out; omega
        case rel =>
          refine ⟨i + 1, by omega, by go_num, by show _ + _ = _; omega, fun j hj hj2 => ?_, below_step hb0 hb⟩
          by_cases h : j < i
          · exact hall.out j h hj2
          · obtain rfl : j = i := by omega
            exact e0.out
    · obtain rfl : i = l.length := by omega
      have e0 := hid (allOk_yes (l := l) fun j hj => hall.out j hj hj)
      go_wp2
      go_ret
      exact ⟨ret_bool e0.out.symm, hbw⟩
/-- Is a number below another one; or 0, if it does not count? -/
def fitsB (n : Int) (c : Bool) (below : Int) : Bool := if c then decide (0 ≤ n) && decide (n < below) else n == 0
set_option maxHeartbeats 4000000 in
set_option maxRecDepth 100000 in
theorem pfits_any (n below : Int) (c : Bool) (w : World) :
    Calls Try.prog 109 #[.int .i64 n, .bool c, .int .i64 below] w fun e w' => e = .returned (.bool (fitsB n c below)) ∧ w = w' := by
  cases c
  · go_enter Try.func109, Try.ntmps109
    go_wp2
    go_ret
    exact ⟨rfl, rfl⟩
  · by_cases h : 0 ≤ n
    · have e : fitsB n true below = decide (n < below) := by unfold fitsB; rw [decide_eq_true h]; rfl
      rw [e]
      clear e
      go_enter Try.func109, Try.ntmps109
      go_wp2
      go_ret
      exact ⟨rfl, rfl⟩
    · have e : fitsB n true below = false := by unfold fitsB; rw [decide_eq_false h]; rfl
      rw [e]
      clear e
      go_enter Try.func109, Try.ntmps109
      go_wp2
      go_ret
      exact ⟨rfl, rfl⟩
/-- What counts of an end: a, then, other, body. -/
def endA (k : Int) : Bool := !(k == 0)
def endT (k : Int) : Bool := !(k == 2)
def endO (k : Int) : Bool := k == 1
def endY (k : Int) : Bool := k == 3
set_option maxHeartbeats 4000000 in
set_option maxRecDepth 100000 in
theorem of_end (k : Int) (w : World) (h : k = 0 ∨ k = 1 ∨ k = 2 ∨ k = 3) :
    Calls Try.prog 108 #[.int .i8 k] w fun e w' => e = .returned (.tuple #[.agg #[.bool (endA k), .bool (endT k), .bool (endO k), .bool (endY k)], .bool true]) ∧ Below w.heap.size w w' := by
  rcases h with rfl | rfl | rfl | rfl
  all_goals
    go_enter Try.func108, Try.ntmps108
    go_wp2
    refine bodyPost_ret (v := .tuple #[.agg #[_, _, _, _], .bool true]) (by simp [results, Try.results108, go_sem]; first | rfl | exact ⟨rfl, rfl, rfl, rfl⟩) rfl ⟨rfl, ?_⟩
    ((with_reducible (repeat (first | assumption | exact Below.refl _ _ | refine bset ?_ (Nat.le_refl _) _ | refine balloc ?_ _ | refine bdrew ?_ | refine bdrewN ?_ _))); done)
set_option maxHeartbeats 4000000 in
set_option maxRecDepth 100000 in
theorem of_noend (k : Int) (w : World) (h : k < 0 ∨ 3 < k) (h0 : -128 ≤ k) (h1 : k ≤ 127) :
    Calls Try.prog 108 #[.int .i8 k] w fun e w' => e = .returned (.tuple #[.agg #[.bool false, .bool false, .bool false, .bool false], .bool false]) ∧ Below w.heap.size w w' := by
  by_cases h2 : k < 0
  · clear h
    go_enter Try.func108, Try.ntmps108
    go_wp2
    refine bodyPost_ret (v := .tuple #[.agg #[.bool false, .bool false, .bool false, .bool false], .bool false]) (by simp [results, Try.results108, go_sem]) rfl ⟨rfl, ?_⟩
    ((with_reducible (repeat (first | assumption | exact Below.refl _ _ | refine bset ?_ (Nat.le_refl _) _ | refine balloc ?_ _ | refine bdrew ?_ | refine bdrewN ?_ _))); done)
  · have h3 : 4 ≤ k := by omega
    clear h
    go_enter Try.func108, Try.ntmps108
    go_wp2
    refine bodyPost_ret (v := .tuple #[.agg #[.bool false, .bool false, .bool false, .bool false], .bool false]) (by simp [results, Try.results108, go_sem]) rfl ⟨rfl, ?_⟩
    ((with_reducible (repeat (first | assumption | exact Below.refl _ _ | refine bset ?_ (Nat.le_refl _) _ | refine balloc ?_ _ | refine bdrew ?_ | refine bdrewN ?_ _))); done)
end
end Go.Proofs.Ytcibkoodnfkogaa
