/- Words of these proofs: operations, tables, shapes as plain data, and how they lie in memory. -/
import Derived.Test.YtcibkoodnfkogaaProg
import Derived.WalkKit
import Derived.WalkLawsBesides
import Derived.WalkSpells
import Derived.Below
import Derived.KernelRfl
import Derived.Outline
import Derived.OwnWalk
import Derived.RegionTactic
import Derived.ChangeAlike
import Derived.Deep.QuietTactic
import Derived.BigQuiet
import Derived.Great.BuildSlice
import Derived.Laws.Rows
import Derived.Laws.CopyOwn
namespace Go.Proofs.Ytcibkoodnfkogaa
open Go.RowKit
set_option linter.unusedVariables false
set_option linter.unusedSimpArgs false

/-- A kind of operation's row: name, class, which fields count, is it one. -/
structure Shp where
  name : ByteArray
  cls : Int
  d : Bool
  a : Bool
  b : Bool
  num : Bool
  imm : Bool
  is : Bool
def Shp.cells (s : Shp) : List Value := [.string s.name, .int .i8 s.cls, .bool s.d, .bool s.a, .bool s.b, .bool s.num, .bool s.imm, .bool s.is]
def Shp.val (s : Shp) : Value := .agg #[.string s.name, .int .i8 s.cls, .bool s.d, .bool s.a, .bool s.b, .bool s.num, .bool s.imm, .bool s.is]
def noShp : Shp := ⟨⟨#[]⟩, 0, false, false, false, false, false, false⟩
def shp3 (name : ByteArray) (cls : Int) : Shp := ⟨name, cls, true, true, true, false, false, true⟩
def shps : List Shp := [
  ⟨⟨#[110, 111, 112]⟩, -1, false, false, false, false, false, true⟩,
  ⟨⟨#[99, 111, 110, 115, 116]⟩, 0, true, false, false, false, true, true⟩,
  shp3 ⟨#[97, 100, 100]⟩ 0, shp3 ⟨#[115, 117, 98]⟩ 0, shp3 ⟨#[97, 110, 100]⟩ 0, shp3 ⟨#[111, 114]⟩ 0, shp3 ⟨#[120, 111, 114]⟩ 0,
  shp3 ⟨#[115, 104, 108]⟩ 0, shp3 ⟨#[115, 104, 114]⟩ 0, shp3 ⟨#[108, 101, 115, 115]⟩ 0, shp3 ⟨#[101, 113, 117, 97, 108]⟩ 0,
  ⟨⟨#[109, 111, 118, 101]⟩, 0, true, true, false, false, false, true⟩,
  shp3 ⟨#[116, 105, 109, 101, 115]⟩ 1, shp3 ⟨#[100, 105, 118, 105, 100, 101]⟩ 1, shp3 ⟨#[114, 101, 115, 116]⟩ 1,
  ⟨⟨#[108, 111, 97, 100]⟩, 2, true, true, false, false, true, true⟩,
  ⟨⟨#[115, 116, 111, 114, 101]⟩, 2, false, true, true, false, true, true⟩,
  ⟨⟨#[112, 114, 105, 110, 116]⟩, 2, false, true, false, false, false, true⟩,
  ⟨⟨#[106, 117, 109, 112]⟩, 3, false, false, false, false, true, true⟩,
  ⟨⟨#[98, 114, 97, 110, 99, 104]⟩, 3, false, true, false, false, true, true⟩,
  ⟨⟨#[104, 97, 108, 116]⟩, 3, false, true, false, false, false, true⟩,
  ⟨⟨#[99, 111, 117, 110, 116]⟩, 3, false, true, false, false, true, true⟩,
  ⟨⟨#[115, 104, 111, 114, 116]⟩, 3, false, true, false, true, true, true⟩,
  ⟨⟨#[97, 103, 97, 105, 110]⟩, 3, false, false, false, false, true, true⟩]
/-- The row of a kind; of none: nothing. -/
def shp (k : Int) : Shp := if 0 ≤ k ∧ k < 24 then shps.getD k.toNat noShp else noShp
def isK (k : Int) : Bool := decide (0 ≤ k) && decide (k < 24)

/-- An operation. -/
structure Op where
  k : Int
  d : Int
  a : Int
  b : Int
  n : Int
deriving DecidableEq
def Op.cells (o : Op) : List Value := [.int .i8 o.k, .int .u8 o.d, .int .u8 o.a, .int .u8 o.b, .int .i64 o.n]
abbrev Op.val (o : Op) : Value := .agg #[.int .i8 o.k, .int .u8 o.d, .int .u8 o.a, .int .u8 o.b, .int .i64 o.n]
/-- Its fields are numbers of their kinds. -/
structure Op.wf (o : Op) : Prop where
  k0 : -128 ≤ o.k
  k1 : o.k ≤ 127
  d0 : 0 ≤ o.d
  d1 : o.d ≤ 255
  a0 : 0 ≤ o.a
  a1 : o.a ≤ 255
  b0 : 0 ≤ o.b
  b1 : o.b ≤ 255
  n0 : -9223372036854775808 ≤ o.n
  n1 : o.n ≤ 9223372036854775807

theorem bcell {W w1 : World} (hb : Below W.heap.size W w1) : (∀ b o, b < W.heap.size → w1.cell? ⟨b, o, none⟩ = W.cell? ⟨b, o, none⟩) ∧ (∀ b o, b < W.heap.size → w1.frozen? ⟨b, o, none⟩ = W.frozen? ⟨b, o, none⟩) :=
  ⟨fun b o h => hb.cell (p := ⟨b, o, none⟩) h, fun b o h => hb.frozen (p := ⟨b, o, none⟩) h⟩
theorem below_drewN {B : Nat} {a w : World} (h : Below B a w) (n : Nat) : Below B a (w.drewN n) := h.trans ⟨rfl, rfl, rfl, Nat.le_refl _, fun _ _ => rfl⟩
theorem balloc {a w : World} (h : Below a.heap.size a w) (o : Obj) : Below a.heap.size a (w.alloc o) := h.alloc h.size o
theorem bdrew {a w : World} (h : Below a.heap.size a w) : Below a.heap.size a w.drew := h.drew
theorem bdrewN {a w : World} (h : Below a.heap.size a w) (n : Nat) : Below a.heap.size a (w.drewN n) := below_drewN h n
theorem bset {a w : World} (h : Below a.heap.size a w) {p : Addr} (hp : a.heap.size ≤ p.block) (u : Value) : Below a.heap.size a (w.setCell p u) := h.setCell hp u
theorem btrans {a w w' : World} (h : Below a.heap.size a w) (k : Below w.heap.size w w') : Below a.heap.size a w' := h.trans (k.mono h.size)
theorem old_block {w w' : World} {o : Obj} (h : Below (w.alloc o).heap.size (w.alloc o) w') : w'.heap[w.heap.size]? = some o := by
  rw [h.block _ (by simp)]
  exact heap_alloc_new w o
theorem below_old {w w' : World} {o : Obj} (h : Below (w.alloc o).heap.size (w.alloc o) w') : Below w.heap.size w w' := btrans (balloc (Below.refl _ _) o) h
theorem bsize {w w' : World} {o : Obj} (h : Below (w.alloc o).heap.size (w.alloc o) w') : w.heap.size < w'.heap.size := by
  have := h.size
  simp at this
  omega
theorem ret_int {k : IntKind} {a b : Int} (h : a = b) : Ending.returned (.int k a) = .returned (.int k b) := by rw [h]
theorem ret_bool {a b : Bool} (h : a = b) : Ending.returned (.bool a) = .returned (.bool b) := by rw [h]
theorem below_step {w w1 w2 : World} {o : Obj} (h : Below w.heap.size w w1) (k : Below (w1.alloc o).heap.size (w1.alloc o) w2) : Below w.heap.size w w2 := btrans (balloc h o) k
/-- The slice value v reads, in w, as these numbers of kind k; its cells lie from block B on. -/
def Ints (k : IntKind) (w : World) (B : Nat) (v : Value) (l : List Int) : Prop :=
  ∃ A cap, v = .slice A l.length cap ∧ l.length ≤ cap ∧ (l ≠ [] → ∃ g off, A = some ⟨g, off, none⟩ ∧ B ≤ g ∧ ∀ j x, l[j]? = some x → w.cell? ⟨g, off + j, none⟩ = some (.int k x))
theorem Ints.nil (k : IntKind) (w : World) (B : Nat) : Ints k w B (.slice none 0 0) [] := ⟨none, 0, rfl, Nat.le_refl _, fun h => absurd rfl h⟩
theorem Ints.keep {k : IntKind} {w w' : World} {B : Nat} {v : Value} {l : List Int} (h : Ints k w B v l) (hb : Below w.heap.size w w') : Ints k w' B v l := by
  obtain ⟨A, cap, hv, hc, hn⟩ := h
  refine ⟨A, cap, hv, hc, fun hl => ?_⟩
  obtain ⟨g, off, ha, hg, hcell⟩ := hn hl
  refine ⟨g, off, ha, hg, fun j x hj => ?_⟩
  have h := hcell j x hj
  rw [hb.cell (World.block_lt_of_cell? w _ h)]
  exact h
theorem hid {p : Prop} (h : p) : Hid p := h
end Go.Proofs.Ytcibkoodnfkogaa
