/- A program in memory of its own. -/
import Derived.Test.YtcibkoodnfkogaaPrg3
import Derived.Test.YtcibkoodnfkogaaLike
import Derived.Deep.AppendLies
import Derived.Deep.RegionHeld3
namespace Go.Proofs.Ytcibkoodnfkogaa
open Go.RowKit
set_option linter.unusedVariables false
set_option linter.unusedSimpArgs false
/-- The block g of w' is as it was in w. -/
theorem OpsIn.far {w w' : World} {g o : Nat} {l : List Op} (h : OpsIn w (some ⟨g, o, none⟩) l) (hk : ∀ off, w'.cell? ⟨g, off, none⟩ = w.cell? ⟨g, off, none⟩) : OpsIn w' (some ⟨g, o, none⟩) l := fun hne => by
  obtain ⟨g', off, he, hx⟩ := h hne
  injection he with he
  injection he with h1 h2
  subst h1 h2
  refine ⟨_, _, rfl, fun i x hi => ?_⟩
  obtain ⟨c0, c1, c2, c3, c4⟩ := hx i x hi
  exact ⟨(hk _).trans c0, (hk _).trans c1, (hk _).trans c2, (hk _).trans c3, (hk _).trans c4⟩
theorem OpsIn.set {w : World} {g o : Nat} {l : List Op} (h : OpsIn w (some ⟨g, o, none⟩) l) {p : Addr} (hp : p.block ≠ g) (u : Value) : OpsIn (w.setCell p u) (some ⟨g, o, none⟩) l :=
  h.far fun _ => World.cell?_setCell_far _ _ _ _ hp
theorem set_same {w : World} {p : Addr} {x u : Value} (h : w.cell? p = some x) : (w.setCell p u).cell? p = some u := World.cell?_setCell_same w _ _ h
theorem set_other {w : World} {p q : Addr} {x u : Value} (h : w.cell? q = some x) (hne : p ≠ q) : (w.setCell p u).cell? q = some x := (World.cell?_setCell_other w _ _ _ hne).trans h
theorem set_frozen {w : World} {p q : Addr} {u : Value} (h : w.frozen? q = false) : (w.setCell p u).frozen? q = false := by rw [World.frozen?_setCell]; exact h
theorem own_below {w w' : World} {base : Nat} {e : TypeId} {size : Nat} {v : Value} {n : Nat} {xs : List Value} (h : w.ownsRow base e size v n xs) (hb : Below w.heap.size w w') : w'.ownsRow base e size v n xs := by
  refine ⟨h.1, ?_⟩
  rcases h.2 with hn | ⟨g, cap, cur, rfl, hbg, hg, rest⟩
  · exact .inl hn
  · exact .inr ⟨g, cap, cur, rfl, hbg, (hb.block g (Array.getElem?_eq_some_iff.1 hg).1).trans hg, rest⟩
theorem heap_new_at (w : World) (o : Obj) (n : Nat) (hn : n = w.heap.size) : (w.alloc o).heap[n]? = some o := by subst hn; exact heap_alloc_new w o
theorem frozen_keep {w w' : World} {a : Addr} (h : w.frozen? a = false) (ha : a.block < w.heap.size) (hb : Below w.heap.size w w') : w'.frozen? a = false := (hb.frozen (p := a) ha).trans h
/-- Six cells are a block's, with lists of their own in memory from block B on, none of them at r. -/
def RowOf (w : World) (B : Nat) (r : Option Nat) (b : Blk) (cs : List Value) : Prop :=
  ∃ (g c g2 c2 : Nat), cs = [.slice (some ⟨g, 0, none⟩) b.ops.length c, .int .i8 b.en, .int .u8 b.a, .slice (some ⟨g2, 0, none⟩) b.body.length c2, .int .i64 b.th, .int .i64 b.el] ∧
    OpsIn w (some ⟨g, 0, none⟩) b.ops ∧ OpsIn w (some ⟨g2, 0, none⟩) b.body ∧ b.ops.length ≤ c ∧ b.body.length ≤ c2 ∧ B ≤ g ∧ B ≤ g2 ∧ g < w.heap.size ∧ g2 < w.heap.size ∧ some g ≠ r ∧ some g2 ≠ r
theorem RowOf.far {w w' : World} {B : Nat} {r r' : Option Nat} {b : Blk} {cs : List Value} (h : RowOf w B r b cs) (hs : w.heap.size ≤ w'.heap.size)
    (hk : ∀ g off, B ≤ g → g < w.heap.size → some g ≠ r → w'.cell? ⟨g, off, none⟩ = w.cell? ⟨g, off, none⟩) (hr : ∀ g, g < w.heap.size → some g ≠ r → some g ≠ r') : RowOf w' B r' b cs := by
  obtain ⟨g, c, g2, c2, e, o1, o2, l1, l2, b1, b2, s1, s2, r1, r2⟩ := h
  exact ⟨g, c, g2, c2, e, o1.far fun off => hk g off b1 s1 r1, o2.far fun off => hk g2 off b2 s2 r2, l1, l2, b1, b2, by omega, by omega, hr g s1 r1, hr g2 s2 r2⟩
theorem RowOf.below {w w' : World} {B : Nat} {r : Option Nat} {b : Blk} {cs : List Value} (h : RowOf w B r b cs) (hb : Below w.heap.size w w') : RowOf w' B r b cs :=
  h.far hb.size (fun _ off _ hg _ => hb.cell (p := ⟨_, off, none⟩) hg) (fun _ _ h => h)
/-- The cells xs are the blocks l, six cells each. -/
def Rows6 (w : World) (B : Nat) (r : Option Nat) (l : List Blk) (xs : List Value) : Prop := ∀ j b, l[j]? = some b → RowOf w B r b ((xs.drop (j * 6)).take 6)
theorem Rows6.far {w w' : World} {B : Nat} {r r' : Option Nat} {l : List Blk} {xs : List Value} (h : Rows6 w B r l xs) (hs : w.heap.size ≤ w'.heap.size)
    (hk : ∀ g off, B ≤ g → g < w.heap.size → some g ≠ r → w'.cell? ⟨g, off, none⟩ = w.cell? ⟨g, off, none⟩) (hr : ∀ g, g < w.heap.size → some g ≠ r → some g ≠ r') : Rows6 w' B r' l xs := fun j b hj => (h j b hj).far hs hk hr
theorem Rows6.below {w w' : World} {B : Nat} {r : Option Nat} {l : List Blk} {xs : List Value} (h : Rows6 w B r l xs) (hb : Below w.heap.size w w') : Rows6 w' B r l xs := fun j b hj => (h j b hj).below hb
theorem Rows6.snoc {w : World} {B : Nat} {r : Option Nat} {l : List Blk} {xs cs : List Value} {i : Nat} (hi : i < l.length) (h : Rows6 w B r (l.take i) xs) (hl : xs.length = i * 6) (hc : RowOf w B r l[i] cs) : Rows6 w B r (l.take (i + 1)) (xs ++ cs) := fun j b hj => by
  have h6 : cs.length = 6 := by obtain ⟨g, c, g2, c2, rfl, _⟩ := hc; rfl
  have hj1 : j < i + 1 := by have := (List.getElem?_eq_some_iff.1 hj).1; simp at this; omega
  by_cases h1 : j < i
  · have := h j b (by rw [List.getElem?_take] at hj ⊢; simp only [hj1, if_true] at hj; simp only [h1, if_true]; exact hj)
    rw [List.drop_append_of_le_length (by omega), List.take_append_of_le_length (by simp; omega)]
    exact this
  · obtain rfl : j = i := by omega
    have hb : l[j] = b := by simpa [hi] using hj
    subst hb
    have h0 : xs.length - j * 6 = 0 := by omega
    rw [List.drop_append, List.drop_of_length_le (by omega), hl, Nat.sub_self, List.drop_zero, List.nil_append, List.take_of_length_le (by omega)]
    exact hc
theorem rows_in {w : World} {B base e n cap g : Nat} {r : Option Nat} {l : List Blk} {xs : List Value} (h : w.ownsRow base e 6 (.slice (some ⟨g, 0, none⟩) n cap) n xs) (hn : n = l.length) (hr : Rows6 w B r l xs) : BlksIn w (some ⟨g, 0, none⟩) l := fun _ => by
  subst hn
  refine ⟨_, _, rfl, fun i b hb => ?_⟩
  have hi : i < l.length := (List.getElem?_eq_some_iff.1 hb).1
  obtain ⟨g1, c, g2, c2, e, o1, o2, l1, l2, b1, b2, s1, s2, r1, r2⟩ := hr i b hb
  have hc : ∀ j, j < 6 → w.cell? ⟨g, 0 + i * 6 + j, none⟩ = ((xs.drop (i * 6)).take 6)[j]? := fun j hj => by
    rw [Nat.zero_add, h.cellAt _ (by omega), List.getElem?_take, if_pos hj, List.getElem?_drop]
  rw [e] at hc
  exact ⟨_, c, _, c2, hc 0 (by omega), hc 1 (by omega), hc 2 (by omega), hc 3 (by omega), hc 4 (by omega), hc 5 (by omega), o1, o2, l1, l2, (fun h => by cases h), (fun h => by cases h)⟩
theorem blk_info : ∃ i z, Try.prog.info? 70 = some i ∧ i.zero = some z ∧ i.size = 6 ∧ i.bytes = 72 ∧ z.cells.size = 6 := by
  have h : (Try.prog.info? 70).map (fun i => (i.zero.map (·.cells.size), i.size, i.bytes)) = some (some 6, 6, 72) := by kernel_rfl
  cases hi : Try.prog.info? 70 with
  | none => rw [hi] at h; cases h
  | some i =>
    rw [hi] at h
    cases hz : i.zero with
    | none => simp [hz] at h
    | some z =>
      simp [hz] at h
      exact ⟨i, z, rfl, hz, h.2.1, h.2.2, h.1⟩
def CopiedP (l : List Blk) (w : World) (e : Ending) (w' : World) : Prop := ∃ (A : Option Addr) (c : Nat), e = .returned (.agg #[.slice A l.length c]) ∧ l.length ≤ c ∧ BlksIn w' A l ∧ Below w.heap.size w w'
set_option maxHeartbeats 4000000 in
set_option maxRecDepth 100000 in
theorem pcopied_any (A : Option Addr) (l : List Blk) (cap : Nat) (w : World) (hl : BlksIn w A l) (hw : ∀ b ∈ l, b.ops.length ≤ 8192 ∧ b.body.length ≤ 8192) (hm : l.length ≤ 8192) :
    Calls Try.prog 38 #[.agg #[.slice A l.length cap]] w (CopiedP l w) := by
  obtain ⟨ii, z, hi, hz, h6, h72, hz6⟩ := blk_info
  have HI := hid hi
  have HZ := hid hz
  have HU := hid (Try.underlying59)
  have HL := hid hl
  have HW := hid hw
  replace h6 := hid h6
  replace h72 := hid h72
  replace hz6 := hid hz6
  clear hl hw hi hz
  go_enter Try.func38, Try.ntmps38
  go_wp2
  go_loopg [4] l.length (fun g v wr => ∃ i : Nat, i ≤ l.length ∧ v = .int .i64 i ∧ Hid (g + i = l.length) ∧ wr.cell? ⟨w.heap.size, 0, none⟩ = some (.slice A l.length cap) ∧ wr.frozen? ⟨w.heap.size + 1 + 1, 0, none⟩ = false ∧ wr.frozen? ⟨w.heap.size + 1, 0, none⟩ = false ∧ (∃ u, wr.cell? ⟨w.heap.size + 1, 0, none⟩ = some u) ∧ (∃ (rv : Value) (xs : List Value), wr.cell? ⟨w.heap.size + 1 + 1, 0, none⟩ = some rv ∧ Hid (wr.ownsRow (w.heap.size + 3) 70 6 rv i xs) ∧ Hid (Rows6 wr (w.heap.size + 3) rv.ownBlock (l.take i) xs)) ∧ Below w.heap.size w wr)
  case atStart =>
    refine ⟨0, by omega, rfl, by exact Nat.add_zero _, ?_, ?_, ?_, ⟨.slice none 0 0, ?_⟩, ⟨.slice none 0 0, [], ?_, World.ownsRow_nil _ _ _ _, fun j b hj => by simp at hj⟩, ?_⟩
    · first | simp | go_simp
    · first | simp | go_simp
    · first | simp | go_simp
    · first | simp | go_simp
    · first | simp | go_simp
    ((with_reducible (repeat (first | assumption | exact Below.refl _ _ | refine bset ?_ (Nat.le_refl _) _ | refine balloc ?_ _ | refine bdrew ?_ | refine bdrewN ?_ _))); done)
  case round =>
    obtain ⟨i, hi, rfl, hg, hcell, hfz, hfz1, ⟨u1, hu1⟩, ⟨rv, xs, hrv, hown, hrows⟩, hbw⟩ := hrel
    have hgw : w.heap.size + 1 + 1 < wr.heap.size := World.block_lt_of_cell? wr _ hrv
    have hgw1 : w.heap.size + 1 < wr.heap.size := by omega
    have hgw0 : w.heap.size < wr.heap.size := by omega
    by_cases hlt : i < l.length
    · obtain ⟨g, off, rfl, hop⟩ := (BlksIn.keep HL.out hbw).get i hlt
      obtain ⟨B, c, B2, c2, k0, k1, k2, k3, k4, k5, o1, o2, lc, lc2, n1, n2⟩ := hop
      have O1 := hid o1
      have O2 := hid o2
      have N1 := hid n1
      have N2 := hid n2
      clear o1 o2 n1 n2 lc lc2
      have m0 := (HW.out l[i] (List.getElem_mem hlt)).1
      have m1 := (HW.out l[i] (List.getElem_mem hlt)).2
      have hgs : g < wr.heap.size := World.block_lt_of_cell? wr _ k0
      have hb0 := hid hbw
      clear hbw
      have hij : (i : Int) < (l.length : Int) := by omega
      have hi0 : (0 : Int) ≤ (i : Int) := by omega
      have C1 := hid (fun (w : World) (h : OpsIn w B l[i].ops) => copied_any B l[i].ops c w h N1.out (by omega))
      have C2 := hid (fun (w : World) (h : OpsIn w B2 l[i].body) => copied_any B2 l[i].body c2 w h N2.out (by omega))
      go_wp2_with fail
      refine (C1.out _ (OpsIn.keep (w := wr) O1.out ?_)).mono ?_
      · ((with_reducible (repeat (first | assumption | exact Below.refl _ _ | refine bset ?_ (Nat.le_refl _) _ | refine balloc ?_ _ | refine bdrew ?_ | refine bdrewN ?_ _))); done)
      rintro e w2 ⟨g1, d1, rfl, hd1, ho1, hg1, hg1s, hb⟩
      have hbr : Below wr.heap.size wr w2 := btrans (a := wr) (by ((with_reducible (repeat (first | assumption | exact Below.refl _ _ | refine bset ?_ (Nat.le_refl _) _ | refine balloc ?_ _ | refine bdrew ?_ | refine bdrewN ?_ _))); done)) hb
      have hB1 : wr.heap.size < w2.heap.size := bsize hb
      have q0 : w2.cell? ⟨wr.heap.size, 0, none⟩ = some (.slice B l[i].ops.length c) := cell_keep (by simp) hb
      have q1 : w2.cell? ⟨wr.heap.size, 1, none⟩ = some (.int .i8 l[i].en) := cell_keep (by simp) hb
      have q2 : w2.cell? ⟨wr.heap.size, 2, none⟩ = some (.int .u8 l[i].a) := cell_keep (by simp) hb
      have q3 : w2.cell? ⟨wr.heap.size, 3, none⟩ = some (.slice B2 l[i].body.length c2) := cell_keep (by simp) hb
      have q4 : w2.cell? ⟨wr.heap.size, 4, none⟩ = some (.int .i64 l[i].th) := cell_keep (by simp) hb
      have q5 : w2.cell? ⟨wr.heap.size, 5, none⟩ = some (.int .i64 l[i].el) := cell_keep (by simp) hb
      have z0 : w2.frozen? ⟨wr.heap.size, 0, none⟩ = false := ((bcell hb).2 _ 0 (by simp)).trans (by simp)
      have z3 : w2.frozen? ⟨wr.heap.size, 3, none⟩ = false := ((bcell hb).2 _ 3 (by simp)).trans (by simp)
      clear hb
      have HO1 := hid ho1
      have HG1 := hid hg1
      clear ho1 hg1
      go_wp2_with fail
      with_reducible refine (C2.out _ (OpsIn.keep (w := wr) O2.out ?_)).mono ?_
      · exact hbr.setCell (Nat.le_refl _) _
      rintro e w4 ⟨g2, d2, rfl, hd2, ho2, hg2, hg2s, hb⟩
      have hbr4 : Below wr.heap.size wr w4 := btrans (a := wr) (hbr.setCell (Nat.le_refl _) _) hb
      have hs24 : w2.heap.size ≤ w4.heap.size := by have := hb.size; simpa using this
      have p0 : w4.cell? ⟨wr.heap.size, 0, none⟩ = some (.slice (some ⟨g1, 0, none⟩) l[i].ops.length d1) := cell_keep (set_same q0) hb
      have p1 : w4.cell? ⟨wr.heap.size, 1, none⟩ = some (.int .i8 l[i].en) := cell_keep (set_other q1 (by simp)) hb
      have p2 : w4.cell? ⟨wr.heap.size, 2, none⟩ = some (.int .u8 l[i].a) := cell_keep (set_other q2 (by simp)) hb
      have p3 : w4.cell? ⟨wr.heap.size, 3, none⟩ = some (.slice B2 l[i].body.length c2) := cell_keep (set_other q3 (by simp)) hb
      have p4 : w4.cell? ⟨wr.heap.size, 4, none⟩ = some (.int .i64 l[i].th) := cell_keep (set_other q4 (by simp)) hb
      have p5 : w4.cell? ⟨wr.heap.size, 5, none⟩ = some (.int .i64 l[i].el) := cell_keep (set_other q5 (by simp)) hb
      have y3 : w4.frozen? ⟨wr.heap.size, 3, none⟩ = false := ((bcell hb).2 _ 3 (by simpa using hB1)).trans (set_frozen z3)
      have hg1w : wr.heap.size + 1 ≤ g1 := by have := HG1.out; simpa using this
      have hg2w : wr.heap.size + 1 ≤ g2 := by simp at hg2; omega
      have HO1b := hid ((HO1.out.set (by show wr.heap.size ≠ g1; omega) _).keep hb)
      have HO2 := hid ho2
      have rv4 := cell_keep hrv hbr4
      clear q0 q1 q2 q3 q4 q5 z0 z3 hb ho2 hg2 HG1 HO1 hbr
      have hbw4 : Hid (Below wr.heap.size wr w4) := hid hbr4
      have hB4 : wr.heap.size < w4.heap.size := by omega
      have hH4 : w.heap.size + 1 + 1 < w4.heap.size := by omega
      clear hbr4
      go_wp2_with (at_builtin; refine wpList_append_lies _ (by rfl) _ _ _ (by rfl) (w.heap.size + 3) 70 ii z 6 72 HU.out HI.out HZ.out h6.out h72.out hz6.out (by omega) rv i xs (by rfl) ?hown ⟨w4.heap.size, 0, none⟩ 1 1 [.slice (some ⟨g1, 0, none⟩) l[i].ops.length d1, .int .i8 l[i].en, .int .u8 l[i].a, .slice (some ⟨g2, 0, none⟩) l[i].body.length d2, .int .i64 l[i].th, .int .i64 l[i].el] (by rfl) (by rfl) ?hnews ?h1 (by omega) ?h63 ?hbytes ?hbase _ rfl ?_)
      case hown => exact own_below hown.out ((hbw4.out.setCell (Nat.le_refl _) _).alloc (by simp; omega) _)
      case hnews => exact World.news_of_block (heap_new_at _ _ _ (by simp))
      case h1 => intro u hu; simp only [List.mem_cons, List.not_mem_nil, or_false] at hu; rcases hu with rfl | rfl | rfl | rfl | rfl | rfl <;> rfl
      case h63 => unfold maxLen; omega
      case hbytes => omega
      case hbase => simp; omega
      intro g3 d3 w7 hown7 hgrow7 hat hlt7
      have hlo : ∀ k, rv.ownBlock = some k → w.heap.size + 3 ≤ k ∧ k < wr.heap.size := hown.out.lt
      obtain ⟨W6, hB6, hgrow, hRow, hs6⟩ : ∃ W6 : World, Hid (Below wr.heap.size wr W6) ∧ Hid (W6.grownBy w7 rv.ownBlock) ∧ Hid (RowOf W6 (w.heap.size + 3) rv.ownBlock l[i] [.slice (some ⟨g1, 0, none⟩) l[i].ops.length d1, .int .i8 l[i].en, .int .u8 l[i].a, .slice (some ⟨g2, 0, none⟩) l[i].body.length d2, .int .i64 l[i].th, .int .i64 l[i].el]) ∧ Hid (W6.heap.size = w4.heap.size + 1) := by
        refine ⟨_, hid ((hbw4.out.setCell (p := ⟨wr.heap.size, 3, none⟩) (Nat.le_refl _) _).alloc (by simp; omega) _), hid hgrow7, hid ⟨g1, d1, g2, d2, rfl, ?_, ?_, hd1, hd2, by omega, by omega, by simp; omega, by simp; omega, ?_, ?_⟩, hid (by simp)⟩
        · exact (HO1b.out.set (by show wr.heap.size ≠ g1; omega) _).keep (balloc (Below.refl _ _) _)
        · exact (HO2.out.set (by show wr.heap.size ≠ g2; omega) _).keep (balloc (Below.refl _ _) _)
        · intro h
          have := (hlo _ h.symm).2
          omega
        · intro h
          have := (hlo _ h.symm).2
          omega
      have hne : ∀ k, k < w.heap.size + 3 → some k ≠ rv.ownBlock := fun k hk h => by have := (hlo _ h.symm).1; omega
      have hH6 : w.heap.size + 1 + 1 < W6.heap.size := by have := hs6.out; omega
      have hH60 : w.heap.size < W6.heap.size := by omega
      have hH61 : w.heap.size + 1 < W6.heap.size := by omega
      have r7 : w7.cell? ⟨w.heap.size + 1 + 1, 0, none⟩ = some rv := (hgrow.out.cell_far _ hH6 (hne (w.heap.size + 1 + 1) (by omega))).trans (cell_keep hrv hB6.out)
      have f7 : w7.frozen? ⟨w.heap.size + 1 + 1, 0, none⟩ = false := (hgrow.out.frozen_far _ hH6 (hne (w.heap.size + 1 + 1) (by omega))).trans (frozen_keep hfz hgw hB6.out)
      have A1 : w7.cell? ⟨w.heap.size, 0, none⟩ = some (.slice (some ⟨g, off, none⟩) l.length cap) := (hgrow.out.cell_far _ hH60 (hne w.heap.size (by omega))).trans (cell_keep hcell hB6.out)
      have A3 : w7.frozen? ⟨w.heap.size + 1, 0, none⟩ = false := (hgrow.out.frozen_far _ hH61 (hne (w.heap.size + 1) (by omega))).trans (frozen_keep hfz1 hgw1 hB6.out)
      have A4 : w7.cell? ⟨w.heap.size + 1, 0, none⟩ = some u1 := (hgrow.out.cell_far _ hH61 (hne (w.heap.size + 1) (by omega))).trans (cell_keep hu1 hB6.out)
      have hgs7 : W6.heap.size ≤ w7.heap.size := hgrow.out.size
      have hs67 : w.heap.size + 1 + 1 < w7.heap.size := by omega
      have OW := hid hown7
      have HAT := hid hat
      have HNE := hid hne
      have HLO := hid hlo
      clear hown7 hgrow7 hat hlt7 hne hlo p0 p1 p2 p3 p4 p5 y3 rv4
      have hwr6 : Hid (wr.heap.size ≤ W6.heap.size) := hid hB6.out.size
      go_wp2
      go_roundg (l.length - (i + 1))
      case measure => have := hg.out; omega
      case rel =>
        refine ⟨i + 1, by omega, by go_num, by show _ + _ = _; omega, set_other A1 (by simp), set_frozen f7, set_frozen A3, ⟨u1, set_other A4 (by simp)⟩, ⟨.slice (some ⟨g3, 0, none⟩) (i + 1) d3, xs ++ [.slice (some ⟨g1, 0, none⟩) l[i].ops.length d1, .int .i8 l[i].en, .int .u8 l[i].a, .slice (some ⟨g2, 0, none⟩) l[i].body.length d2, .int .i64 l[i].th, .int .i64 l[i].el], set_same r7, hid (ownsRow_setCell_below OW.out (by show w.heap.size + 1 + 1 < w.heap.size + 3; omega) _), hid (Rows6.snoc hlt (hrows.out.far ?_ ?_ ?_) hown.out.1 (hRow.out.far ?_ ?_ ?_))⟩, ?_⟩
        · have := hwr6.out
          simp
          omega
        · intro k o hk1 hk2 hk3
          have := hwr6.out
          rw [World.cell?_setCell_far _ _ _ _ (by show w.heap.size + 1 + 1 ≠ k; omega), hgrow.out.cell_far _ (by show k < _; omega) hk3]
          exact hB6.out.cell (p := ⟨k, o, none⟩) hk2
        · intro k hk1 hk2 hk3
          injection hk3 with hk3
          subst hk3
          rcases HAT.out with h | h
          · exact hk2 h.symm
          · omega
        · simp
          exact hgs7
        · intro k o hk1 hk2 hk3
          rw [World.cell?_setCell_far _ _ _ _ (by show w.heap.size + 1 + 1 ≠ k; omega), hgrow.out.cell_far _ (by show k < _; omega) hk3]
        · intro k hk1 hk2 hk3
          injection hk3 with hk3
          subst hk3
          rcases HAT.out with h | h
          · exact hk2 h.symm
          · have := hs6.out
            omega
        · exact ((btrans hb0.out hB6.out).grown hgrow.out (by omega) (fun k hk => by have := (HLO.out k hk).1; omega)).setCell (by show w.heap.size ≤ w.heap.size + 1 + 1; omega) _
    · obtain rfl : i = l.length := by omega
      have hb0 := hid hbw
      rw [List.take_length] at hrows
      have hrow := hid hrows
      rcases hown.out.2 with ⟨rfl, h0⟩ | ⟨g, c, cur, rfl, hg0, hgg, hnc, hcm, hcs, ht⟩
      · have hl0 : l = [] := List.eq_nil_of_length_eq_zero h0
        subst hl0
        clear hbw h0
        go_wp2
        refine bodyPost_ret (v := .agg #[.slice none 0 0]) (by simp [results, Try.results38, go_sem, set_same hu1]) rfl ⟨none, 0, rfl, Nat.zero_le _, fun h => absurd rfl h, hb0.out.setCell (by show w.heap.size ≤ w.heap.size + 1; omega) _⟩
      · have hin := hid (rows_in hown.out rfl hrows.out)
        have HG := hid hgg
        have HC := hid hnc
        clear hbw hgg hnc hcs ht hcm
        go_wp2
        refine bodyPost_ret (v := .agg #[.slice (some ⟨g, 0, none⟩) l.length c]) (by simp [results, Try.results38, go_sem, set_same hu1]) rfl ⟨some ⟨g, 0, none⟩, c, rfl, HC.out, ?_, hb0.out.setCell (by show w.heap.size ≤ w.heap.size + 1; omega) _⟩
        exact rows_in (B := w.heap.size + 3) (r := some g) (ownsRow_setCell_below hown.out (by show w.heap.size + 1 < w.heap.size + 3; omega) _) rfl (hrow.out.far (by simp) (fun k o hk1 hk2 hk3 => World.cell?_setCell_far _ _ _ _ (by show w.heap.size + 1 ≠ k; omega)) (fun _ _ h => h))
end Go.Proofs.Ytcibkoodnfkogaa
