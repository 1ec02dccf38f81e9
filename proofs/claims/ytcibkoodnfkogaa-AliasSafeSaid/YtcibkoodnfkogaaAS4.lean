/- AliasSafe: the walk. -/
import Derived.Test.YtcibkoodnfkogaaAS3
import Derived.Test.YtcibkoodnfkogaaAliW
import Derived.Test.YtcibkoodnfkogaaRckB
import Derived.Test.YtcibkoodnfkogaaBu3
import Derived.Deep.CutBlock
namespace Go.Proofs.Ytcibkoodnfkogaa
open Go.RowKit
set_option linter.unusedVariables false
set_option linter.unusedSimpArgs false
theorem doR_i64 {o : Op} {R M : List Int} (hR : I64s R) (hM : I64s M) (hr : R.length = 32) (hm : M.length = 256) (hw : o.wf) : I64s (doR o R M) ∧ I64s (doM o R M) ∧ (doR o R M).length = 32 ∧ (doM o R M).length = 256 := by
  have g : ∀ {l : List Int} (hl : I64s l) (i : Nat), -9223372036854775808 ≤ l[i]?.getD 0 ∧ l[i]?.getD 0 ≤ 9223372036854775807 := fun {l} hl i => by
    cases h : l[i]? with
    | none => decide
    | some x => exact hl x (List.mem_of_getElem? h)
  refine ⟨?_, ?_, ?_, ?_⟩
  · unfold doR
    split
    · exact hR
    split
    · exact hR.set _ ⟨hw.n0, hw.n1⟩
    split
    · exact hR.set _ (g hM _)
    split
    · exact hR
    · exact hR.set _ (rckN_i64 _ _ _ (g hR _).1 (g hR _).2 (g hR _).1 (g hR _).2)
  · unfold doM
    split
    · exact hM.set _ (g hR _)
    · exact hM
  · unfold doR
    repeat' split
    all_goals first | exact hr | (rw [List.length_set]; exact hr)
  · unfold doM
    repeat' split
    all_goals first | exact hm | (rw [List.length_set]; exact hm)
theorem OpsIn.block {w w' : World} {g off : Nat} {l : List Op} (h : OpsIn w (some ⟨g, off, none⟩) l) (hb : w'.heap[g]? = w.heap[g]?) : OpsIn w' (some ⟨g, off, none⟩) l :=
  h.far fun o => by unfold World.cell?; simp only [hb]
theorem ownsRow_turned {w w' : World} {base : Nat} {e : TypeId} {size : Nat} {v : Value} {n : Nat} {xs : List Value} {gr gm : Nat} (h : w.ownsRow base e size v n xs) (ht : Turned gr gm w w') (h1 : gr < base) (h2 : gm < base) : w'.ownsRow base e size v n xs := by
  refine ⟨h.1, ?_⟩
  rcases h.2 with hn | ⟨g, cap, cur, rfl, hbg, hg, rest⟩
  · exact .inl hn
  · exact .inr ⟨g, cap, cur, rfl, hbg, (ht.block g (Array.getElem?_eq_some_iff.1 hg).1 (by omega) (by omega)).trans hg, rest⟩
/-- Rows of numbers, the cells of a row of slices; each in a block of its own, from block B on, not at r. -/
def NumRows (w : World) (B : Nat) (r : Option Nat) (rows : List (List Int)) (xs : List Value) : Prop :=
  ∀ (k : Nat) (row : List Int), rows[k]? = some row → ∃ (A : Option Addr) (c : Nat), xs[k]? = some (.slice A row.length c) ∧ (row ≠ [] → ∃ g, A = some ⟨g, 0, none⟩ ∧ B ≤ g ∧ g < w.heap.size ∧ some g ≠ r ∧ ∀ (i : Nat) (x : Int), row[i]? = some x → w.cell? ⟨g, i, none⟩ = some (.int .i64 x))
theorem NumRows.nil (w : World) (B : Nat) (r : Option Nat) (xs : List Value) : NumRows w B r [] xs := fun k row h => by simp at h
theorem NumRows.far {w w' : World} {B : Nat} {r r' : Option Nat} {rows : List (List Int)} {xs : List Value} (h : NumRows w B r rows xs) (hs : w.heap.size ≤ w'.heap.size)
    (hk : ∀ g off, B ≤ g → g < w.heap.size → some g ≠ r → w'.cell? ⟨g, off, none⟩ = w.cell? ⟨g, off, none⟩) (hr : ∀ g, g < w.heap.size → some g ≠ r → some g ≠ r') : NumRows w' B r' rows xs := fun k row hrow => by
  obtain ⟨A, c, hx, hc⟩ := h k row hrow
  refine ⟨A, c, hx, fun hne => ?_⟩
  obtain ⟨g, ha, hb, hg, hgr, hi⟩ := hc hne
  exact ⟨g, ha, hb, by omega, hr g hg hgr, fun i x hx => (hk g i hb hg hgr).trans (hi i x hx)⟩
theorem NumRows.turned {w w' : World} {B : Nat} {r : Option Nat} {rows : List (List Int)} {xs : List Value} {gr gm : Nat} (h : NumRows w B r rows xs) (ht : Turned gr gm w w') (h1 : gr < B) (h2 : gm < B) : NumRows w' B r rows xs :=
  h.far ht.size (fun g off hb hg _ => by unfold World.cell?; rw [ht.block g hg (by omega) (by omega)]) (fun _ _ h => h)
theorem NumRows.snoc {w : World} {B : Nat} {r : Option Nat} {rows : List (List Int)} {xs : List Value} {row : List Int} {A : Option Addr} {c : Nat} (h : NumRows w B r rows xs) (hl : xs.length = rows.length)
    (hrow : row ≠ [] → ∃ g, A = some ⟨g, 0, none⟩ ∧ B ≤ g ∧ g < w.heap.size ∧ some g ≠ r ∧ ∀ (i : Nat) (x : Int), row[i]? = some x → w.cell? ⟨g, i, none⟩ = some (.int .i64 x)) : NumRows w B r (rows ++ [row]) (xs ++ [.slice A row.length c]) := fun k y hk => by
  by_cases hlt : k < rows.length
  · rw [List.getElem?_append_left hlt] at hk
    obtain ⟨A', c', hx, hc⟩ := h k y hk
    exact ⟨A', c', by rw [List.getElem?_append_left (by omega)]; exact hx, hc⟩
  · have h2 := (List.getElem?_eq_some_iff.1 hk).1
    simp at h2
    obtain rfl : k = rows.length := by omega
    rw [List.getElem?_append_right (Nat.le_refl _), Nat.sub_self] at hk
    simp at hk
    subst hk
    refine ⟨A, c, ?_, hrow⟩
    rw [← hl, List.getElem?_append_right (Nat.le_refl _), Nat.sub_self]
    rfl
theorem int_info : ∃ i z, Try.prog.info? 3 = some i ∧ i.zero = some z ∧ i.size = 1 ∧ i.bytes = 8 ∧ z.cells.size = 1 := by
  have h : (Try.prog.info? 3).map (fun i => (i.zero.map (·.cells.size), i.size, i.bytes)) = some (some 1, 1, 8) := by kernel_rfl
  cases hi : Try.prog.info? 3 with
  | none => rw [hi] at h; cases h
  | some i =>
    rw [hi] at h
    cases hz : i.zero with
    | none => simp [hz] at h
    | some z =>
      simp [hz] at h
      exact ⟨i, z, rfl, hz, h.2.1, h.2.2, h.1⟩
theorem ints_info : ∃ i z, Try.prog.info? 50 = some i ∧ i.zero = some z ∧ i.size = 1 ∧ i.bytes = 24 ∧ z.cells.size = 1 := by
  have h : (Try.prog.info? 50).map (fun i => (i.zero.map (·.cells.size), i.size, i.bytes)) = some (some 1, 1, 24) := by kernel_rfl
  cases hi : Try.prog.info? 50 with
  | none => rw [hi] at h; cases h
  | some i =>
    rw [hi] at h
    cases hz : i.zero with
    | none => simp [hz] at h
    | some z =>
      simp [hz] at h
      exact ⟨i, z, rfl, hz, h.2.1, h.2.2, h.1⟩
theorem Turned.refl (gr gm : Nat) (w : World) : Turned gr gm w w := ⟨rfl, rfl, rfl, Nat.le_refl _, fun _ _ _ _ => rfl⟩
theorem Turned.trans {gr gm : Nat} {w w' w2 : World} (h : Turned gr gm w w') (k : Turned gr gm w' w2) : Turned gr gm w w2 :=
  ⟨k.os.trans h.os, k.tape.trans h.tape, k.output.trans h.output, Nat.le_trans h.size k.size, fun b hb h1 h2 => (k.block b (Nat.lt_of_lt_of_le hb h.size) h1 h2).trans (h.block b hb h1 h2)⟩
theorem Turned.grown {gr gm : Nat} {w w' w2 : World} {r : Option Nat} (h : Turned gr gm w w') (k : w'.grownBy w2 r) (hr : ∀ b, r = some b → w.heap.size ≤ b) : Turned gr gm w w2 :=
  ⟨k.os.trans h.os, k.tape.trans h.tape, k.output.trans h.output, Nat.le_trans h.size k.size, fun b hb h1 h2 => (k.block b (Nat.lt_of_lt_of_le hb h.size) (fun e => by have := hr b e.symm; omega)).trans (h.block b hb h1 h2)⟩
theorem TwoAt.grown {w0 w w6 w7 : World} {g2 g3 : Nat} {R M : List Int} {r : Option Nat} (h : TwoAt w0 w g2 g3 R M) (hb : Below w.heap.size w w6) (hg : w6.grownBy w7 r) (hr : ∀ b, r = some b → g2 < b ∧ g3 < b) : TwoAt w0 w7 g2 g3 R M := by
  obtain ⟨h1, h2, h3, h4, h5, h6, h7, h8⟩ := h
  exact ⟨h1, h2, (h3.keep hb).grow hg (fun e => by have := (hr _ e.symm).1; omega), (h4.keep hb).grow hg (fun e => by have := (hr _ e.symm).2; omega),
    (btrans h5 hb).grown hg (Nat.le_trans h5.size hb.size) (fun k hk => by have := (hr k hk).1; omega), h6, h7, h8⟩
/-- A row of the call's own is a list of numbers. -/
theorem own_nums {w : World} {base : Nat} {e : TypeId} {v : Value} {l : List Int} (h : w.ownsRow base e 1 v l.length (l.map (Value.int .i64))) : ∃ (A : Option Addr) (c : Nat), v = .slice A l.length c ∧ (l ≠ [] → ∃ g, A = some ⟨g, 0, none⟩ ∧ base ≤ g ∧ g < w.heap.size ∧ ∀ (i : Nat) (x : Int), l[i]? = some x → w.cell? ⟨g, i, none⟩ = some (.int .i64 x)) := by
  rcases h.2 with ⟨he, h0⟩ | ⟨k, cap, cur, he, hbg, hk, hrest⟩
  · have : l = [] := List.eq_nil_of_length_eq_zero h0
    subst this
    exact ⟨none, 0, he, fun h => absurd rfl h⟩
  · subst he
    refine ⟨_, cap, rfl, fun _ => ⟨k, rfl, hbg, (Array.getElem?_eq_some_iff.1 hk).1, fun i x hi => ?_⟩⟩
    have hil := (List.getElem?_eq_some_iff.1 hi).1
    rw [h.cellAt i (by omega)]
    simp [hi]
theorem own_rows {w : World} {base : Nat} {e : TypeId} {v : Value} {n : Nat} {xs : List Value} (h : w.ownsRow base e 1 v n xs) : ∃ (A : Option Addr) (c : Nat), v = .slice A n c ∧ (0 < n → ∃ g, A = some ⟨g, 0, none⟩ ∧ ∀ k, k < n → w.cell? ⟨g, k, none⟩ = xs[k]?) := by
  rcases h.2 with ⟨he, h0⟩ | ⟨k, cap, cur, he, hbg, hk, hrest⟩
  · subst h0
    exact ⟨none, 0, he, fun h => absurd h (Nat.lt_irrefl _)⟩
  · subst he
    exact ⟨_, cap, rfl, fun _ => ⟨k, rfl, fun i hi => h.cellAt i (by omega)⟩⟩
theorem RowsOk.len {l : List Op} {R00 R : List Int} {rows : List (List Int)} (h : RowsOk l R00 rows R) {k : Nat} {row : List Int} (hk : rows[k]? = some row) : row.length ≤ l.length := by
  obtain ⟨_, _, h1, _⟩ := h.2 k row hk
  exact h1.1
theorem rem4 (r : Int) : -3 ≤ r.tmod 4 ∧ r.tmod 4 ≤ 3 := by
  have h : (r.tmod 4).natAbs = r.natAbs % 4 := Int.natAbs_tmod _ _
  omega
set_option maxHeartbeats 20000000 in
set_option maxRecDepth 100000 in
theorem AliasSafe_walk (A : Option Addr) (l : List Op) (cap : Nat) (A1 : Option Addr) (s1 : List Int) (c1 : Nat) (A2 : Option Addr) (s2 : List Int) (c2 : Nat) (rounds : Int) (w : World) (hl : OpsIn w A l) (hw : ∀ o ∈ l, o.wf) (hc : l.length ≤ cap) (hmx : cap ≤ 8796093022208)
    (hs1 : NumsIn w A1 s1) (hs1w : I64s s1) (hs1c : s1.length ≤ c1) (hs1m : c1 ≤ 17592186043904) (hs2 : NumsIn w A2 s2) (hs2w : I64s s2) (hs2c : s2.length ≤ c2) (hs2m : c2 ≤ 17592186043904) :
    Calls Try.prog 8 #[.slice A l.length cap, .agg #[.slice A1 s1.length c1, .slice A2 s2.length c2], .int .i64 rounds] w fun e w' => e = .returned (.bool true) ∧ Below w.heap.size w w' := by
  have CW := hid (fun w => wakes10_any w)
  have HL := hid hl
  have HW := hid hw
  have CS : Hid (∀ w' : World, Below w.heap.size w w' → Calls Try.prog 32 #[.agg #[.slice A1 s1.length c1, .slice A2 s2.length c2]] w' (StartP (decide (s1.length ≤ 32 ∧ s2.length ≤ 256)) w')) := hid fun w' hb => by
    by_cases h1 : s1.length ≤ 32
    · by_cases h2 : s2.length ≤ 256
      · rw [decide_eq_true (And.intro h1 h2)]
        exact start_yes A1 A2 s1 s2 c1 c2 w' (hs1.keep hb) (hs2.keep hb) hs1w hs2w h1 h2 hs1c hs2c
      · rw [decide_eq_false (fun h => h2 h.2)]
        exact start_no A1 A2 s1 s2 c1 c2 w' (.inr ⟨h1, by omega⟩)
    · rw [decide_eq_false (fun h => h1 h.1)]
      exact start_no A1 A2 s1 s2 c1 c2 w' (.inl (by omega))
  generalize hok : decide (s1.length ≤ 32 ∧ s2.length ≤ 256) = ok at CS
  have hlm : l.length ≤ 1000000000000000000 := by omega
  have hci : (l.length : Int) ≤ 8796093022208 := by omega
  obtain ⟨hq0, hq1⟩ := rem4 rounds
  clear hl hw hs1 hs1w hs1c hs1m hs2 hs2w hs2c hs2m hok
  generalize hrq : rounds.tmod 4 = rq at *
  obtain ⟨nn, hnn⟩ : ∃ nn : Nat, 1 + rq % 4 = (nn : Int) := ⟨(1 + rq % 4).toNat, by omega⟩
  have hnn4 : nn ≤ 4 := by omega
  have HOK : Hid (40 < l.length ∨ ok = false ∨ (l.length ≤ 40 ∧ ok = true)) := hid (by
    by_cases h : 40 < l.length
    · exact .inl h
    · cases ok
      · exact .inr (.inl rfl)
      · exact .inr (.inr ⟨by omega, rfl⟩))
  go_enter Try.func8, Try.ntmps8
  go_wp2_with fail
  with_reducible refine (CS.out _ ?_).mono ?_
  · ((with_reducible (repeat (first | assumption | exact Below.refl _ _ | refine bset ?_ (Nat.le_refl _) _ | refine balloc ?_ _ | refine bdrew ?_ | refine bdrewN ?_ _))); done)
  rintro e w1 ⟨R, M, hlR, hlM, hR64, hM64, rfl, hb⟩
  have B1 := hid (btrans (a := w) (by ((with_reducible (repeat (first | assumption | exact Below.refl _ _ | refine bset ?_ (Nat.le_refl _) _ | refine balloc ?_ _ | refine bdrew ?_ | refine bdrewN ?_ _))); done)) hb)
  clear hb
  go_upto_region 2 with (first | (with_reducible refine wpList_store_rowTo rfl 45 _ _ rfl rfl w1.heap.size (R.map (Value.int .i64)).toArray ?hx ?hy 45 ?old ?hg ?hi ?hold ?h1 ?_) | (with_reducible refine wpList_store_rowTo rfl 46 _ _ rfl rfl (w1.heap.size + 1) (M.map (Value.int .i64)).toArray ?kx ?ky 46 Try.zeroCells46 ?kg ?ki ?khold ?k1 ?_))
  case hx => rfl
  case hy => rfl
  case kx => rfl
  case ky => rfl
  case hg => exact heap_alloc2_old _ _ _
  case kg => rw [setRow_other _ _ _ _ (by omega)]; exact heap_alloc2_new _ _ _
  case hi => exact TwoAt.j2 hlR
  case ki => exact TwoAt.j3 hlM
  case hold => show (32 : Nat) = _; rw [List.size_toArray, List.length_map, hlR]
  case khold => exact (show Try.zeroCells46.size = 256 by kernel_rfl).trans (by rw [List.size_toArray, List.length_map, hlM])
  case h1 => exact all_oneCell_toArray (ints_ok R)
  case k1 => exact all_oneCell_toArray (ints_ok M)
  have HT : Hid (TwoAt w (((((w1.alloc (.cells #[.int .i64 0, .int .i64 0, .int .i64 0, .int .i64 0, .int .i64 0, .int .i64 0, .int .i64 0, .int .i64 0, .int .i64 0, .int .i64 0, .int .i64 0, .int .i64 0, .int .i64 0, .int .i64 0, .int .i64 0, .int .i64 0, .int .i64 0, .int .i64 0, .int .i64 0, .int .i64 0, .int .i64 0, .int .i64 0, .int .i64 0, .int .i64 0, .int .i64 0, .int .i64 0, .int .i64 0, .int .i64 0, .int .i64 0, .int .i64 0, .int .i64 0, .int .i64 0] 45)).alloc (.cells Try.zeroCells46 46)).setRow w1.heap.size (R.map (Value.int .i64)).toArray).setRow (w1.heap.size + 1) (M.map (Value.int .i64)).toArray)) w1.heap.size (w1.heap.size + 1) R M) := hid (by
    have hz := B1.out.size
    refine ⟨hlR, hlM, ?_, ?_, below_setRow (below_setRow (balloc (balloc B1.out _) _) (by omega) _) (by omega) _, by omega, by omega, by omega⟩
    · unfold IntsAt
      rw [setRow_other _ _ _ _ (by omega)]
      exact setRow_heap _ _ _ _ _ _ (heap_alloc2_old _ _ _)
    · unfold IntsAt
      exact setRow_heap _ _ _ _ _ _ (by rw [setRow_other _ _ _ _ (by omega)]; exact heap_alloc2_new _ _ _))
  go_cut [34] (fun v34 wx => v34 = .bool (decide (40 < l.length) || !ok) ∧ wx.heap.size = w1.heap.size + 2 ∧ Hid (TwoAt w wx w1.heap.size (w1.heap.size + 1) R M))
  case first =>
    rcases HOK.out with h | rfl | ⟨h, rfl⟩
    · have h40i : (40 : Int) < (l.length : Int) := by omega
      go_wp2
      go_meet
      case rel => exact ⟨by simp [h], by simp, HT⟩
    · by_cases h : 40 < l.length
      · have h40i : (40 : Int) < (l.length : Int) := by omega
        go_wp2
        go_meet
        case rel => exact ⟨by simp [h], by simp, HT⟩
      · have h40i : ¬ (40 : Int) < (l.length : Int) := by omega
        go_wp2
        go_meet
        case rel => exact ⟨by simp, by simp, HT⟩
    · have h40i : ¬ (40 : Int) < (l.length : Int) := by omega
      have h40j : ¬ 40 < l.length := by omega
      go_wp2
      go_meet
      case rel => exact ⟨by simp; omega, by simp, HT⟩
  case rest =>
    obtain ⟨rfl, hsz, HX⟩ := hcut
    clear HT HOK B1
    cases hb40 : (decide (40 < l.length) || !ok) with
    | true =>
      go_wp2_with fail
      with_reducible refine (CW.out _).mono ?_
      rintro e w2 ⟨rfl, hb⟩
      go_wp2_with fail
      go_ret
      exact ⟨rfl, btrans HX.out.2.2.2.2.1 hb⟩
    | false =>
      have h40 : l.length ≤ 40 := by
        rw [Bool.or_eq_false_iff, decide_eq_false_iff_not] at hb40
        omega
      clear hb40
      have hsz2 := hid hsz
      clear hsz
      obtain ⟨ii, iz, hii, hiz, h1i, h8i, hz1i⟩ := int_info
      obtain ⟨si, sz, hsi, hsz1, h1s, h24s, hz1s⟩ := ints_info
      have II := hid hii
      have IZ := hid hiz
      have I1 := hid h1i
      have I8 := hid h8i
      have IZ1 := hid hz1i
      have SI := hid hsi
      have SZ := hid hsz1
      have S1 := hid h1s
      have S24 := hid h24s
      have SZ1 := hid hz1s
      have IU := hid (Try.underlying50)
      have SU := hid (Try.underlying49)
      clear hii hiz h1i h8i hz1i hsi hsz1 h1s h24s hz1s
      have hR0 := hid (RowsOk.nil l R)
      have h64 := hid (And.intro hR64 hM64)
      clear hR64 hM64 hlR hlM
      generalize hgr : w1.heap.size = gr at *
      clear hgr
      have HGR := hid HX.out.2.2.2.2.2.1
      have hrem4 : (rq + 4) % 4 = rq % 4 := by omega
      go_upto_block 0 with (fail)
      rw [hrem4]
      clear hrem4
      go_cut [11, 12, 13] (fun v11 v12 v13 wx => ∃ (rows : List (List Int)) (xs : List Value) (R' : List Int), rows.length ≤ 4 ∧ Hid (wx.ownsRow (gr + 2) 50 1 v11 rows.length xs) ∧ Hid (NumRows wx (gr + 2) v11.ownBlock rows xs) ∧ Hid (RowsOk l R rows R') ∧ Hid (Below w.heap.size w wx))
      case first =>
        go_wp2_with fail
        go_loopg [11, 12, 13] nn (fun gk v11 v12 v13 wr => ∃ (going : Bool) (rows : List (List Int)) (xs : List Value) (R' M' : List Int), rows.length ≤ nn ∧ v13 = .int .i64 rows.length ∧ v12 = .bool going ∧ Hid (gk + rows.length = nn) ∧ Hid (wr.ownsRow (gr + 2) 50 1 v11 rows.length xs) ∧ Hid (NumRows wr (gr + 2) v11.ownBlock rows xs) ∧ Hid (RowsOk l R rows R') ∧ Hid (TwoAt w wr gr (gr + 1) R' M') ∧ Hid (I64s R' ∧ I64s M') ∧ gr + 2 ≤ wr.heap.size)
        case atStart => exact ⟨true, [], [], R, M, by simp, rfl, rfl, by exact Nat.add_zero _, hid (World.ownsRow_nil _ _ _ _), hid (NumRows.nil _ _ _ _), hR0, HX, h64, by have := hsz2.out; omega⟩
        case round =>
          obtain ⟨going, rows, xs, R', M', hk, rfl, rfl, hg, hown, hrows, hok, hT, h64', hgs⟩ := hrel
          by_cases hlt : rows.length < nn
          · cases going with
            | false =>
              go_wp2
              go_meet
              case rel => exact ⟨rows, xs, R', by omega, hown, hrows, hok, hid hT.out.2.2.2.2.1⟩
            | true =>
              obtain ⟨wo, rfl⟩ : ∃ wo : World, wo = wr := ⟨_, rfl⟩
              go_upto_block 2 with (fail)
              go_cut [12, 14] (fun v12 v14 wx => ∃ (going : Bool) (row : List Int) (R2 M2 : List Int), row.length ≤ 40 ∧ v12 = .bool going ∧ Hid (wx.ownsRow wo.heap.size 3 1 v14 row.length (row.map (Value.int .i64))) ∧ Hid (RowOk l R' row R2) ∧ Hid (Turned gr (gr + 1) wo wx) ∧ Hid (TwoAt w wx gr (gr + 1) R2 M2) ∧ Hid (I64s R2 ∧ I64s M2))
              case first =>
                go_wp2_with fail
                go_loopg [12, 14, 15] l.length (fun gk v12 v14 v15 wr => ∃ (going : Bool) (row : List Int) (R2 M2 : List Int), row.length ≤ l.length ∧ v15 = .int .i64 row.length ∧ v12 = .bool going ∧ Hid (gk + row.length = l.length) ∧ Hid (wr.ownsRow wo.heap.size 3 1 v14 row.length (row.map (Value.int .i64))) ∧ Hid (RowOk l R' row R2) ∧ Hid (Turned gr (gr + 1) wo wr) ∧ Hid (TwoAt w wr gr (gr + 1) R2 M2) ∧ Hid (I64s R2 ∧ I64s M2))
                case atStart => exact ⟨true, [], R', M', by simp, rfl, rfl, by exact Nat.add_zero _, hid (World.ownsRow_nil _ _ _ _), hid (RowOk.nil _ _), hid (Turned.refl _ _ _), hT, h64'⟩
                case round =>
                  obtain ⟨going, row, R2, M2, hi, rfl, rfl, hgi, hownr, hrow, htu, hT2, h642⟩ := hrel
                  by_cases hli : row.length < l.length
                  · cases going with
                    | false =>
                      go_wp2
                      go_meet
                      case rel => exact ⟨false, row, R2, M2, by omega, rfl, hownr, hrow, htu, hT2, h642⟩
                    | true =>
                      obtain ⟨ga, offa, rfl, hop⟩ := HL.out.get row.length hli
                      have hop2 := hop.keep hT2.out.2.2.2.2.1
                      obtain ⟨o0, o1, o2, o3, o4⟩ := hop2
                      have hwf := HW.out l[row.length] (List.getElem_mem hli)
                      have KD : Hid (Calls Try.prog 33 #[l[row.length].val, .pointer (some ⟨gr, 0, none⟩), .pointer (some ⟨gr + 1, 0, none⟩)] wr fun e w' => e = .returned (.tuple #[.int .i64 (doC l[row.length] R2), .bool (doB l[row.length] R2)]) ∧ IntsAt w' gr 45 (doR l[row.length] R2 M2) ∧ IntsAt w' (gr + 1) 46 (doM l[row.length] R2 M2) ∧ Turned gr (gr + 1) wr w') := hid (done_any l[row.length] gr (gr + 1) R2 M2 wr hwf hT2.out.2.2.1 hT2.out.2.2.2.1 hT2.out.2.2.2.2.2.2.2 hT2.out.1 hT2.out.2.1 h642.out.1 h642.out.2)
                      have h642n := hid (doR_i64 (o := l[row.length]) h642.out.1 h642.out.2 hT2.out.1 hT2.out.2.1 hwf)
                      have hrow2 := hid (hrow.out.snoc hli (doR l[row.length] R2 M2) (fun r hr hw => doR_keep hwf R2 M2 r hr hw))
                      have hli0 : (0 : Int) ≤ (row.length : Int) := by omega
                      generalize hRD : doR l[row.length] R2 M2 = R3 at *
                      generalize hMD : doM l[row.length] R2 M2 = M3 at *
                      generalize hCD : doC l[row.length] R2 = cc at *
                      generalize hBD : doB l[row.length] R2 = bb at *
                      clear hop hwf
                      have hgs2 := htu.out.size
                      go_wp2_with fail
                      refine KD.out.mono ?_
                      rintro e w2 ⟨rfl, hi2, hi3, ht⟩
                      have TU2 := hid (htu.out.trans ht)
                      have OR2 := hid (ownsRow_turned hownr.out ht (by omega) (by omega))
                      have HI2 := hid hi2
                      have HI3 := hid hi3
                      have hz2 := ht.size
                      clear ht hi2 hi3 o0 o1 o2 o3 o4 KD
                      go_wp2_with (at_builtin; refine wpList_append_lies _ (by rfl) _ _ _ (by rfl) wo.heap.size 3 ii iz 1 8 IU.out II.out IZ.out I1.out I8.out IZ1.out (by omega) u14 row.length (row.map (Value.int .i64)) (by rfl) ?hown ⟨w2.heap.size, 0, none⟩ 1 1 [.int .i64 cc] (by rfl) (by rfl) ?hnews ?hone (by omega) ?h63 ?hbytes ?hbase _ rfl ?_)
                      case hown => exact own_below OR2.out (balloc (Below.refl _ _) _)
                      case hnews => exact World.news_of_block (heap_new_at _ _ _ (by simp))
                      case hone => intro u hu; simp only [List.mem_cons, List.not_mem_nil, or_false] at hu; subst hu; rfl
                      case h63 => unfold maxLen; omega
                      case hbytes => omega
                      case hbase => simp; omega
                      intro g3 d3 w7 hown7 hgrow7 hat hlt7
                      have OB := hid OR2.out.lt
                      have hne2 : some gr ≠ u14.ownBlock := fun h => by have := (OB.out _ h.symm).1; omega
                      have hne3 : some (gr + 1) ≠ u14.ownBlock := fun h => by have := (OB.out _ h.symm).1; omega
                      have J2 := hid ((HI2.out.keep (balloc (Below.refl _ _) _)).grow hgrow7 hne2)
                      have J3 := hid ((HI3.out.keep (balloc (Below.refl _ _) _)).grow hgrow7 hne3)
                      have TU7 := hid ((TU2.out.trans (Turned.of_below (balloc (Below.refl _ _) _))).grown hgrow7 (fun b hb => (OB.out b hb).1))
                      have B7 := hid (TU7.out.below hT.out.2.2.2.2.1 hT.out.2.2.2.2.2.1 hT.out.2.2.2.2.2.2.1)
                      have OW : Hid (w7.ownsRow wo.heap.size 3 1 (.slice (some ⟨g3, 0, none⟩) (row ++ [cc]).length d3) (row ++ [cc]).length ((row ++ [cc]).map (Value.int .i64))) := hid (by
                        rw [List.length_append, List.map_append]
                        exact hown7)
                      clear hown7 hgrow7 hat hlt7 hne2 hne3
                      go_wp2
                      go_roundg (l.length - (row.length + 1))
                      case measure => have := hgi.out; omega
                      case rel =>
                        refine ⟨bb, row ++ [cc], R3, M3, by rw [List.length_append]; exact hli, by rw [List.length_append]; go_num, rfl, by show _ + _ = _; rw [List.length_append]; show _ + (row.length + 1) = _; omega, ?_, hrow2, TU7, hid ⟨h642n.out.2.2.1, h642n.out.2.2.2, J2.out, J3.out, B7.out, hT.out.2.2.2.2.2.1, hT.out.2.2.2.2.2.2.1, by omega⟩, hid ⟨h642n.out.1, h642n.out.2.1⟩⟩
                        have := OW.out
                        rw [List.length_append] at this ⊢
                        exact hid this
                  · go_wp2
                    go_meet
                    case rel => exact ⟨going, row, R2, M2, by omega, rfl, hownr, hrow, htu, hT2, h642⟩
              case rest =>
                obtain ⟨going, row, R2, M2, hi40, rfl, hownr, hrow, htu, hT2, h642⟩ := hcut
                have O11 := hid (ownsRow_turned hown.out htu.out (by omega) (by omega))
                have N11 := hid (hrows.out.turned htu.out (by omega) (by omega))
                obtain ⟨A14, c14, rfl, hnum⟩ := own_nums hownr.out
                have HN := hid hnum
                have OB := hid hown.out.lt
                have hz := htu.out.size
                clear hnum
                go_wp2_with (at_builtin; refine wpList_append_lies _ (by rfl) _ _ _ (by rfl) (gr + 2) 50 si sz 1 24 SU.out SI.out SZ.out S1.out S24.out SZ1.out (by omega) u11 rows.length xs (by rfl) ?iown ⟨wc.heap.size, 0, none⟩ 1 1 [.slice A14 row.length c14] (by rfl) (by rfl) ?inews ?ione (by omega) ?i63 ?ibytes ?ibase _ rfl ?_)
                case iown => exact own_below O11.out (balloc (Below.refl _ _) _)
                case inews => exact World.news_of_block (heap_new_at _ _ _ (by simp))
                case ione => intro u hu; simp only [List.mem_cons, List.not_mem_nil, or_false] at hu; subst hu; rfl
                case i63 => unfold maxLen; omega
                case ibytes => omega
                case ibase => simp; omega
                intro g3 d3 w8 hown8 hgrow8 hat hlt8
                obtain ⟨W6, hB6, hgrow⟩ : ∃ W6 : World, Hid (Below wc.heap.size wc W6) ∧ Hid (W6.grownBy w8 u11.ownBlock) := ⟨_, hid (balloc (Below.refl _ _) _), hid hgrow8⟩
                have hat2 : Hid (∀ g : Nat, g < wc.heap.size → some g ≠ u11.ownBlock → some g ≠ some g3) := hid fun g hg hne e => by
                  injection e with e
                  subst e
                  rcases hat with h | h
                  · exact hne h.symm
                  · first | omega | (simp at h; omega)
                have hs8 : Hid (wc.heap.size ≤ w8.heap.size) := hid (Nat.le_trans hB6.out.size hgrow.out.size)
                have hk8 : Hid (∀ g off, g < wc.heap.size → some g ≠ u11.ownBlock → w8.cell? ⟨g, off, none⟩ = wc.cell? ⟨g, off, none⟩) := hid fun g off hg hne => (hgrow.out.cell_far ⟨g, off, none⟩ (by have := hB6.out.size; show g < _; omega) hne).trans (hB6.out.cell (p := ⟨g, off, none⟩) hg)
                have hlx : xs.length = rows.length := by have := hown.out.1; omega
                have N8 := hid ((N11.out.far (w' := w8) (r' := some g3) hs8.out (fun g off _ hg hne => hk8.out g off hg hne) hat2.out).snoc (row := row) (A := A14) (c := c14) hlx (fun hne => by
                  obtain ⟨g, ha, hb, hg, hi⟩ := HN.out hne
                  have hgn : some g ≠ u11.ownBlock := fun e => by have := (OB.out g e.symm).2; omega
                  exact ⟨g, ha, by omega, Nat.lt_of_lt_of_le hg hs8.out, hat2.out g hg hgn, fun i x hx => (hk8.out g i hg hgn).trans (hi i x hx)⟩))
                have T8 := hid (hT2.out.grown hB6.out hgrow.out (fun b hb => by have := (OB.out b hb).1; omega))
                have K8 := hid (hok.out.snoc hrow.out)
                have OW8 := hid hown8
                have hrl : (rows ++ [row]).length = rows.length + 1 := by rw [List.length_append]; rfl
                clear hown8 hgrow8 hat hlt8
                go_wp2
                go_roundg (nn - (rows.length + 1))
                case measure => have := hg.out; omega
                case rel =>
                  refine ⟨going, rows ++ [row], xs ++ [.slice A14 row.length c14], R2, M2, by omega, by rw [hrl]; go_num, rfl, by show _ + _ = _; rw [hrl]; omega, ?_, hid ?_, K8, T8, h642, by have := hs8.out; omega⟩
                  · rw [hrl]
                    exact OW8
                  · exact N8.out
          · go_wp2
            go_meet
            case rel => exact ⟨rows, xs, R', by omega, hown, hrows, hok, hid hT.out.2.2.2.2.1⟩
      case rest =>
        obtain ⟨rows, xs, R', hr4, hown, hrows, hok, hB⟩ := hcut
        clear II IZ I1 I8 IZ1 SI SZ S1 S24 SZ1 IU SU HX h64 hR0 HGR hsz2 CS
        have CM := hid (fun (w' : World) (h : OpsIn w' A l) (i j : Int) => Meet_any A l cap i j w' h HW.out hlm hc)
        have CR := hid (fun (w' : World) (h : OpsIn w' A l) (i j : Int) => Round_any A l cap i j w' h HW.out hlm)
        obtain ⟨A11, c11, rfl, h11⟩ := own_rows hown.out
        have H11 := hid h11
        clear h11
        go_wp2
        go_loopg [18] rows.length (fun gk v18 wr => ∃ k : Nat, k ≤ rows.length ∧ v18 = .int .i64 k ∧ Hid (gk + k = rows.length) ∧ Hid (Below wc.heap.size wc wr))
        case atStart => exact ⟨0, by omega, rfl, by exact Nat.add_zero _, hid (Below.refl _ _)⟩
        case round =>
          obtain ⟨k, hk, rfl, hgk, hbk⟩ := hrel
          by_cases hk2 : k < rows.length
          · obtain ⟨g11, rfl, hc11⟩ := H11.out (by omega)
            have HC := hid hc11
            obtain ⟨Ak, ck, hxk, hnk⟩ := hrows.out k rows[k] (List.getElem?_eq_getElem hk2)
            have HNK := hid hnk
            have HQK := hid ((HC.out k hk2).trans hxk)
            have HRK := hid (List.getElem?_eq_getElem hk2)
            have hlk := hok.out.len HRK.out
            clear hc11 hxk hnk
            generalize rows[k] = rk at *
            go_wp2
            go_loopg [19] (rows.length - k) (fun gk v19 wr => ∃ g : Nat, k ≤ g ∧ g ≤ rows.length ∧ v19 = .int .i64 g ∧ Hid (gk + g = rows.length) ∧ Hid (Below wc.heap.size wc wr))
            case atStart => exact ⟨k, Nat.le_refl _, hk, rfl, by show rows.length - k + k = _; omega, hbk⟩
            case round =>
              obtain ⟨g, hkg, hg, rfl, hgg, hbg⟩ := hrel
              by_cases hg2 : g < rows.length
              · obtain ⟨Ag, cg, hxg, hng⟩ := hrows.out g rows[g] (List.getElem?_eq_getElem hg2)
                have HNG := hid hng
                have HQG := hid ((HC.out g hg2).trans hxg)
                have HRG := hid (List.getElem?_eq_getElem hg2)
                have hlg := hok.out.len HRG.out
                clear hxg hng
                generalize rows[g] = rg at *
                go_wp2
                go_loopg [20] rk.length (fun gk v20 wr => ∃ i : Nat, i ≤ rk.length ∧ v20 = .int .i64 i ∧ Hid (gk + i = rk.length) ∧ Hid (Below wc.heap.size wc wr))
                case atStart => exact ⟨0, by omega, rfl, by exact Nat.add_zero _, hbg⟩
                case round =>
                  obtain ⟨i, hi, rfl, hgi, hbi⟩ := hrel
                  have q1 := cell_keep HQK.out hbi.out
                  by_cases hi2 : i < rk.length
                  · obtain ⟨gk, rfl, _, _, _, hck⟩ := HNK.out (by rintro rfl; simp at hi2)
                    have HCK := hid (hck i rk[i] (List.getElem?_eq_getElem hi2))
                    have HRI := hid (List.getElem?_eq_getElem hi2)
                    clear hck
                    generalize rk[i] = ci at *
                    go_wp2
                    go_loopg [21] rg.length (fun gk v21 wr => ∃ j : Nat, j ≤ rg.length ∧ v21 = .int .i64 j ∧ Hid (gk + j = rg.length) ∧ Hid (Below wc.heap.size wc wr))
                    case atStart => exact ⟨0, by omega, rfl, by exact Nat.add_zero _, hbi⟩
                    case round =>
                      clear q1
                      obtain ⟨j, hj, rfl, hgj, hbj⟩ := hrel
                      have q1 := cell_keep HQK.out hbj.out
                      have q2 := cell_keep HQG.out hbj.out
                      by_cases hj2 : j < rg.length
                      · obtain ⟨gg, rfl, _, _, _, hcg⟩ := HNG.out (by rintro rfl; simp at hj2)
                        have hq4 := hcg j rg[j] (List.getElem?_eq_getElem hj2)
                        have HRJ := hid (List.getElem?_eq_getElem hj2)
                        have SF := hid (fun (e : rg[j] = ci) (h0 : 0 ≤ ci) => rows_safe hok.out HW.out HRK.out HRG.out HRI.out (by rw [HRJ.out, e]) h0 (i := i) (j := j) (by omega) (by omega))
                        clear hcg
                        generalize rg[j] = cj at *
                        have q3 := cell_keep HCK.out hbj.out
                        have q4 := cell_keep hq4 hbj.out
                        have BJ := hid (btrans hB.out hbj.out)
                        obtain ⟨ga, offa, rfl, hopi⟩ := HL.out.get i (by omega)
                        obtain ⟨gb, offb, hab, hopj⟩ := HL.out.get j (by omega)
                        injection hab with hab
                        injection hab with e1 e2
                        subst e1 e2
                        obtain ⟨p1, _⟩ := hopi.keep BJ.out
                        obtain ⟨p2, _⟩ := hopj.keep BJ.out
                        have hil : i < l.length := by omega
                        have hjl : j < l.length := by omega
                        have SF2 := hid (fun (e : cj = ci) (h0 : 0 ≤ ci) (h : ¬ (l[i].k = 15 ∧ l[j].k = 15)) => SF.out e h0 h)
                        clear hq4 SF hopi hopj
                        generalize l[i].k = ki at *
                        generalize l[j].k = kj at *
                        rename (∀ (a' : Act) (w' : World), Handed _ _ a' w' → _) => hjK
                        revert hjK
                        repeat (rename (∀ (a' : Act) (w' : World), Handed _ _ a' w' → _) => hh; clear hh)
                        repeat (rename (∀ (a' : Act) (w' : World), Code.wp _ _ _ a' w' → _) => hh; clear hh)
                        intro hjK

                        go_upto_region 30 with (fail)
                        go_cut [146] (fun v146 wx => ∃ b : Bool, v146 = .bool b ∧ Hid (b = false → roundL l i j = true ∧ (k = g → i < j → meetL l i j = true)) ∧ Hid (Below wc.heap.size wc wx))
                        case first =>
                          by_cases h1 : ci < 0
                          · as_aux_lemma =>
                              go_wp2
                              go_quiet (fail)
                              have BN := hid (bdrewN hbj.out nq)
                              go_wp2
                              go_meet
                              case rel => exact ⟨true, rfl, hid (fun h => by cases h), BN⟩
                          · by_cases h2 : cj = ci
                            · subst h2
                              have e1 : (cj != cj) = false := by simp
                              by_cases hb15 : ki = 15 ∧ kj = 15
                              · obtain ⟨rfl, rfl⟩ := hb15
                                clear SF2
                                as_aux_lemma =>
                                  go_wp2
                                  go_quiet (fail)
                                  have BN := hid (bdrewN hbj.out nq)
                                  go_wp2
                                  go_meet
                                  case rel => exact ⟨true, rfl, hid (fun h => by cases h), BN⟩
                              · have HS := hid (SF2.out rfl (by omega) hb15)
                                have hb15b : (ki == 15 && kj == 15) = false := by rw [Bool.eq_false_iff]; intro h; rw [Bool.and_eq_true, beq_iff_eq, beq_iff_eq] at h; exact hb15 h
                                clear SF2
                                by_cases hki : ki = 15
                                · have hki1 : (ki == 15) = true := by rw [hki]; rfl
                                  have hkj1 : (kj == 15) = false := by rw [hki1, Bool.true_and] at hb15b; exact hb15b
                                  clear hb15 hb15b hki
                                  as_aux_lemma =>
                                    go_wp2
                                    go_quiet (fail)
                                    have BN := hid (bdrewN hbj.out nq)
                                    go_wp2
                                    go_meet
                                    case rel => exact ⟨false, by rw [decide_eq_false (by omega)], hid (fun _ => HS.out), BN⟩
                                · have hki1 : (ki == 15) = false := by rw [Bool.eq_false_iff]; intro h; exact hki (eq_of_beq h)
                                  clear hb15 hb15b hki
                                  as_aux_lemma =>
                                    go_wp2
                                    go_quiet (fail)
                                    have BN := hid (bdrewN hbj.out nq)
                                    go_wp2
                                    go_meet
                                    case rel => exact ⟨false, by rw [decide_eq_false (by omega)], hid (fun _ => HS.out), BN⟩
                            · have e1 : (ci != cj) = true := by rw [bne_iff_ne]; exact fun h => h2 h.symm
                              have e2 : (ci == cj) = false := by rw [Bool.eq_false_iff]; intro h; exact h2 (eq_of_beq h).symm
                              replace h2 : ¬ ci = cj := fun h => h2 h.symm
                              clear SF2
                              as_aux_lemma =>
                                go_wp2
                                refine wp_region_quiet_lit (by kernel_rfl) (by kernel_rfl) ?_
                                iterate 25 (quiet_step (fail))
                                repeat (with_reducible refine wpQuiet_step (fun K hK => ?_); go_simp; (first | with_reducible refine hK _ ?_ | (rw [if_neg (by decide)]; with_reducible refine hK _ ?_)); clear hK K)
                                with_reducible refine wpQuiet_nil ?_
                                intro _ hw'
                                obtain ⟨nq, hw''⟩ := hw'
                                subst hw''
                                have BN := hid (bdrewN hbj.out nq)
                                go_wp2
                                go_meet
                                case rel => exact ⟨true, rfl, hid (fun h => by cases h), BN⟩
                        case rest =>
                          obtain ⟨b, rfl, HS, BN⟩ := hcut
                          clear SF2 p1 p2 q1 q2 q3 q4 hbj
                          cases b with
                          | true =>
                            go_wp2
                            go_roundg (rg.length - (j + 1))
                            case measure => have := hgj.out; omega
                            case rel => exact ⟨j + 1, by omega, by go_num, by show _ + _ = _; omega, BN⟩
                          | false =>
                            have HRR := hid (HS.out rfl).1
                            have HMM := hid (HS.out rfl).2
                            clear HS
                            as_aux_lemma =>
                              by_cases hkg2 : g = k
                              · have f1 : ((g : Int) == (k : Int)) = true := by rw [hkg2]; simp
                                have f2 : ¬ (k : Int) < (g : Int) := by omega
                                have f3 : ¬ k < g := by omega
                                have HMM2 := hid (fun h => HMM.out hkg2.symm h)
                                clear HMM hkg2
                                by_cases hij : i < j
                                · have f4 : ((i : Int) != (j : Int)) = true := by rw [bne_iff_ne]; omega
                                  have f5 : (i : Int) < (j : Int) := by omega
                                  have HM3 := hid (HMM2.out hij)
                                  clear HMM2
                                  go_wp2_with fail
                                  with_reducible refine (CM.out _ (HL.out.keep (btrans hB.out BN.out)) _ _).mono ?_
                                  rintro e w4 ⟨rfl, hb⟩
                                  rw [HM3.out]
                                  replace BN := hid (btrans BN.out hb)
                                  clear hb
                                  go_wp2_with fail
                                  with_reducible refine (CR.out _ (HL.out.keep (btrans hB.out BN.out)) _ _).mono ?_
                                  rintro e w5 ⟨rfl, hb⟩
                                  rw [HRR.out]
                                  have BN2 := hid (btrans BN.out hb)
                                  clear hb
                                  go_wp2
                                  go_roundg (rg.length - (j + 1))
                                  case measure => have := hgj.out; omega
                                  case rel => exact ⟨j + 1, by omega, by go_num, by show _ + _ = _; omega, BN2⟩
                                · have f5 : ¬ (i : Int) < (j : Int) := by omega
                                  by_cases hij2 : i = j
                                  · have f4 : ((i : Int) != (j : Int)) = false := by rw [hij2]; simp
                                    clear hij2
                                    go_wp2
                                    go_roundg (rg.length - (j + 1))
                                    case measure => have := hgj.out; omega
                                    case rel => exact ⟨j + 1, by omega, by go_num, by show _ + _ = _; omega, BN⟩
                                  · have f4 : ((i : Int) != (j : Int)) = true := by rw [bne_iff_ne]; omega
                                    clear hij2
                                    go_wp2_with fail
                                    with_reducible refine (CR.out _ (HL.out.keep (btrans hB.out BN.out)) _ _).mono ?_
                                    rintro e w5 ⟨rfl, hb⟩
                                    rw [HRR.out]
                                    have BN2 := hid (btrans BN.out hb)
                                    clear hb
                                    go_wp2
                                    go_roundg (rg.length - (j + 1))
                                    case measure => have := hgj.out; omega
                                    case rel => exact ⟨j + 1, by omega, by go_num, by show _ + _ = _; omega, BN2⟩
                              · have f1 : ((g : Int) == (k : Int)) = false := by rw [Bool.eq_false_iff]; intro h; have := eq_of_beq h; omega
                                have f2 : (k : Int) < (g : Int) := by omega
                                have f3 : k < g := by omega
                                clear hkg2
                                go_wp2_with fail
                                with_reducible refine (CR.out _ (HL.out.keep (btrans hB.out BN.out)) _ _).mono ?_
                                rintro e w5 ⟨rfl, hb⟩
                                rw [HRR.out]
                                have BN2 := hid (btrans BN.out hb)
                                clear hb
                                go_wp2
                                go_roundg (rg.length - (j + 1))
                                case measure => have := hgj.out; omega
                                case rel => exact ⟨j + 1, by omega, by go_num, by show _ + _ = _; omega, BN2⟩
                      · obtain rfl : j = rg.length := by omega
                        go_wp2
                        go_roundg (rk.length - (i + 1))
                        case measure => have := hgi.out; omega
                        case rel => exact ⟨i + 1, by omega, by go_num, by show _ + _ = _; omega, hbj⟩
                  · obtain rfl : i = rk.length := by omega
                    go_wp2
                    go_roundg (rows.length - (g + 1))
                    case measure => have := hgg.out; omega
                    case rel => exact ⟨g + 1, by omega, by omega, by go_num, by show _ + _ = _; omega, hbi⟩
              · obtain rfl : g = rows.length := by omega
                go_wp2
                go_roundg (rows.length - (k + 1))
                case measure => have := hgk.out; omega
                case rel => exact ⟨k + 1, by omega, by go_num, by show _ + _ = _; omega, hbg⟩
          · obtain rfl : k = rows.length := by omega
            go_wp2_with fail
            with_reducible refine (CW.out _).mono ?_
            rintro e w9 ⟨rfl, hb⟩
            go_wp2_with fail
            go_ret
            exact ⟨rfl, btrans (btrans hB.out hbk.out) hb⟩
end Go.Proofs.Ytcibkoodnfkogaa
