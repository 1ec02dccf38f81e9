/- What an operation takes more. -/
import Derived.Test.YtcibkoodnfkogaaRV2
import Derived.Test.YtcibkoodnfkogaaBase2
import Derived.Deep.LoopGhost
import Derived.Deep.RegionWith
namespace Go.Proofs.Ytcibkoodnfkogaa
open Go.RowKit Go.Maps
set_option linter.unusedVariables false
set_option linter.unusedSimpArgs false
/-- The object: a table, turns, any cycle or no, what is busy. -/
def rcells (t : List Int) (F : FuncId) (rcv : Value) (any : Bool) (b : Nat) : List Value := t.map (Value.int .i64) ++ [.func (.func F) #[rcv] #[], .bool any, .map (some b)]
def ResC (w : World) (p b : Nat) (t : List Int) (F : FuncId) (rcv : Value) (any : Bool) : Prop := w.heap[p]? = some (.cells (rcells t F rcv any b).toArray 113)
theorem ResC.lt {w : World} {p b : Nat} {t : List Int} {F : FuncId} {rcv : Value} {any : Bool} (h : ResC w p b t F rcv any) : p < w.heap.size := (Array.getElem?_eq_some_iff.1 h).1
theorem ResC.keep {w w' : World} {p b : Nat} {t : List Int} {F : FuncId} {rcv : Value} {any : Bool} (h : ResC w p b t F rcv any) {row : Option Nat} (hg : w.grownBy w' row) (hne : some p ≠ row) : ResC w' p b t F rcv any := (hg.block p h.lt hne).trans h
theorem ResC.cell {w : World} {p b : Nat} {t : List Int} {F : FuncId} {rcv : Value} {any : Bool} (h : ResC w p b t F rcv any) (j : Nat) (v : Value) (hv : (rcells t F rcv any b)[j]? = some v) : w.cell? ⟨p, j, none⟩ = some v := by
  rw [cell_of_row _ _ _ _ _ _ h]
  simpa using hv
theorem rcells_tab (t : List Int) (F : FuncId) (rcv : Value) (any : Bool) (b : Nat) (ht : t.length = 13) (j : Nat) (hj : j < 13) : (rcells t F rcv any b)[j]? = some (.int .i64 (t[j]?.getD 0)) := by
  unfold rcells
  rw [List.getElem?_append_left (by simp; omega)]
  simp [List.getElem?_eq_getElem (show j < t.length by omega)]
theorem rcells_end (t : List Int) (F : FuncId) (rcv : Value) (any : Bool) (b : Nat) (ht : t.length = 13) (j : Nat) : (rcells t F rcv any b)[13 + j]? = [.func (.func F) #[rcv] #[], Value.bool any, .map (some b)][j]? := by
  unfold rcells
  rw [List.getElem?_append_right (by simp; omega)]
  simp [ht]
theorem ResC.tab {w : World} {p b : Nat} {t : List Int} {F : FuncId} {rcv : Value} {any : Bool} (h : ResC w p b t F rcv any) (ht : t.length = 13) (j : Nat) (hj : j < 13) : w.cell? ⟨p, j, none⟩ = some (.int .i64 (t[j]?.getD 0)) := h.cell j _ (rcells_tab t F rcv any b ht j hj)
theorem ResC.fn {w : World} {p b : Nat} {t : List Int} {F : FuncId} {rcv : Value} {any : Bool} (h : ResC w p b t F rcv any) (ht : t.length = 13) : w.cell? ⟨p, 13, none⟩ = some (.func (.func F) #[rcv] #[]) := h.cell 13 _ (rcells_end t F rcv any b ht 0)
theorem ResC.any {w : World} {p b : Nat} {t : List Int} {F : FuncId} {rcv : Value} {any : Bool} (h : ResC w p b t F rcv any) (ht : t.length = 13) : w.cell? ⟨p, 14, none⟩ = some (.bool any) := h.cell 14 _ (rcells_end t F rcv any b ht 1)
theorem ResC.map {w : World} {p b : Nat} {t : List Int} {F : FuncId} {rcv : Value} {any : Bool} (h : ResC w p b t F rcv any) (ht : t.length = 13) : w.cell? ⟨p, 15, none⟩ = some (.map (some b)) := h.cell 15 _ (rcells_end t F rcv any b ht 2)
/-- How often a cycle is met in n cycles from a. -/
def moreF (tn : Int → Int) (a : Int) : Nat → Int → Int
  | 0, _ => 0
  | n + 1, k => moreF tn a n k + if tn (a + n) = k then 1 else 0
theorem moreF_bd (tn : Int → Int) (a : Int) (n : Nat) (k : Int) : 0 ≤ moreF tn a n k ∧ moreF tn a n k ≤ n := by
  induction n with
  | zero => simp [moreF]
  | succ n ih => unfold moreF; split <;> omega
def moreC (tn : Int → Int) (cl a : Int) (n : Nat) (c k : Int) : Int := if c = cl then moreF tn a n k else 0
theorem moreC_succ (tn : Int → Int) (cl a : Int) (n : Nat) : (fun c' k' => if c' = cl ∧ k' = tn (a + n) then moreC tn cl a n cl (tn (a + n)) + 1 else moreC tn cl a n c' k') = moreC tn cl a (n + 1) := by
  funext c' k'
  unfold moreC
  simp only [if_true]
  by_cases h : c' = cl
  · subst h
    simp only [true_and, if_true]
    show _ = moreF tn a n k' + if tn (a + n) = k' then 1 else 0
    by_cases h2 : k' = tn (a + n)
    · subst h2; simp
    · rw [if_neg h2, if_neg (fun e => h2 e.symm)]; omega
  · simp [h]
theorem Full.put {F : Int → Int → Int} {D : DataW Nat} (h : Full F D) {c k : Int} (hc : okI c) (hk : okI k) {x : Int} (hx : 0 < x) : Full (fun c' k' => if c' = c ∧ k' = k then x else F c' k') (D.put (klA c k) (.lit (.int .i64 x))) := by
  intro c' k' hc' hk' hh
  show 0 < (if c' = c ∧ k' = k then x else F c' k')
  by_cases he : c' = c ∧ k' = k
  · rw [if_pos he]; exact hx
  · rw [if_neg he]
    rw [has_put_other (fun e => he (klA_inj hc' hk' hc hk e))] at hh
    exact h c' k' hc' hk' hh
/-- The table that an operation's cycles make. -/
def MoreAt (w : World) (bm n : Nat) (F : Int → Int → Int) : Prop := ∃ D, MapF w bm n F D ∧ Full F D
theorem MoreAt.keep {w w' : World} {bm n : Nat} {F : Int → Int → Int} (h : MoreAt w bm n F) {row : Option Nat} (hg : w.grownBy w' row) (hne : some bm ≠ row) : MoreAt w' bm n F := by
  obtain ⟨D, h1, h2⟩ := h
  exact ⟨D, h1.keep hg hne, h2⟩
theorem MapF.drew {w : World} {b n : Nat} {F : Int → Int → Int} {D : DataW Nat} (h : MapF w b n F D) : MapF w.drew b n F D := ⟨h.1.drew, h.2⟩
theorem el_field (y : Int) (w : World) : (Instr.field 117 (.agg #[.int .i64 y]) 0).run Try.prog w = .ok (.int .i64 y) w := by first | kernel_rfl | go_simp
theorem gb_of_below {w w' : World} (h : Below w.heap.size w w') : w.grownBy w' none := ⟨h.os, h.tape, h.output, h.size, fun k hk _ => h.block k hk⟩
set_option maxHeartbeats 4000000 in
set_option maxRecDepth 100000 in
theorem more_any {w : World} {p b : Nat} {t : List Int} {F : FuncId} {rcv : Value} {any : Bool} {tn : Int → Int} (h : ResC w p b t F rcv any) (ht : t.length = 13) (hok : tabOk t = true) (HT : Turns F rcv tn) (cl : Nat) (hcl : cl < 4) (cy : Int) (hcy : inC cy) (hcy1 : -1099511627776 ≤ cy ∧ cy ≤ 1099511627776) (hcy2 : -1099511627776 ≤ tn cy ∧ tn cy ≤ 1099511627776) :
    Calls Try.prog 65 #[.pointer (some ⟨p, 0, none⟩), .int .i64 cl, .int .i64 cy] w fun e w' =>
      ∃ bm, e = .returned (.map (some bm)) ∧ w.heap.size ≤ bm ∧ MoreAt w' bm 4 (moreC tn cl (tn cy) (t[8 + cl]?.getD 0).toNat) ∧ Below w.heap.size w w' := by
  have hB := busy_bd hok cl hcl
  obtain ⟨n, hn⟩ : ∃ n : Nat, t[8 + cl]?.getD 0 = n := ⟨_, (Int.toNat_of_nonneg (by omega)).symm⟩
  rw [hn, Int.toNat_natCast]
  have hn4 : n ≤ 4 := by omega
  have r0 := h.tab ht (8 + cl) (by omega)
  rw [hn] at r0
  have r1 := h.fn ht
  have hplt := h.lt
  have hmm := @run_makeMap Try.prog
  have hcall := HT.call
  have T0 := hid HT.turn
  have hbd := hid HT.bd
  have hcy0 := hid (inC_ok hcy)
  have hclI : okI cl := by unfold okI; omega
  clear HT h ht hok hB hn
  go_enter Try.func65, Try.ntmps65
  go_wp2_with fail
  with_reducible refine (T0.out _ _ hcy0.out).mono ?_
  rintro e w1 ⟨rfl, hb1⟩
  have M0 : Hid (MoreAt w1 w.heap.size 0 (moreC tn cl (tn cy) 0)) := hid (by
    have e : moreC tn cl (tn cy) 0 = fun _ _ => 0 := by funext c k; unfold moreC; split <;> rfl
    rw [e]
    exact MoreAt.keep (row := none) ⟨_, MapF.made w, fun c k _ _ hh => by cases hh⟩ (gb_of_below hb1) (by simp))
  have B1 : Hid (Below w.heap.size w w1) := hid (btrans (balloc (Below.refl _ _) _) hb1)
  have hs1 : w.heap.size < w1.heap.size := by have := hb1.size; simp at this; omega
  replace r0 := cell_keep r0 B1.out
  have r1w := hid r1
  replace r1 := cell_keep r1 B1.out
  have hplt1 : p < w1.heap.size := by omega
  clear hb1
  go_wp2_with fail
  go_loopg [25] n (fun g v wr => ∃ j : Nat, j ≤ n ∧ v = .int .i64 j ∧ Hid (g + j = n) ∧ Hid (MoreAt wr w.heap.size j (moreC tn cl (tn cy) j)) ∧ Hid (Below w.heap.size w wr) ∧ w.heap.size < wr.heap.size)
  case atStart => exact ⟨0, by omega, rfl, by exact Nat.add_zero _, M0, B1, hs1⟩
  case round =>
    obtain ⟨j, hj, rfl, hg, hM, hB, hsz⟩ := hrel
    by_cases hlt : j < n
    · replace r1 := cell_keep r1w.out hB.out
      have hsz1 : w.heap.size < wr.heap.size + 1 := by omega
      have hin : okI (tn cy + j) := by unfold okI; omega
      have hw1 : IntKind.i64.wrap (tn cy + j) = tn cy + j := by rw [IntKind.wrap_i64]; omega
      have hin2 : Hid (okI (tn (tn cy + j))) := hid (inC_ok (hbd.out _ (by unfold inC; omega)))
      go_wp2_with fail
      with_reducible refine (T0.out _ _ hin).mono ?_
      rintro e w2 ⟨rfl, hb2⟩
      have M2 := hid (hM.out.keep (row := none) (gb_of_below hb2) (by simp))
      have B2 := hid (btrans hB.out hb2)
      have hs2 : w.heap.size < w2.heap.size := by have := hb2.size; omega
      clear hM hB hb2
      go_upto_region 7 with (fail)
      obtain ⟨D, hD, hDf⟩ := M2.out
      have hDm : MapF (w2.alloc (Obj.cells #[Value.int IntKind.i64 ↑cl, Value.int IntKind.i64 (tn (tn cy + ↑j))] 116)).drew w.heap.size j (moreC tn cl (tn cy) j) D := MapF.drew (hD.keep (row := none) (World.grownBy_alloc w2 _ none) (by simp))
      have hx : moreC tn cl (tn cy) j cl (tn (tn cy + j)) = moreF tn (tn cy) j (tn (tn cy + j)) := by unfold moreC; rw [if_pos rfl]
      have hxb := moreF_bd tn (tn cy) j (tn (tn cy + j))
      have hlook := hDm.look hclI hin2.out
      obtain ⟨w9, hupd, hD9, hg9⟩ := hDm.put hclI hin2.out (by unfold maxLen; omega) (moreC tn cl (tn cy) j cl (tn (tn cy + j)) + 1)
      have F9 := hDf.put hclI hin2.out (show 0 < moreC tn cl (tn cy) j cl (tn (tn cy + j)) + 1 by omega)
      rw [moreC_succ] at hD9 F9
      have M9 : Hid (MoreAt w9 w.heap.size (j + 1) (moreC tn cl (tn cy) (j + 1))) := hid ⟨_, hD9, F9⟩
      have hwx : IntKind.i64.wrap (moreC tn cl (tn cy) j cl (tn (tn cy + j)) + 1) = moreC tn cl (tn cy) j cl (tn (tn cy + j)) + 1 := by rw [IntKind.wrap_i64]; omega
      generalize hy : moreC tn cl (tn cy) j cl (tn (tn cy + j)) = y at *
      have B9 : Hid (Below w.heap.size w w9) := hid (Below.grown (row := some w.heap.size) (bdrew (balloc B2.out (Obj.cells #[Value.int IntKind.i64 ↑cl, Value.int IntKind.i64 (tn (tn cy + ↑j))] 116))) hg9 (by show w.heap.size ≤ (w2.alloc _).heap.size; simp; omega) (fun k hk => by cases hk; exact Nat.le_refl _))
      have hs9 : w.heap.size < w9.heap.size := by have := hg9.size; simp at this; omega
      clear hD hDm hD9 F9 hDf hx hxb hg9 M2
      have hfld := el_field
      go_region
      go_wp2_with fail
      go_roundg (n - (j + 1))
      case measure => have := hg.out; omega
      case rel => exact ⟨j + 1, by omega, by go_num, by show _ + _ = _; omega, M9, B9, hs9⟩
    · obtain rfl : j = n := by omega
      go_wp2
      go_ret
      obtain ⟨D, hD, hDf⟩ := hM.out
      exact ⟨_, rfl, Nat.le_refl _, ⟨D, ⟨hD.1.mono hn4, hD.2⟩, hDf⟩, hB.out⟩
end Go.Proofs.Ytcibkoodnfkogaa
