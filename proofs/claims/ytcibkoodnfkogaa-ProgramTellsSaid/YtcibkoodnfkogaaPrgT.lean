/- A program is taken just if all its operations, ends and turns are some, and its units are those that its operations need, as the document says, for every program and every table; both stay as they were; no condition. -/
import Derived.Test.YtcibkoodnfkogaaPrg14
import Derived.Test.YtcibkoodnfkogaaPrg15
import Derived.Test.YtcibkoodnfkogaaPrg17
import Derived.Test.YtcibkoodnfkogaaPrg9
import Derived.Deep.RegionHeld3
import Derived.Deep.DrawnRows
namespace Go.Proofs.Ytcibkoodnfkogaa
open Go.RowKit
set_option linter.unusedVariables false
set_option linter.unusedSimpArgs false
theorem sumB_mem {l : List Blk} {b : Blk} (h : b ∈ l) : b.ops.length + b.body.length ≤ sumB l := by
  unfold sumB
  induction l with
  | nil => cases h
  | cons x l ih =>
    rw [List.map_cons, List.sum_cons]
    rcases List.mem_cons.1 h with rfl | h
    · omega
    · have := ih h
      omega
theorem great_prgE {l : List Blk} (h : greatB l = true) : prgE l = 3 := by
  unfold greatB at h
  have := of_decide_eq_true h
  unfold prgE
  rw [if_pos (.inr (by omega))]
theorem great_needE {l : List Blk} {t : List Int} (h : greatB l = true) : needE l t = 3 := by
  unfold needE
  rw [great_prgE h, if_pos (by decide)]
theorem blks_drew {w : World} {A : Option Addr} {l : List Blk} (h : Hid (BlksIn w A l)) : Hid (BlksIn w.drew A l) := hid (h.out.keep (bdrew (Below.refl _ _)))
theorem hid_drew {w w' : World} (h : Hid (Below w.heap.size w w')) : Hid (Below w.heap.size w w'.drew) := hid (bdrew h.out)
theorem below_hid {w w' w2 : World} (h : Hid (Below w.heap.size w w')) (hb : Below w'.heap.size w' w2) : Hid (Below w.heap.size w w2) := hid (btrans h.out hb)
theorem blks_hid {w w' : World} {A : Option Addr} {l : List Blk} (h : Hid (BlksIn w A l)) (hb : Below w.heap.size w w') : Hid (BlksIn w' A l) := hid (h.out.keep hb)
set_option maxHeartbeats 4000000 in
set_option maxRecDepth 100000 in
theorem ProgramTells_walk (A : Option Addr) (l : List Blk) (c : Nat) (t : List Int) (w : World) (hl : BlksIn w A l) (hw : ∀ b ∈ l, b.wf) (hc : l.length ≤ c) (hmx : c ≤ 1954687340000) (ht : t.length = 13) (_ : ∀ n ∈ t, -9223372036854775808 ≤ n ∧ n ≤ 9223372036854775807) :
    Calls Try.prog 9 #[.agg #[.slice A l.length c], .agg (t.map (Value.int .i64)).toArray] w fun e w' => e = .returned (.bool true) ∧ Below w.heap.size w w' := by
  have C0 := hid (fun (w : World) (h : BlksIn w A l) => great_any A l c w h hw (by omega))
  have C1 := hid (fun (w : World) (A : Option Addr) (c : Nat) (h : BlksIn w A l) => prg_check_any A l c w h hw (by omega))
  have C2 := hid (fun (w : World) (h : BlksIn w A l) => rprg_check_any A l c w h hw (by omega))
  have C5 := hid (fun (w : World) (A : Option Addr) (c : Nat) (h : BlksIn w A l) => needs_any A l c t w h hw (by omega) ht)
  have C6 := hid (fun (w : World) (h : BlksIn w A l) => rneeds_any A l c t w h hw (by omega) ht)
  obtain ⟨a0, a1, a2, a3, a4, a5, a6, a7, a8, a9, a10, a11, a12, rfl⟩ := thirteen ht
  have hV : tabV [a0, a1, a2, a3, a4, a5, a6, a7, a8, a9, a10, a11, a12] = tabX a0 a1 a2 a3 a4 a5 a6 a7 a8 a9 a10 a11 a12 := rfl
  have hV2 : Value.agg (([a0, a1, a2, a3, a4, a5, a6, a7, a8, a9, a10, a11, a12].map (Value.int .i64)).toArray) = tabX a0 a1 a2 a3 a4 a5 a6 a7 a8 a9 a10 a11 a12 := rfl
  rw [hV2]
  simp only [hV] at C5
  rw [hV] at C6
  clear hV hV2 ht
  cases hg : greatB l
  case true =>
    simp only [great_prgE hg] at C1
    simp only [great_needE hg] at C5
    rw [hg] at C0
    clear C2 C6 hg
    have HL := hid hl
    clear hl hw hc hmx
    go_enter Try.func9, Try.ntmps9
    go_wp2_with fail
    with_reducible refine (C0.out _ (BlksIn.keep (w := w) HL.out ?_)).mono ?_
    · ((with_reducible (repeat (first | assumption | exact Below.refl _ _ | refine bset ?_ (Nat.le_refl _) _ | refine balloc ?_ _ | refine bdrew ?_ | refine bdrewN ?_ _))); done)
    rintro e w1 ⟨rfl, hb⟩
    have B1 := hid (btrans (a := w) (by ((with_reducible (repeat (first | assumption | exact Below.refl _ _ | refine bset ?_ (Nat.le_refl _) _ | refine balloc ?_ _ | refine bdrew ?_ | refine bdrewN ?_ _))); done)) hb)
    have L1 : Hid (BlksIn w1 A l) := hid (HL.out.keep B1.out)
    have kA : w1.cell? ⟨w.heap.size, 0, none⟩ = some (.slice A l.length c) := cell_keep (by simp) hb
    have k0 : w1.cell? ⟨w.heap.size + 1, 0, none⟩ = some (.int .i64 a0) := by have := cell_keep (TabIn.box a0 a1 a2 a3 a4 a5 a6 a7 a8 a9 a10 a11 a12 (w.alloc (.cells #[.slice A l.length c] 61)) 28 0 (by omega)) hb; rw [hsz] at this; exact this
    have k1 : w1.cell? ⟨w.heap.size + 1, 1, none⟩ = some (.int .i64 a1) := by have := cell_keep (TabIn.box a0 a1 a2 a3 a4 a5 a6 a7 a8 a9 a10 a11 a12 (w.alloc (.cells #[.slice A l.length c] 61)) 28 1 (by omega)) hb; rw [hsz] at this; exact this
    have k2 : w1.cell? ⟨w.heap.size + 1, 2, none⟩ = some (.int .i64 a2) := by have := cell_keep (TabIn.box a0 a1 a2 a3 a4 a5 a6 a7 a8 a9 a10 a11 a12 (w.alloc (.cells #[.slice A l.length c] 61)) 28 2 (by omega)) hb; rw [hsz] at this; exact this
    have k3 : w1.cell? ⟨w.heap.size + 1, 3, none⟩ = some (.int .i64 a3) := by have := cell_keep (TabIn.box a0 a1 a2 a3 a4 a5 a6 a7 a8 a9 a10 a11 a12 (w.alloc (.cells #[.slice A l.length c] 61)) 28 3 (by omega)) hb; rw [hsz] at this; exact this
    have k4 : w1.cell? ⟨w.heap.size + 1, 4, none⟩ = some (.int .i64 a4) := by have := cell_keep (TabIn.box a0 a1 a2 a3 a4 a5 a6 a7 a8 a9 a10 a11 a12 (w.alloc (.cells #[.slice A l.length c] 61)) 28 4 (by omega)) hb; rw [hsz] at this; exact this
    have k5 : w1.cell? ⟨w.heap.size + 1, 5, none⟩ = some (.int .i64 a5) := by have := cell_keep (TabIn.box a0 a1 a2 a3 a4 a5 a6 a7 a8 a9 a10 a11 a12 (w.alloc (.cells #[.slice A l.length c] 61)) 28 5 (by omega)) hb; rw [hsz] at this; exact this
    have k6 : w1.cell? ⟨w.heap.size + 1, 6, none⟩ = some (.int .i64 a6) := by have := cell_keep (TabIn.box a0 a1 a2 a3 a4 a5 a6 a7 a8 a9 a10 a11 a12 (w.alloc (.cells #[.slice A l.length c] 61)) 28 6 (by omega)) hb; rw [hsz] at this; exact this
    have k7 : w1.cell? ⟨w.heap.size + 1, 7, none⟩ = some (.int .i64 a7) := by have := cell_keep (TabIn.box a0 a1 a2 a3 a4 a5 a6 a7 a8 a9 a10 a11 a12 (w.alloc (.cells #[.slice A l.length c] 61)) 28 7 (by omega)) hb; rw [hsz] at this; exact this
    have k8 : w1.cell? ⟨w.heap.size + 1, 8, none⟩ = some (.int .i64 a8) := by have := cell_keep (TabIn.box a0 a1 a2 a3 a4 a5 a6 a7 a8 a9 a10 a11 a12 (w.alloc (.cells #[.slice A l.length c] 61)) 28 8 (by omega)) hb; rw [hsz] at this; exact this
    have k9 : w1.cell? ⟨w.heap.size + 1, 9, none⟩ = some (.int .i64 a9) := by have := cell_keep (TabIn.box a0 a1 a2 a3 a4 a5 a6 a7 a8 a9 a10 a11 a12 (w.alloc (.cells #[.slice A l.length c] 61)) 28 9 (by omega)) hb; rw [hsz] at this; exact this
    have k10 : w1.cell? ⟨w.heap.size + 1, 10, none⟩ = some (.int .i64 a10) := by have := cell_keep (TabIn.box a0 a1 a2 a3 a4 a5 a6 a7 a8 a9 a10 a11 a12 (w.alloc (.cells #[.slice A l.length c] 61)) 28 10 (by omega)) hb; rw [hsz] at this; exact this
    have k11 : w1.cell? ⟨w.heap.size + 1, 11, none⟩ = some (.int .i64 a11) := by have := cell_keep (TabIn.box a0 a1 a2 a3 a4 a5 a6 a7 a8 a9 a10 a11 a12 (w.alloc (.cells #[.slice A l.length c] 61)) 28 11 (by omega)) hb; rw [hsz] at this; exact this
    have k12 : w1.cell? ⟨w.heap.size + 1, 12, none⟩ = some (.int .i64 a12) := by have := cell_keep (TabIn.box a0 a1 a2 a3 a4 a5 a6 a7 a8 a9 a10 a11 a12 (w.alloc (.cells #[.slice A l.length c] 61)) 28 12 (by omega)) hb; rw [hsz] at this; exact this
    clear hb
    go_wp2_with fail
    with_reducible refine (C1.out _ _ _ L1.out).mono ?_
    rintro e w2 ⟨rfl, hb⟩
    have B2 := hid (btrans B1.out hb)
    have L2 : Hid (BlksIn w2 A l) := hid (L1.out.keep hb)
    replace kA := cell_keep kA hb
    replace k0 := cell_keep k0 hb
    replace k1 := cell_keep k1 hb
    replace k2 := cell_keep k2 hb
    replace k3 := cell_keep k3 hb
    replace k4 := cell_keep k4 hb
    replace k5 := cell_keep k5 hb
    replace k6 := cell_keep k6 hb
    replace k7 := cell_keep k7 hb
    replace k8 := cell_keep k8 hb
    replace k9 := cell_keep k9 hb
    replace k10 := cell_keep k10 hb
    replace k11 := cell_keep k11 hb
    replace k12 := cell_keep k12 hb
    clear hb B1 L1
    go_wp2_with fail
    with_reducible refine (C5.out _ _ _ L2.out).mono ?_
    rintro e w3 ⟨rfl, hb3⟩
    go_wp2_with fail
    with_reducible refine (wakes04_any _).mono ?_
    rintro e w4 ⟨rfl, hb4⟩
    go_wp2_with fail
    go_ret
    exact ⟨rfl, btrans (btrans B2.out hb3) hb4⟩
  · have hlen : l.length ≤ 8192 ∧ sumB l ≤ 8192 := by unfold greatB at hg; have := of_decide_eq_false hg; omega
    have C3 := hid (fun (w : World) (A : Option Addr) (c : Nat) (h : BlksIn w A l) => pops_any A l c w h hw (by omega))
    have C4 := hid (fun (w : World) (h : BlksIn w A l) => rpops_any A l c w h hw (by omega))
    have C7 := hid (fun (w : World) (h : BlksIn w A l) => pcopied_any A l c w h (fun b hb => by have := sumB_mem hb; omega) (by omega))
    have C8 := hid (fun (w : World) (A2 : Option Addr) (c2 : Nat) (h2 : BlksIn w A2 l) (h : BlksIn w A l) => plike_any A2 A l c2 c w h2 h hw (by omega))
    rw [hg] at C0
    clear hg
    generalize prgE l = r at C1 C2
    generalize needE l _ = q at C5 C6
    generalize ((l.length : Nat) : Int) + (sumB l : Nat) = m at C3 C4
    have HL := hid hl
    clear hl hw hc hmx hlen
    go_enter Try.func9, Try.ntmps9
    go_wp2_with fail
    with_reducible refine (C0.out _ (BlksIn.keep (w := w) HL.out ?_)).mono ?_
    · ((with_reducible (repeat (first | assumption | exact Below.refl _ _ | refine bset ?_ (Nat.le_refl _) _ | refine balloc ?_ _ | refine bdrew ?_ | refine bdrewN ?_ _))); done)
    rintro e w1 ⟨rfl, hb⟩
    have B1 := hid (btrans (a := w) (by ((with_reducible (repeat (first | assumption | exact Below.refl _ _ | refine bset ?_ (Nat.le_refl _) _ | refine balloc ?_ _ | refine bdrew ?_ | refine bdrewN ?_ _))); done)) hb)
    have L1 : Hid (BlksIn w1 A l) := hid (HL.out.keep B1.out)
    have kA : w1.cell? ⟨w.heap.size, 0, none⟩ = some (.slice A l.length c) := cell_keep (by simp) hb
    have k0 : w1.cell? ⟨w.heap.size + 1, 0, none⟩ = some (.int .i64 a0) := by have := cell_keep (TabIn.box a0 a1 a2 a3 a4 a5 a6 a7 a8 a9 a10 a11 a12 (w.alloc (.cells #[.slice A l.length c] 61)) 28 0 (by omega)) hb; rw [hsz] at this; exact this
    have k1 : w1.cell? ⟨w.heap.size + 1, 1, none⟩ = some (.int .i64 a1) := by have := cell_keep (TabIn.box a0 a1 a2 a3 a4 a5 a6 a7 a8 a9 a10 a11 a12 (w.alloc (.cells #[.slice A l.length c] 61)) 28 1 (by omega)) hb; rw [hsz] at this; exact this
    have k2 : w1.cell? ⟨w.heap.size + 1, 2, none⟩ = some (.int .i64 a2) := by have := cell_keep (TabIn.box a0 a1 a2 a3 a4 a5 a6 a7 a8 a9 a10 a11 a12 (w.alloc (.cells #[.slice A l.length c] 61)) 28 2 (by omega)) hb; rw [hsz] at this; exact this
    have k3 : w1.cell? ⟨w.heap.size + 1, 3, none⟩ = some (.int .i64 a3) := by have := cell_keep (TabIn.box a0 a1 a2 a3 a4 a5 a6 a7 a8 a9 a10 a11 a12 (w.alloc (.cells #[.slice A l.length c] 61)) 28 3 (by omega)) hb; rw [hsz] at this; exact this
    have k4 : w1.cell? ⟨w.heap.size + 1, 4, none⟩ = some (.int .i64 a4) := by have := cell_keep (TabIn.box a0 a1 a2 a3 a4 a5 a6 a7 a8 a9 a10 a11 a12 (w.alloc (.cells #[.slice A l.length c] 61)) 28 4 (by omega)) hb; rw [hsz] at this; exact this
    have k5 : w1.cell? ⟨w.heap.size + 1, 5, none⟩ = some (.int .i64 a5) := by have := cell_keep (TabIn.box a0 a1 a2 a3 a4 a5 a6 a7 a8 a9 a10 a11 a12 (w.alloc (.cells #[.slice A l.length c] 61)) 28 5 (by omega)) hb; rw [hsz] at this; exact this
    have k6 : w1.cell? ⟨w.heap.size + 1, 6, none⟩ = some (.int .i64 a6) := by have := cell_keep (TabIn.box a0 a1 a2 a3 a4 a5 a6 a7 a8 a9 a10 a11 a12 (w.alloc (.cells #[.slice A l.length c] 61)) 28 6 (by omega)) hb; rw [hsz] at this; exact this
    have k7 : w1.cell? ⟨w.heap.size + 1, 7, none⟩ = some (.int .i64 a7) := by have := cell_keep (TabIn.box a0 a1 a2 a3 a4 a5 a6 a7 a8 a9 a10 a11 a12 (w.alloc (.cells #[.slice A l.length c] 61)) 28 7 (by omega)) hb; rw [hsz] at this; exact this
    have k8 : w1.cell? ⟨w.heap.size + 1, 8, none⟩ = some (.int .i64 a8) := by have := cell_keep (TabIn.box a0 a1 a2 a3 a4 a5 a6 a7 a8 a9 a10 a11 a12 (w.alloc (.cells #[.slice A l.length c] 61)) 28 8 (by omega)) hb; rw [hsz] at this; exact this
    have k9 : w1.cell? ⟨w.heap.size + 1, 9, none⟩ = some (.int .i64 a9) := by have := cell_keep (TabIn.box a0 a1 a2 a3 a4 a5 a6 a7 a8 a9 a10 a11 a12 (w.alloc (.cells #[.slice A l.length c] 61)) 28 9 (by omega)) hb; rw [hsz] at this; exact this
    have k10 : w1.cell? ⟨w.heap.size + 1, 10, none⟩ = some (.int .i64 a10) := by have := cell_keep (TabIn.box a0 a1 a2 a3 a4 a5 a6 a7 a8 a9 a10 a11 a12 (w.alloc (.cells #[.slice A l.length c] 61)) 28 10 (by omega)) hb; rw [hsz] at this; exact this
    have k11 : w1.cell? ⟨w.heap.size + 1, 11, none⟩ = some (.int .i64 a11) := by have := cell_keep (TabIn.box a0 a1 a2 a3 a4 a5 a6 a7 a8 a9 a10 a11 a12 (w.alloc (.cells #[.slice A l.length c] 61)) 28 11 (by omega)) hb; rw [hsz] at this; exact this
    have k12 : w1.cell? ⟨w.heap.size + 1, 12, none⟩ = some (.int .i64 a12) := by have := cell_keep (TabIn.box a0 a1 a2 a3 a4 a5 a6 a7 a8 a9 a10 a11 a12 (w.alloc (.cells #[.slice A l.length c] 61)) 28 12 (by omega)) hb; rw [hsz] at this; exact this
    clear hb
    go_wp2_with fail
    refine (C7.out _ L1.out).mono ?_
    rintro e w2 ⟨A2, c2, rfl, hc2, hb2, hb⟩
    have B2 := hid (btrans B1.out hb)
    have L2 : Hid (BlksIn w2 A l) := hid (L1.out.keep hb)
    have M2 := hid hb2
    replace kA := cell_keep kA hb
    replace k0 := cell_keep k0 hb
    replace k1 := cell_keep k1 hb
    replace k2 := cell_keep k2 hb
    replace k3 := cell_keep k3 hb
    replace k4 := cell_keep k4 hb
    replace k5 := cell_keep k5 hb
    replace k6 := cell_keep k6 hb
    replace k7 := cell_keep k7 hb
    replace k8 := cell_keep k8 hb
    replace k9 := cell_keep k9 hb
    replace k10 := cell_keep k10 hb
    replace k11 := cell_keep k11 hb
    replace k12 := cell_keep k12 hb
    clear hb hb2 B1 L1
    go_wp2_with fail
    obtain ⟨W, hW⟩ : ∃ W : World, W = w2.alloc (.cells #[.slice A2 l.length c2] 61) := ⟨_, rfl⟩
    rw [← hW]
    have hb : Below w2.heap.size w2 W := by subst hW; ((with_reducible (repeat (first | assumption | exact Below.refl _ _ | refine bset ?_ (Nat.le_refl _) _ | refine balloc ?_ _ | refine bdrew ?_ | refine bdrewN ?_ _))); done)
    have kM : W.cell? ⟨w2.heap.size, 0, none⟩ = some (.slice A2 l.length c2) := by subst hW; simp
    replace B2 := hid (btrans B2.out hb)
    replace L2 := hid (L2.out.keep hb)
    replace M2 := hid (M2.out.keep hb)
    replace kA := cell_keep kA hb
    replace k0 := cell_keep k0 hb
    replace k1 := cell_keep k1 hb
    replace k2 := cell_keep k2 hb
    replace k3 := cell_keep k3 hb
    replace k4 := cell_keep k4 hb
    replace k5 := cell_keep k5 hb
    replace k6 := cell_keep k6 hb
    replace k7 := cell_keep k7 hb
    replace k8 := cell_keep k8 hb
    replace k9 := cell_keep k9 hb
    replace k10 := cell_keep k10 hb
    replace k11 := cell_keep k11 hb
    replace k12 := cell_keep k12 hb
    clear hb hW
    go_region_held3 (fun w' => w'.cell? ⟨w2.heap.size, 0, none⟩ = some (.slice A2 l.length c2) ∧ w'.cell? ⟨w.heap.size, 0, none⟩ = some (.slice A l.length c) ∧ w'.cell? ⟨w.heap.size + 1, 0, none⟩ = some (.int .i64 a0) ∧ w'.cell? ⟨w.heap.size + 1, 1, none⟩ = some (.int .i64 a1) ∧ w'.cell? ⟨w.heap.size + 1, 2, none⟩ = some (.int .i64 a2) ∧ w'.cell? ⟨w.heap.size + 1, 3, none⟩ = some (.int .i64 a3) ∧ w'.cell? ⟨w.heap.size + 1, 4, none⟩ = some (.int .i64 a4) ∧ w'.cell? ⟨w.heap.size + 1, 5, none⟩ = some (.int .i64 a5) ∧ w'.cell? ⟨w.heap.size + 1, 6, none⟩ = some (.int .i64 a6) ∧ w'.cell? ⟨w.heap.size + 1, 7, none⟩ = some (.int .i64 a7) ∧ w'.cell? ⟨w.heap.size + 1, 8, none⟩ = some (.int .i64 a8) ∧ w'.cell? ⟨w.heap.size + 1, 9, none⟩ = some (.int .i64 a9) ∧ w'.cell? ⟨w.heap.size + 1, 10, none⟩ = some (.int .i64 a10) ∧ w'.cell? ⟨w.heap.size + 1, 11, none⟩ = some (.int .i64 a11) ∧ w'.cell? ⟨w.heap.size + 1, 12, none⟩ = some (.int .i64 a12) ∧ Hid (BlksIn w' A l) ∧ Hid (BlksIn w' A2 l) ∧ Hid (Below w.heap.size w w')) (first | (go_split_ands; (repeat' apply And.intro) <;> (first | assumption | exact cell_keep (by assumption) hb | exact blks_hid (by assumption) hb | exact below_hid (by assumption) hb)) | (go_split_ands; (repeat' apply And.intro) <;> (first | assumption | exact hid_drew (by assumption) | exact blks_drew (by assumption))))
      (first | ((with_reducible refine (C1.out _ _ _ ?_).mono ?_); (next => (go_split_ands; exact Hid.out (by assumption))); rintro e w' ⟨rfl, hb⟩) | ((with_reducible refine (C2.out _ ?_).mono ?_); (next => (go_split_ands; exact Hid.out (by assumption))); rintro e w' ⟨rfl, hb⟩) | ((with_reducible refine (C3.out _ _ _ ?_).mono ?_); (next => (go_split_ands; exact Hid.out (by assumption))); rintro e w' ⟨rfl, hb⟩) | ((with_reducible refine (C4.out _ ?_).mono ?_); (next => (go_split_ands; exact Hid.out (by assumption))); rintro e w' ⟨rfl, hb⟩) | ((with_reducible refine (C5.out _ _ _ ?_).mono ?_); (next => (go_split_ands; exact Hid.out (by assumption))); rintro e w' ⟨rfl, hb⟩) | ((with_reducible refine (C6.out _ ?_).mono ?_); (next => (go_split_ands; exact Hid.out (by assumption))); rintro e w' ⟨rfl, hb⟩))
    all_goals
      go_split_ands
      go_wp2_with fail
      with_reducible refine (C8.out _ _ _ ?_ ?_).mono ?_
      · exact Hid.out (by assumption)
      · exact Hid.out (by assumption)
      rintro e w8 ⟨rfl, hb8⟩
      go_wp2_with fail
      with_reducible refine (wakes04_any _).mono ?_
      rintro e w9 ⟨rfl, hb9⟩
      go_wp2_with fail
      go_ret
      exact ⟨rfl, btrans (btrans (Hid.out (by assumption)) hb8) hb9⟩
end Go.Proofs.Ytcibkoodnfkogaa
