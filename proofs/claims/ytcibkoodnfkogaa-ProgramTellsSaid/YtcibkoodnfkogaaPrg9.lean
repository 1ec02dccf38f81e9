/- Two programs of like blocks are alike. -/
import Derived.Test.YtcibkoodnfkogaaPrg3
import Derived.Test.YtcibkoodnfkogaaLike
namespace Go.Proofs.Ytcibkoodnfkogaa
open Go.RowKit
set_option linter.unusedVariables false
set_option linter.unusedSimpArgs false
set_option maxHeartbeats 4000000 in
set_option maxRecDepth 100000 in
theorem like_below (A A2 : Option Addr) (l : List Op) (cap cap2 : Nat) (w : World) (hl : OpsIn w A l) (hl2 : OpsIn w A2 l) (hm : l.length ≤ 1000000000000000000) :
    Calls Try.prog 31 #[.slice A l.length cap, .slice A2 l.length cap2] w fun e w' => e = .returned (.bool true) ∧ Below w.heap.size w w' :=
  (like_any A A2 l cap cap2 w hl hl2 hm).mono fun _ _ ⟨h1, n, h2⟩ => ⟨h1, by subst h2; exact bdrewN (Below.refl _ _) _⟩
set_option maxHeartbeats 4000000 in
set_option maxRecDepth 100000 in
theorem plike_any (A A2 : Option Addr) (l : List Blk) (cap cap2 : Nat) (w : World) (hl : BlksIn w A l) (hl2 : BlksIn w A2 l) (hw : ∀ b ∈ l, b.wf) (hm : l.length ≤ 1000000000000000000) :
    Calls Try.prog 43 #[.agg #[.slice A l.length cap], .agg #[.slice A2 l.length cap2]] w fun e w' => e = .returned (.bool true) ∧ Below w.heap.size w w' := by
  have HL := hid hl
  have HL2 := hid hl2
  have HW := hid hw
  clear hl hl2 hw
  go_enter Try.func43, Try.ntmps43
  go_wp2
  go_loopg [5] l.length (fun g v wr => ∃ i : Nat, i ≤ l.length ∧ v = .int .i64 i ∧ Hid (g + i = l.length) ∧ wr.cell? ⟨w.heap.size, 0, none⟩ = some (.slice A l.length cap) ∧ wr.cell? ⟨w.heap.size + 1, 0, none⟩ = some (.slice A2 l.length cap2) ∧ Below w.heap.size w wr)
  case atStart =>
    refine ⟨0, by omega, rfl, by exact Nat.add_zero _, by simp, by simp, ?_⟩
    ((with_reducible (repeat (first | assumption | exact Below.refl _ _ | refine bset ?_ (Nat.le_refl _) _ | refine balloc ?_ _ | refine bdrew ?_ | refine bdrewN ?_ _))); done)
  case round =>
    obtain ⟨i, hi, rfl, hg, hcell, hcell2, hbw⟩ := hrel
    have hgw : w.heap.size < wr.heap.size := World.block_lt_of_cell? wr _ hcell
    have hgw2 : w.heap.size + 1 < wr.heap.size := World.block_lt_of_cell? wr _ hcell2
    by_cases hlt : i < l.length
    · obtain ⟨g, off, rfl, hop⟩ := (BlksIn.keep HL.out hbw).get i hlt
      obtain ⟨g2, off2, rfl, hop2⟩ := (BlksIn.keep HL2.out hbw).get i hlt
      obtain ⟨B, c, B2, c2, k0, k1, k2, k3, k4, k5, o1, o2, _, _⟩ := hop
      obtain ⟨D, d, D2, d2, j0, j1, j2, j3, j4, j5, p1, p2, _, _⟩ := hop2
      have O1 := hid o1
      have O2 := hid o2
      have P1 := hid p1
      have P2 := hid p2
      clear o1 o2 p1 p2
      have hwf := hid (HW.out l[i] (List.getElem_mem hlt))
      have m0 := hwf.out.m0
      have m1 := hwf.out.m1
      have hgs : g < wr.heap.size := World.block_lt_of_cell? wr _ k0
      have hgs2 : g2 < wr.heap.size := World.block_lt_of_cell? wr _ j0
      have hb0 := hid hbw
      clear hbw
      have hij : (i : Int) < (l.length : Int) := by omega
      have hi0 : (0 : Int) ≤ (i : Int) := by omega
      have C1 := hid (fun (w : World) (h : OpsIn w B l[i].ops) (h2 : OpsIn w D l[i].ops) => like_below B D l[i].ops c d w h h2 (by omega))
      have C2 := hid (fun (w : World) (h : OpsIn w B2 l[i].body) (h2 : OpsIn w D2 l[i].body) => like_below B2 D2 l[i].body c2 d2 w h h2 (by omega))
      go_wp2_with fail
      with_reducible refine (C1.out _ (OpsIn.keep (w := wr) O1.out ?_) (OpsIn.keep (w := wr) P1.out ?_)).mono ?_
      · ((with_reducible (repeat (first | assumption | exact Below.refl _ _ | refine bset ?_ (Nat.le_refl _) _ | refine balloc ?_ _ | refine bdrew ?_ | refine bdrewN ?_ _))); done)
      · ((with_reducible (repeat (first | assumption | exact Below.refl _ _ | refine bset ?_ (Nat.le_refl _) _ | refine balloc ?_ _ | refine bdrew ?_ | refine bdrewN ?_ _))); done)
      rintro e w2 ⟨rfl, hb⟩
      have hbr : Below wr.heap.size wr w2 := btrans (a := wr) (by ((with_reducible (repeat (first | assumption | exact Below.refl _ _ | refine bset ?_ (Nat.le_refl _) _ | refine balloc ?_ _ | refine bdrew ?_ | refine bdrewN ?_ _))); done)) hb
      have BB2 := hid (btrans hb0.out hbr)
      have h2cell := cell_keep hcell hbr
      have h2cell2 := cell_keep hcell2 hbr
      have n3 : w2.cell? ⟨wr.heap.size, 3, none⟩ = some (.slice B2 l[i].body.length c2) := cell_keep (by simp) hb
      have n33 : w2.cell? ⟨wr.heap.size + 1, 3, none⟩ = some (.slice D2 l[i].body.length d2) := cell_keep (by simp) hb
      have O22 := hid (O2.out.keep hbr)
      have P22 := hid (P2.out.keep hbr)
      clear hb
      go_wp2_with fail
      with_reducible refine (C2.out _ O22.out P22.out).mono ?_
      rintro e w3 ⟨rfl, hb⟩
      go_wp2
      go_roundg (l.length - (i + 1))
      case measure => have := hg.out; omega
      case rel => exact ⟨i + 1, by omega, by go_num, by show _ + _ = _; omega, cell_keep h2cell hb, cell_keep h2cell2 hb, btrans BB2.out hb⟩
    · obtain rfl : i = l.length := by omega
      go_wp2
      go_ret
      exact ⟨rfl, hbw⟩
end Go.Proofs.Ytcibkoodnfkogaa
