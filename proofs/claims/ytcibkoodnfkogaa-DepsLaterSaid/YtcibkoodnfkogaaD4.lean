/- The finder's put. -/
import Derived.Test.YtcibkoodnfkogaaD3
import Derived.Deep.RegionLaw
namespace Go.Proofs.Ytcibkoodnfkogaa
open Go.RowKit
set_option linter.unusedVariables false
set_option linter.unusedSimpArgs false
/-- More was found, and nothing else was turned. -/
def EmitP (w0 : World) (B g cap : Nat) (A : Option Addr) (l : List Op) (t : List Int) (v : Value) (out es : List Edge) (w : World) (e : Ending) (w' : World) : Prop :=
  ∃ v', e = .returned (.tuple #[]) ∧ FindAt w0 w' B g A cap l t v' (out ++ es) ∧ Spared g v v' w w'
theorem edge_one (x : Edge) : ∀ u ∈ x.cells, u.oneCell' = true := by
  intro u hu
  simp only [Edge.cells, List.mem_cons, List.not_mem_nil, or_false] at hu
  rcases hu with rfl | rfl | rfl | rfl | rfl <;> rfl
set_option maxHeartbeats 4000000 in
set_option maxRecDepth 100000 in
theorem put_any {w0 w : World} {B g cap : Nat} {A : Option Addr} {l : List Op} {t : List Int} {v : Value} {out : List Edge} (h : FindAt w0 w B g A cap l t v out) (b : Nat) (x : Edge) (hx : ∀ k c, x.cells[k]? = some c → w.cell? ⟨b, k, none⟩ = some c) (i j ds : Int) (ho : out.length ≤ 100000000) :
    Calls Try.prog 117 #[.pointer (some ⟨g, 0, none⟩), .int .i64 i, .int .i64 j, .int .i64 ds, .slice (some ⟨b, 0, none⟩) 1 1] w (EmitP w0 B g cap A l t v out [Edge.mk i j x.l ds x.y] w) := by
  obtain ⟨ii, iz, hii, hiz, h5i, h40i, hz5i⟩ := edge_info
  have EI := hid hii
  have EZ := hid hiz
  have E5 := hid h5i
  have E40 := hid h40i
  have EZ5 := hid hz5i
  have EU := hid (Try.underlying93)
  have q0 := hx 0 _ rfl
  have q1 := hx 1 _ rfl
  have q2 := hx 2 _ rfl
  have q3 := hx 3 _ rfl
  have q4 := hx 4 _ rfl
  have c16 := h.cv
  have f16 := h.fz
  have hgw := h.gw
  have hbw : b < w.heap.size := World.block_lt_of_cell? w _ q0
  have H := hid h
  have HNE : Hid (some g ≠ v.ownBlock) := hid fun e => by have := (h.own.lt g e.symm).1; have := h.gB; omega
  have hBw := h.Bw
  clear h hx hii hiz h5i h40i hz5i
  go_enter Try.func117, Try.ntmps117
  go_wp2
  go_loopg [14] 1 (fun gk v14 wr => ∃ k : Nat, k ≤ 1 ∧ v14 = .int .i64 k ∧ Hid (gk + k = 1) ∧ Hid (k = 0 → wr = w) ∧ Hid (k = 1 → ∃ v', FindAt w0 wr B g A cap l t v' (out ++ [Edge.mk i j x.l ds x.y]) ∧ Spared g v v' w wr))
  case atStart => exact ⟨0, by omega, rfl, rfl, hid (fun _ => rfl), hid (fun h => by cases h)⟩
  case round =>
    obtain ⟨k, hk, rfl, hgk, hk0, hk1⟩ := hrel
    by_cases hk2 : k = 0
    · subst hk2
      obtain rfl := hk0.out rfl
      clear hk0 hk1
      go_wp2
      go_region_law ((refine step_append_lies _ (by rfl) _ _ _ (by rfl) B 99 ii iz 5 40 EU.out EI.out EZ.out E5.out E40.out EZ5.out (by omega) v out.length (edgesV out) (by rfl) (own_below H.out.own (by ((with_reducible (repeat (first | assumption | exact Below.refl _ _ | refine bset ?_ (Nat.le_refl _) _ | refine balloc ?_ _ | refine bdrew ?_ | refine bdrewN ?_ _))); done))) ⟨wr.heap.size + 1, 0, none⟩ 1 1 (Edge.cells ⟨i, j, x.l, ds, x.y⟩) (by rfl) (by rfl) (World.news_of_block (heap_new_at _ _ _ (by simp))) (edge_one _) (by omega) (by unfold maxLen; omega) (by omega) (by simp; omega) _ rfl ?_); intro g3 d3 w9 hown9 hgrow9 hat9 hlt9; have r9 := hgrow9.cell (cell_keep c16 (by ((with_reducible (repeat (first | assumption | exact Below.refl _ _ | refine bset ?_ (Nat.le_refl _) _ | refine balloc ?_ _ | refine bdrew ?_ | refine bdrewN ?_ _))); done))) HNE.out; have f9 := (hgrow9.frozen_far ⟨g, 16, none⟩ (by simp; omega) HNE.out).trans (frozen_keep f16 hgw (by ((with_reducible (repeat (first | assumption | exact Below.refl _ _ | refine bset ?_ (Nat.le_refl _) _ | refine balloc ?_ _ | refine bdrew ?_ | refine bdrewN ?_ _))); done))))
      all_goals
        have OW : w9.ownsRow B 99 5 (.slice (some ⟨g3, 0, none⟩) (out.length + 1) d3) (out ++ [Edge.mk i j x.l ds x.y]).length (edgesV (out ++ [Edge.mk i j x.l ds x.y])) := by
          rw [edgesV_app, List.length_append]
          exact hown9
        have F9 : Hid (FindAt w0 (w9.setCell ⟨g, 16, none⟩ (.slice (some ⟨g3, 0, none⟩) (out.length + 1) d3)) B g A cap l t (.slice (some ⟨g3, 0, none⟩) (out.length + 1) d3) (out ++ [Edge.mk i j x.l ds x.y])) := hid (by
          refine H.out.grown ?_ hgrow9 OW
          ((with_reducible (repeat (first | assumption | exact Below.refl _ _ | refine bset ?_ (Nat.le_refl _) _ | refine balloc ?_ _ | refine bdrew ?_ | refine bdrewN ?_ _))); done))
        have S9 : Hid (Spared g v (.slice (some ⟨g3, 0, none⟩) (out.length + 1) d3) wr (w9.setCell ⟨g, 16, none⟩ (.slice (some ⟨g3, 0, none⟩) (out.length + 1) d3))) := hid (by
          refine H.out.spared ?_ hgrow9 ?_
          · ((with_reducible (repeat (first | assumption | exact Below.refl _ _ | refine bset ?_ (Nat.le_refl _) _ | refine balloc ?_ _ | refine bdrew ?_ | refine bdrewN ?_ _))); done)
          · rcases hat9 with e | e
            · exact .inl e.symm
            · refine .inr fun k hk => ?_
              injection hk with hk
              subst hk
              exact Nat.le_of_eq e.symm)
        clear hown9 hgrow9 hat9 hlt9 OW
        go_wp2
        go_roundg 0
        case measure => have := hgk.out; omega
        case rel =>
          have K1 : Hid (1 = 1 → ∃ v', FindAt w0 (w9.setCell ⟨g, 16, none⟩ (.slice (some ⟨g3, 0, none⟩) (out.length + 1) d3)) B g A cap l t v' (out ++ [Edge.mk i j x.l ds x.y]) ∧ Spared g v v' wr (w9.setCell ⟨g, 16, none⟩ (.slice (some ⟨g3, 0, none⟩) (out.length + 1) d3))) := hid (fun _ => ⟨_, F9.out, S9.out⟩)
          exact ⟨1, by omega, by go_num, rfl, hid (fun h => by cases h), K1⟩
    · obtain rfl : k = 1 := by omega
      obtain ⟨v', h1, h2⟩ := hk1.out rfl
      have H1 := hid h1
      have H2 := hid h2
      clear h1 h2 hk1 hk0
      go_wp2
      refine bodyPost_ret (v := .tuple #[]) (by simp [results, Try.results117, go_sem]) rfl ⟨v', rfl, H1.out, H2.out⟩
end Go.Proofs.Ytcibkoodnfkogaa
