/- start: the state's registers and cells. -/
import Derived.Test.YtcibkoodnfkogaaArr
import Derived.Deep.RegionHeld3
namespace Go.Proofs.Ytcibkoodnfkogaa
open Go.RowKit
set_option linter.unusedVariables false
set_option linter.unusedSimpArgs false
def StartP (b : Bool) (w : World) (e : Ending) (w' : World) : Prop :=
  ∃ R M : List Int, R.length = 32 ∧ M.length = 256 ∧ I64s R ∧ I64s M ∧ e = .returned (.tuple #[numsV R, numsV M, .bool b]) ∧ Below w.heap.size w w'
theorem zero256 : Try.zeroCells46 = ((List.replicate 256 0).map (Value.int .i64)).toArray := by kernel_rfl
theorem size32 : (Try.prog.info? 45).map (·.size) = some 32 := by kernel_rfl
theorem size256 : (Try.prog.info? 46).map (·.size) = some 256 := by kernel_rfl
/-- Both rows lie there, all else is as it was. -/
def TwoAt (w0 w : World) (g2 g3 : Nat) (R M : List Int) : Prop := R.length = 32 ∧ M.length = 256 ∧ IntsAt w g2 45 R ∧ IntsAt w g3 46 M ∧ Below w0.heap.size w0 w ∧ w0.heap.size ≤ g2 ∧ w0.heap.size ≤ g3 ∧ g2 ≠ g3
theorem TwoAt.s {w0 w : World} {g2 g3 : Nat} {R M : List Int} (h : TwoAt w0 w g2 g3 R M) : w.rangeAt g2 0 (R.map (Value.int .i64)) ∧ w.rangeAt g3 0 (M.map (Value.int .i64)) ∧ w.there g2 0 32 ∧ w.there g3 0 256 ∧ Hid (TwoAt w0 w g2 g3 R M) :=
  ⟨h.2.2.1.range, h.2.2.2.1.range, h.1 ▸ h.2.2.1.there, h.2.1 ▸ h.2.2.2.1.there, hid h⟩
theorem TwoAt.th2 {w0 w : World} {g2 g3 : Nat} {R M : List Int} (h : TwoAt w0 w g2 g3 R M) : w.there g2 0 (R.map (Value.int .i64)).toArray.size := by
  rw [List.size_toArray, List.length_map, h.1]
  exact h.s.2.2.1
theorem TwoAt.th3 {w0 w : World} {g2 g3 : Nat} {R M : List Int} (h : TwoAt w0 w g2 g3 R M) : w.there g3 0 (M.map (Value.int .i64)).toArray.size := by
  rw [List.size_toArray, List.length_map, h.2.1]
  exact h.s.2.2.2.1
theorem TwoAt.i2 {R : List Int} (h : R.length = 32) : (Try.prog.info? 45).map (·.size) = some (R.map (Value.int .i64)).length := by
  rw [List.length_map, h]; exact size32
theorem TwoAt.i3 {R : List Int} (h : R.length = 256) : (Try.prog.info? 46).map (·.size) = some (R.map (Value.int .i64)).length := by
  rw [List.length_map, h]; exact size256
theorem TwoAt.j2 {R : List Int} (h : R.length = 32) : (Try.prog.info? 45).map (·.size) = some (R.map (Value.int .i64)).toArray.size := by
  rw [List.size_toArray, List.length_map, h]; exact size32
theorem TwoAt.j3 {R : List Int} (h : R.length = 256) : (Try.prog.info? 46).map (·.size) = some (R.map (Value.int .i64)).toArray.size := by
  rw [List.size_toArray, List.length_map, h]; exact size256
theorem TwoAt.drew {w0 w : World} {g2 g3 : Nat} {R M : List Int} (h : TwoAt w0 w g2 g3 R M) : TwoAt w0 w.drew g2 g3 R M := by
  obtain ⟨h1, h2, h3, h4, h5, h6⟩ := h
  exact ⟨h1, h2, h3, h4, bdrew h5, h6⟩
theorem TwoAt.st2 {w0 w : World} {g2 g3 : Nat} {R M : List Int} (h : TwoAt w0 w g2 g3 R M) : TwoAt w0 (w.setCells g2 0 (R.map (Value.int .i64))) g2 g3 R M := by
  obtain ⟨h1, h2, h3, h4, h5, h6, h7, h8⟩ := h
  exact ⟨h1, h2, IntsAt.again R 0 w h3 (fun j x hj => by rw [Nat.zero_add]; exact hj), IntsAt.apart (Ne.symm h8) _ _ _ h4, bsetCells h6 _ _ _ h5, h6, h7, h8⟩
theorem TwoAt.st3 {w0 w : World} {g2 g3 : Nat} {R M : List Int} (h : TwoAt w0 w g2 g3 R M) : TwoAt w0 (w.setCells g3 0 (M.map (Value.int .i64))) g2 g3 R M := by
  obtain ⟨h1, h2, h3, h4, h5, h6, h7, h8⟩ := h
  exact ⟨h1, h2, IntsAt.apart h8 _ _ _ h3, IntsAt.again M 0 w h4 (fun j x hj => by rw [Nat.zero_add]; exact hj), bsetCells h7 _ _ _ h5, h6, h7, h8⟩
theorem two_new (w : World) (o1 : Obj) (cs : Array Value) (hc : cs = ((List.replicate 32 0).map (Value.int .i64)).toArray) : TwoAt w (((w.alloc o1).alloc (.cells cs 45)).alloc (.cells Try.zeroCells46 46)) (w.heap.size + 1) (w.heap.size + 1 + 1) (List.replicate 32 0) (List.replicate 256 0) := by
  refine ⟨List.length_replicate, List.length_replicate, ?_, ?_, balloc (balloc (balloc (Below.refl _ _) _) _) _, by omega, by omega, by omega⟩
  · exact (IntsAt.new (w.alloc o1) _ _ cs _ (by simp) hc).keep (balloc (Below.refl _ _) _)
  · exact IntsAt.new _ _ _ _ _ (by simp) zero256
set_option maxHeartbeats 4000000 in
set_option maxRecDepth 100000 in
theorem start_no (A1 A2 : Option Addr) (r m : List Int) (c1 c2 : Nat) (w : World) (h : 32 < r.length ∨ (r.length ≤ 32 ∧ 256 < m.length)) :
    Calls Try.prog 32 #[.agg #[.slice A1 r.length c1, .slice A2 m.length c2]] w (StartP false w) := by
  have hu2 := Try.underlying45
  have hu3 := Try.underlying46
  have HZ := hid (fun o1 => two_new w o1 _ rfl)
  generalize hR : List.replicate 32 (0 : Int) = R
  generalize hM : List.replicate 256 (0 : Int) = M
  have HRM := hid (And.intro hR hM)
  have hl2 := hid (show R.length = 32 by rw [← hR]; exact List.length_replicate)
  have hl3 := hid (show M.length = 256 by rw [← hM]; exact List.length_replicate)
  have hb2 : Hid (I64s R ∧ I64s M) := hid (by rw [← hR, ← hM]; exact ⟨i64s_zero _, i64s_zero _⟩)
  clear hR hM
  rcases h with h | ⟨h1, h⟩
  · have hb : (32 : Int) < (r.length : Int) := by omega
    clear h
    go_enter Try.func32, Try.ntmps32
    go_wp2
    refine wp_region_held_drew (S := fun w' => TwoAt w w' (w.heap.size + 1) (w.heap.size + 1 + 1) R M) (by kernel_rfl) (by rw [← HRM.out.1, ← HRM.out.2]; exact TwoAt.drew (HZ.out _)) (fun hS => ?_)
    refine wpAnyH_take (i := 0) rfl (by kernel_rfl) (by kernel_rfl) (by kernel_rfl) (fun _ _ _ h => h) (yieldsIf_load_mid (by kernel_rfl) 45 (.tmp 2) rfl (w.heap.size + 1) 0 rfl (R.map (Value.int .i64)) _ (fun w h => h.s.1) hu2 rfl (TwoAt.i2 hl2.out)) (by assumption) ?_
    (try simp only [Act.put, List.getElem_toArray, List.getElem_cons_zero, List.getElem_cons_succ, List.setIfInBounds_toArray, List.set_cons_zero, List.set_cons_succ])
    refine wpAnyH_take (i := 1) rfl (by kernel_rfl) (by kernel_rfl) (by kernel_rfl) (fun _ _ _ h => h) (yieldsIf_load_mid (by kernel_rfl) 46 (.tmp 3) rfl (w.heap.size + 1 + 1) 0 rfl (M.map (Value.int .i64)) _ (fun w h => h.s.2.1) hu3 rfl (TwoAt.i3 hl3.out)) (by assumption) ?_
    (try simp only [Act.put, List.getElem_toArray, List.getElem_cons_zero, List.getElem_cons_succ, List.setIfInBounds_toArray, List.set_cons_zero, List.set_cons_succ])
    refine wpAnyH_ready (rs := [2]) (by kernel_rfl) (by simp) ?_
    refine AllReadyH.cons rfl (fun K hK => ?_) AllReadyH.nil
    refine wp_store_mid 45 (.tmp 2) (.tmp 17) rfl (w.heap.size + 1) 0 _ rfl rfl hS.th2 (TwoAt.j2 hl2.out) (all_oneCell_toArray (ints_ok R)) ?_
    refine hK.out _ _ hS.st2 (fun hS2 => ?_)
    clear hK K
    (try simp only [Act.put, List.getElem_toArray, List.getElem_cons_zero, List.getElem_cons_succ, List.setIfInBounds_toArray, List.set_cons_zero, List.set_cons_succ])
    refine wpAnyH_ready (rs := [3]) (by kernel_rfl) (by simp) ?_
    refine AllReadyH.cons rfl (fun K hK => ?_) AllReadyH.nil
    refine wp_store_mid 46 (.tmp 3) (.tmp 18) rfl (w.heap.size + 1 + 1) 0 _ rfl rfl hS2.th3 (TwoAt.j3 hl3.out) (all_oneCell_toArray (ints_ok M)) ?_
    refine hK.out _ _ hS2.st3 (fun hS3 => ?_)
    clear hK K
    (try simp only [Act.put, List.getElem_toArray, List.getElem_cons_zero, List.getElem_cons_succ, List.setIfInBounds_toArray, List.set_cons_zero, List.set_cons_succ])
    generalize hW : World.setCells (World.setCells _ _ _ _) _ _ _ = W at hS3 ⊢
    clear hW hS hS2
    refine wpAnyH_ready (rs := [4]) (by kernel_rfl) (by simp) ?_
    refine AllReadyH.cons rfl (fun K hK => ?_) AllReadyH.nil
    go_simp
    refine hK.out _ _ hS3 (fun hS4 => ?_)
    clear hK K
    (try simp only [Act.put, List.getElem_toArray, List.getElem_cons_zero, List.getElem_cons_succ, List.setIfInBounds_toArray, List.set_cons_zero, List.set_cons_succ])
    refine wpAnyH_done (by kernel_rfl) ?_ _
    have hT := hS4
    go_wp2
    refine bodyPost_ret (v := .tuple #[numsV R, numsV M, _]) (results_rows2 rfl _ _ (w.heap.size + 1) (w.heap.size + 1 + 1) 45 46 R M _ _ rfl rfl hT.2.2.1 hT.2.2.2.1 hu2 rfl (by rw [hl2.out]; exact size32) hu3 rfl (by rw [hl3.out]; exact size256)) rfl ?_
    exact ⟨R, M, hl2.out, hl3.out, hb2.out.1, hb2.out.2, rfl, hT.2.2.2.2.1⟩
  · have hb : ¬ (32 : Int) < (r.length : Int) := by omega
    have hb1 : (256 : Int) < (m.length : Int) := by omega
    clear h h1
    go_enter Try.func32, Try.ntmps32
    go_wp2
    refine wp_region_held_drew (S := fun w' => TwoAt w w' (w.heap.size + 1) (w.heap.size + 1 + 1) R M) (by kernel_rfl) (by rw [← HRM.out.1, ← HRM.out.2]; exact TwoAt.drew (HZ.out _)) (fun hS => ?_)
    refine wpAnyH_take (i := 0) rfl (by kernel_rfl) (by kernel_rfl) (by kernel_rfl) (fun _ _ _ h => h) (yieldsIf_load_mid (by kernel_rfl) 45 (.tmp 2) rfl (w.heap.size + 1) 0 rfl (R.map (Value.int .i64)) _ (fun w h => h.s.1) hu2 rfl (TwoAt.i2 hl2.out)) (by assumption) ?_
    (try simp only [Act.put, List.getElem_toArray, List.getElem_cons_zero, List.getElem_cons_succ, List.setIfInBounds_toArray, List.set_cons_zero, List.set_cons_succ])
    refine wpAnyH_take (i := 1) rfl (by kernel_rfl) (by kernel_rfl) (by kernel_rfl) (fun _ _ _ h => h) (yieldsIf_load_mid (by kernel_rfl) 46 (.tmp 3) rfl (w.heap.size + 1 + 1) 0 rfl (M.map (Value.int .i64)) _ (fun w h => h.s.2.1) hu3 rfl (TwoAt.i3 hl3.out)) (by assumption) ?_
    (try simp only [Act.put, List.getElem_toArray, List.getElem_cons_zero, List.getElem_cons_succ, List.setIfInBounds_toArray, List.set_cons_zero, List.set_cons_succ])
    refine wpAnyH_ready (rs := [2]) (by kernel_rfl) (by simp) ?_
    refine AllReadyH.cons rfl (fun K hK => ?_) AllReadyH.nil
    refine wp_store_mid 45 (.tmp 2) (.tmp 17) rfl (w.heap.size + 1) 0 _ rfl rfl hS.th2 (TwoAt.j2 hl2.out) (all_oneCell_toArray (ints_ok R)) ?_
    refine hK.out _ _ hS.st2 (fun hS2 => ?_)
    clear hK K
    (try simp only [Act.put, List.getElem_toArray, List.getElem_cons_zero, List.getElem_cons_succ, List.setIfInBounds_toArray, List.set_cons_zero, List.set_cons_succ])
    refine wpAnyH_ready (rs := [3]) (by kernel_rfl) (by simp) ?_
    refine AllReadyH.cons rfl (fun K hK => ?_) AllReadyH.nil
    refine wp_store_mid 46 (.tmp 3) (.tmp 18) rfl (w.heap.size + 1 + 1) 0 _ rfl rfl hS2.th3 (TwoAt.j3 hl3.out) (all_oneCell_toArray (ints_ok M)) ?_
    refine hK.out _ _ hS2.st3 (fun hS3 => ?_)
    clear hK K
    (try simp only [Act.put, List.getElem_toArray, List.getElem_cons_zero, List.getElem_cons_succ, List.setIfInBounds_toArray, List.set_cons_zero, List.set_cons_succ])
    generalize hW : World.setCells (World.setCells _ _ _ _) _ _ _ = W at hS3 ⊢
    clear hW hS hS2
    refine wpAnyH_ready (rs := [4]) (by kernel_rfl) (by simp) ?_
    refine AllReadyH.cons rfl (fun K hK => ?_) AllReadyH.nil
    go_simp
    refine hK.out _ _ hS3 (fun hS4 => ?_)
    clear hK K
    (try simp only [Act.put, List.getElem_toArray, List.getElem_cons_zero, List.getElem_cons_succ, List.setIfInBounds_toArray, List.set_cons_zero, List.set_cons_succ])
    refine wpAnyH_done (by kernel_rfl) ?_ _
    have hT := hS4
    go_wp2
    refine bodyPost_ret (v := .tuple #[numsV R, numsV M, _]) (results_rows2 rfl _ _ (w.heap.size + 1) (w.heap.size + 1 + 1) 45 46 R M _ _ rfl rfl hT.2.2.1 hT.2.2.2.1 hu2 rfl (by rw [hl2.out]; exact size32) hu3 rfl (by rw [hl3.out]; exact size256)) rfl ?_
    exact ⟨R, M, hl2.out, hl3.out, hb2.out.1, hb2.out.2, rfl, hT.2.2.2.2.1⟩
theorem TwoAt.set2 {w0 w : World} {g2 g3 : Nat} {R M : List Int} (h : TwoAt w0 w g2 g3 R M) (i : Nat) (x : Int) : TwoAt w0 (w.setCell ⟨g2, i, none⟩ (.int .i64 x)) g2 g3 (R.set i x) M := by
  obtain ⟨h1, h2, h3, h4, h5, h6, h7, h8⟩ := h
  exact ⟨by rw [List.length_set]; exact h1, h2, h3.set i x, h4.other (fun e => h8 e.symm) _, bset h5 h6 _, h6, h7, h8⟩
theorem TwoAt.set3 {w0 w : World} {g2 g3 : Nat} {R M : List Int} (h : TwoAt w0 w g2 g3 R M) (i : Nat) (x : Int) : TwoAt w0 (w.setCell ⟨g3, i, none⟩ (.int .i64 x)) g2 g3 R (M.set i x) := by
  obtain ⟨h1, h2, h3, h4, h5, h6, h7, h8⟩ := h
  exact ⟨h1, by rw [List.length_set]; exact h2, h3.other h8 _, h4.set i x, bset h5 h7 _, h6, h7, h8⟩
set_option maxHeartbeats 4000000 in
set_option maxRecDepth 100000 in
theorem start_yes (A1 A2 : Option Addr) (r m : List Int) (c1 c2 : Nat) (w : World) (hr : NumsIn w A1 r) (hm : NumsIn w A2 m) (hrl : I64s r) (hml : I64s m) (hr1 : r.length ≤ 32) (hm1 : m.length ≤ 256) (hc1 : r.length ≤ c1) (hc2 : m.length ≤ c2) :
    Calls Try.prog 32 #[.agg #[.slice A1 r.length c1, .slice A2 m.length c2]] w (StartP true w) := by
  have hu2 := Try.underlying45
  have hu3 := Try.underlying46
  have HR := hid hr
  have HM := hid hm
  have HRL := hid hrl
  have HML := hid hml
  have HZ := hid (fun o1 => two_new w o1 _ rfl)
  have hb : ¬ (32 : Int) < (r.length : Int) := by omega
  have hb1 : ¬ (256 : Int) < (m.length : Int) := by omega
  clear hr hm hrl hml
  go_enter Try.func32, Try.ntmps32
  go_upto_region 1 with (fail)
  go_cut [1, 2, 3, 4, 16] (fun v1 v2 v3 v4 v16 wx => v16 = .bool false ∧ v1 = .pointer (some ⟨w.heap.size, 0, none⟩) ∧ v2 = .pointer (some ⟨w.heap.size + 1, 0, none⟩) ∧ v3 = .pointer (some ⟨w.heap.size + 1 + 1, 0, none⟩) ∧ v4 = .bool false ∧ wx.cell? ⟨w.heap.size, 0, none⟩ = some (.slice A1 r.length c1) ∧ wx.cell? ⟨w.heap.size, 1, none⟩ = some (.slice A2 m.length c2) ∧
    Hid (TwoAt w wx (w.heap.size + 1) (w.heap.size + 1 + 1) (List.replicate 32 0) (List.replicate 256 0)))
  case first =>
    go_wp2
    go_meet
    case rel =>
      exact ⟨rfl, rfl, rfl, rfl, rfl, by go_simp, by go_simp, HZ.out _⟩
  case rest =>
    obtain ⟨rfl, rfl, rfl, rfl, rfl, k0, k1, HT⟩ := hcut
    clear HZ
    go_wp2
    go_loopg [5] r.length (fun gk v5 wr => ∃ (i : Nat) (R : List Int), i ≤ r.length ∧ v5 = .int .i64 i ∧ Hid (gk + i = r.length) ∧ Hid (I64s R) ∧ Hid (TwoAt w wr (w.heap.size + 1) (w.heap.size + 1 + 1) R (List.replicate 256 0)) ∧ wr.cell? ⟨w.heap.size, 0, none⟩ = some (.slice A1 r.length c1) ∧ wr.cell? ⟨w.heap.size, 1, none⟩ = some (.slice A2 m.length c2))
    case atStart => exact ⟨0, List.replicate 32 0, by omega, rfl, by exact Nat.add_zero _, i64s_zero _, HT, k0, k1⟩
    case round =>
      obtain ⟨i, R, hi, rfl, hg, hR, hT, q0, q1⟩ := hrel
      by_cases hlt : i < r.length
      · obtain ⟨ga, offa, rfl, hx⟩ := HR.out.get i hlt
        have hxi := cell_keep hx hT.out.2.2.2.2.1
        have hRi := HRL.out r[i] (List.getElem_mem hlt)
        have hc := hT.out.2.2.1.cell i (by rw [hT.out.1]; omega)
        have hf := hT.out.2.2.1.frozen i
        have T2 := hid (hT.out.set2 i r[i])
        have R2 := hid (hR.out.set i hRi)
        have hi32 : (i : Int) < 32 := by omega
        have hi0 : (0 : Int) ≤ (i : Int) := by omega
        generalize r[i] = x at *
        clear hRi hx
        go_wp2
        go_roundg (r.length - (i + 1))
        case measure => have := hg.out; omega
        case rel => exact ⟨i + 1, R.set i x, by omega, by go_num, by show _ + _ = _; omega, R2, T2, set_other q0 (by simp), set_other q1 (by simp)⟩
      · obtain rfl : i = r.length := by omega
        have HRR := hid hR.out
        have HT2 := hid hT.out
        clear hg hT hR k0 k1 HT
        go_wp2
        go_loopg [6] m.length (fun gk v6 wr => ∃ (i : Nat) (M : List Int), i ≤ m.length ∧ v6 = .int .i64 i ∧ Hid (gk + i = m.length) ∧ Hid (I64s M) ∧ Hid (TwoAt w wr (w.heap.size + 1) (w.heap.size + 1 + 1) R M) ∧ wr.cell? ⟨w.heap.size, 0, none⟩ = some (.slice A1 r.length c1) ∧ wr.cell? ⟨w.heap.size, 1, none⟩ = some (.slice A2 m.length c2))
        case atStart => exact ⟨0, List.replicate 256 0, by omega, rfl, by exact Nat.add_zero _, i64s_zero _, HT2, q0, q1⟩
        case round =>
          clear q0 q1
          obtain ⟨i, M, hi, rfl, hg, hM, hT, q0, q1⟩ := hrel
          by_cases hlt : i < m.length
          · obtain ⟨ga, offa, rfl, hx⟩ := HM.out.get i hlt
            have hxi := cell_keep hx hT.out.2.2.2.2.1
            have hRi := HML.out m[i] (List.getElem_mem hlt)
            have hc := hT.out.2.2.2.1.cell i (by rw [hT.out.2.1]; omega)
            have hf := hT.out.2.2.2.1.frozen i
            have T2 := hid (hT.out.set3 i m[i])
            have R2 := hid (hM.out.set i hRi)
            have hi32 : (i : Int) < 256 := by omega
            have hi0 : (0 : Int) ≤ (i : Int) := by omega
            generalize m[i] = x at *
            clear hRi hx
            go_wp2
            go_roundg (m.length - (i + 1))
            case measure => have := hg.out; omega
            case rel => exact ⟨i + 1, M.set i x, by omega, by go_num, by show _ + _ = _; omega, R2, T2, set_other q0 (by simp), set_other q1 (by simp)⟩
          · obtain rfl : i = m.length := by omega
            have hl2 := hid hT.out.1
            have hl3 := hid hT.out.2.1
            have HTT := hid hT.out
            clear hT HT2 hg
            go_wp2
            refine wp_region_held_drew (S := fun w' => TwoAt w w' (w.heap.size + 1) (w.heap.size + 1 + 1) R M) (by kernel_rfl) (TwoAt.drew HTT.out) (fun hS => ?_)
            refine wpAnyH_take (i := 0) rfl (by kernel_rfl) (by kernel_rfl) (by kernel_rfl) (fun _ _ _ h => h) (yieldsIf_load_mid (by kernel_rfl) 45 (.tmp 2) rfl (w.heap.size + 1) 0 rfl (R.map (Value.int .i64)) _ (fun w h => h.s.1) hu2 rfl (TwoAt.i2 hl2.out)) (by assumption) ?_
            (try simp only [Act.put, List.getElem_toArray, List.getElem_cons_zero, List.getElem_cons_succ, List.setIfInBounds_toArray, List.set_cons_zero, List.set_cons_succ])
            refine wpAnyH_take (i := 1) rfl (by kernel_rfl) (by kernel_rfl) (by kernel_rfl) (fun _ _ _ h => h) (yieldsIf_load_mid (by kernel_rfl) 46 (.tmp 3) rfl (w.heap.size + 1 + 1) 0 rfl (M.map (Value.int .i64)) _ (fun w h => h.s.2.1) hu3 rfl (TwoAt.i3 hl3.out)) (by assumption) ?_
            (try simp only [Act.put, List.getElem_toArray, List.getElem_cons_zero, List.getElem_cons_succ, List.setIfInBounds_toArray, List.set_cons_zero, List.set_cons_succ])
            refine wpAnyH_ready (rs := [2]) (by kernel_rfl) (by simp) ?_
            refine AllReadyH.cons rfl (fun K hK => ?_) AllReadyH.nil
            refine wp_store_mid 45 (.tmp 2) (.tmp 47) rfl (w.heap.size + 1) 0 _ rfl rfl hS.th2 (TwoAt.j2 hl2.out) (all_oneCell_toArray (ints_ok R)) ?_
            refine hK.out _ _ hS.st2 (fun hS2 => ?_)
            clear hK K
            (try simp only [Act.put, List.getElem_toArray, List.getElem_cons_zero, List.getElem_cons_succ, List.setIfInBounds_toArray, List.set_cons_zero, List.set_cons_succ])
            refine wpAnyH_ready (rs := [3]) (by kernel_rfl) (by simp) ?_
            refine AllReadyH.cons rfl (fun K hK => ?_) AllReadyH.nil
            refine wp_store_mid 46 (.tmp 3) (.tmp 48) rfl (w.heap.size + 1 + 1) 0 _ rfl rfl hS2.th3 (TwoAt.j3 hl3.out) (all_oneCell_toArray (ints_ok M)) ?_
            refine hK.out _ _ hS2.st3 (fun hS3 => ?_)
            clear hK K
            (try simp only [Act.put, List.getElem_toArray, List.getElem_cons_zero, List.getElem_cons_succ, List.setIfInBounds_toArray, List.set_cons_zero, List.set_cons_succ])
            generalize hW : World.setCells (World.setCells _ _ _ _) _ _ _ = W at hS3 ⊢
            clear hW hS hS2
            refine wpAnyH_ready (rs := [4]) (by kernel_rfl) (by simp) ?_
            refine AllReadyH.cons rfl (fun K hK => ?_) AllReadyH.nil
            go_simp
            refine hK.out _ _ hS3 (fun hS4 => ?_)
            clear hK K
            (try simp only [Act.put, List.getElem_toArray, List.getElem_cons_zero, List.getElem_cons_succ, List.setIfInBounds_toArray, List.set_cons_zero, List.set_cons_succ])
            refine wpAnyH_done (by kernel_rfl) ?_ _
            have hT := hS4
            go_wp2
            refine bodyPost_ret (v := .tuple #[numsV R, numsV M, _]) (results_rows2 rfl _ _ (w.heap.size + 1) (w.heap.size + 1 + 1) 45 46 R M _ _ rfl rfl hT.2.2.1 hT.2.2.2.1 hu2 rfl (by rw [hl2.out]; exact size32) hu3 rfl (by rw [hl3.out]; exact size256)) rfl ?_
            exact ⟨R, M, hl2.out, hl3.out, HRR.out, hM.out, rfl, hT.2.2.2.2.1⟩
end Go.Proofs.Ytcibkoodnfkogaa
