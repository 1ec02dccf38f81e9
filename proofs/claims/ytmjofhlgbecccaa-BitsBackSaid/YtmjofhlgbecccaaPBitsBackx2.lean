-- PRINTED BY print.sh 35421559b90ae4d0a3588c463048766b98c2df88dd9212a6774a882060cdf62d: not written by this session
import Derived.Test.YtmjofhlgbecccaaPBitsBackx0
import Derived.Test.YtmjofhlgbecccaaPBitsBackx1
namespace Go.Proofs.Ytmjofhlgbecccaa.PBitsBack
open Go.RowKit Go.Proofs.YtmjofhlgbecccaaW.PrintWords Go.Proofs.YtmjofhlgbecccaaW.PrintLast Go.Proofs.YtmjofhlgbecccaaW.PrintMore
attribute [local go_sem] max2_int min2_int max_two min_two max_three min_three max_four min_four   -- for this text's walks alone
set_option linter.unusedVariables false
set_option linter.unusedSimpArgs false

/-! ### hayloftlaw01_BitsBack: function 4 -/
mutual
def hayloftlaw01_BitsBack.j0 : Nat → Int → Int → Int → Int → Int → Int → Int → Int → Bool → Option (Bool)
  | 0, _, _, _, _, _, _, _, _, _ => none
  | k + 1, x0, x1, x2, x3, x4, x5, x6, x15, x37 => if x37 = true then (if x15 = x0 then ((hayloftlaw01_wakes.f).bind fun t112 => (some t112)) else (some false)) else (if x2 < 64 then ((bits_Get.f x15 x1 x2).bind fun t113 => (if 0 ≤ (IntKind.u64.wrap (x2)) then (if t113 = (Go.bits .and .u64 x3 (IntKind.u64.wrap ((shl .u64 1 (IntKind.u64.wrap (x2))) - 1))) then (if x2 = 64 then (hayloftlaw01_BitsBack.j1 k x0 x1 x2 x3 x4 x5 x6 x15 (x15 != x3)) else (hayloftlaw01_BitsBack.j1 k x0 x1 x2 x3 x4 x5 x6 x15 false)) else (hayloftlaw01_BitsBack.j1 k x0 x1 x2 x3 x4 x5 x6 x15 true)) else (none))) else (if x2 = 64 then (hayloftlaw01_BitsBack.j1 k x0 x1 x2 x3 x4 x5 x6 x15 (x15 != x3)) else (hayloftlaw01_BitsBack.j1 k x0 x1 x2 x3 x4 x5 x6 x15 false)))
def hayloftlaw01_BitsBack.j1 : Nat → Int → Int → Int → Int → Int → Int → Int → Int → Bool → Option (Bool)
  | 0, _, _, _, _, _, _, _, _, _ => none
  | k + 1, x0, x1, x2, x3, x4, x5, x6, x15, x67 => if x67 = true then (some false) else (if x5 < 1 then (hayloftlaw01_BitsBack.j2 k x0 x1 x2 x3 x4 x5 x6 x15 true) else (if x5 > 64 then (hayloftlaw01_BitsBack.j2 k x0 x1 x2 x3 x4 x5 x6 x15 true) else (if x4 < 0 then (hayloftlaw01_BitsBack.j2 k x0 x1 x2 x3 x4 x5 x6 x15 true) else (if x4 > (wrap64 (64 - x5)) then (hayloftlaw01_BitsBack.j2 k x0 x1 x2 x3 x4 x5 x6 x15 true) else (if x4 < (wrap64 (x1 + x2)) then (hayloftlaw01_BitsBack.j2 k x0 x1 x2 x3 x4 x5 x6 x15 (decide (x1 < (wrap64 (x4 + x5))))) else (hayloftlaw01_BitsBack.j2 k x0 x1 x2 x3 x4 x5 x6 x15 false))))))
def hayloftlaw01_BitsBack.j2 : Nat → Int → Int → Int → Int → Int → Int → Int → Int → Bool → Option (Bool)
  | 0, _, _, _, _, _, _, _, _, _ => none
  | k + 1, x0, x1, x2, x3, x4, x5, x6, x15, x97 => if x97 = true then ((hayloftlaw01_wakes.f).bind fun t114 => (some t114)) else ((bits_Put.f x15 x4 x5 x6).bind fun t115 => ((bits_Get.f x15 x4 x5).bind fun t116 => ((bits_Get.f x0 x4 x5).bind fun t117 => (if t116 = t117 then ((bits_Get.f t115 x1 x2).bind fun t118 => ((bits_Get.f x15 x1 x2).bind fun t119 => (if t118 = t119 then ((bits_Put.f x0 x4 x5 x6).bind fun t120 => ((bits_Put.f t120 x1 x2 x3).bind fun t121 => (if t115 = t121 then ((hayloftlaw01_wakes.f).bind fun t122 => (some t122)) else (some false)))) else (some false)))) else (some false)))))
end
def hayloftlaw01_BitsBack.f (k : Nat) (a0 : Int) (a1 : Int) (a2 : Int) (a3 : Int) (a4 : Int) (a5 : Int) (a6 : Int) : Option (Bool) := (bits_Put.f a0 a1 a2 a3).bind fun t111 => (if a2 < 1 then (hayloftlaw01_BitsBack.j0 k a0 a1 a2 a3 a4 a5 a6 t111 true) else (if a2 > 64 then (hayloftlaw01_BitsBack.j0 k a0 a1 a2 a3 a4 a5 a6 t111 true) else (if a1 < 0 then (hayloftlaw01_BitsBack.j0 k a0 a1 a2 a3 a4 a5 a6 t111 true) else (hayloftlaw01_BitsBack.j0 k a0 a1 a2 a3 a4 a5 a6 t111 (decide (a1 > (wrap64 (64 - a2))))))))
theorem hayloftlaw01_BitsBack.mono_l : ∀ k, (∀ y0 y1 y2 y3 y4 y5 y6 y7 y8, LeO (hayloftlaw01_BitsBack.j0 k y0 y1 y2 y3 y4 y5 y6 y7 y8) (hayloftlaw01_BitsBack.j0 (k + 1) y0 y1 y2 y3 y4 y5 y6 y7 y8)) ∧ (∀ y0 y1 y2 y3 y4 y5 y6 y7 y8, LeO (hayloftlaw01_BitsBack.j1 k y0 y1 y2 y3 y4 y5 y6 y7 y8) (hayloftlaw01_BitsBack.j1 (k + 1) y0 y1 y2 y3 y4 y5 y6 y7 y8)) ∧ (∀ y0 y1 y2 y3 y4 y5 y6 y7 y8, LeO (hayloftlaw01_BitsBack.j2 k y0 y1 y2 y3 y4 y5 y6 y7 y8) (hayloftlaw01_BitsBack.j2 (k + 1) y0 y1 y2 y3 y4 y5 y6 y7 y8))
  | 0 => ⟨fun _ _ _ _ _ _ _ _ _ r h => by simp [hayloftlaw01_BitsBack.j0] at h, fun _ _ _ _ _ _ _ _ _ r h => by simp [hayloftlaw01_BitsBack.j1] at h, fun _ _ _ _ _ _ _ _ _ r h => by simp [hayloftlaw01_BitsBack.j2] at h⟩
  | k + 1 => by
    obtain ⟨ih0, ih1, ih2⟩ := hayloftlaw01_BitsBack.mono_l k
    refine ⟨?_, ?_, ?_⟩
    · intro y0 y1 y2 y3 y4 y5 y6 y7 y8
      unfold hayloftlaw01_BitsBack.j0
      repeat' first
      | (with_reducible exact ih0 _ _ _ _ _ _ _ _ _)
      | (with_reducible exact ih1 _ _ _ _ _ _ _ _ _)
      | (with_reducible exact ih2 _ _ _ _ _ _ _ _ _)
      | (with_reducible exact LeO.refl _)
      | (with_reducible exact LeO.none _)
      | (with_reducible refine LeO.ite ?_ ?_)
      | (with_reducible refine LeO.bind ?_ (fun _ => ?_))
      | exact ih0 _ _ _ _ _ _ _ _ _
      | exact ih1 _ _ _ _ _ _ _ _ _
      | exact ih2 _ _ _ _ _ _ _ _ _
      | exact LeO.none _
      | refine LeO.ite ?_ ?_
      | refine LeO.bind ?_ (fun _ => ?_)
    · intro y0 y1 y2 y3 y4 y5 y6 y7 y8
      unfold hayloftlaw01_BitsBack.j1
      repeat' first
      | (with_reducible exact ih0 _ _ _ _ _ _ _ _ _)
      | (with_reducible exact ih1 _ _ _ _ _ _ _ _ _)
      | (with_reducible exact ih2 _ _ _ _ _ _ _ _ _)
      | (with_reducible exact LeO.refl _)
      | (with_reducible exact LeO.none _)
      | (with_reducible refine LeO.ite ?_ ?_)
      | (with_reducible refine LeO.bind ?_ (fun _ => ?_))
      | exact ih0 _ _ _ _ _ _ _ _ _
      | exact ih1 _ _ _ _ _ _ _ _ _
      | exact ih2 _ _ _ _ _ _ _ _ _
      | exact LeO.none _
      | refine LeO.ite ?_ ?_
      | refine LeO.bind ?_ (fun _ => ?_)
    · intro y0 y1 y2 y3 y4 y5 y6 y7 y8
      unfold hayloftlaw01_BitsBack.j2
      repeat' first
      | (with_reducible exact ih0 _ _ _ _ _ _ _ _ _)
      | (with_reducible exact ih1 _ _ _ _ _ _ _ _ _)
      | (with_reducible exact ih2 _ _ _ _ _ _ _ _ _)
      | (with_reducible exact LeO.refl _)
      | (with_reducible exact LeO.none _)
      | (with_reducible refine LeO.ite ?_ ?_)
      | (with_reducible refine LeO.bind ?_ (fun _ => ?_))
      | exact ih0 _ _ _ _ _ _ _ _ _
      | exact ih1 _ _ _ _ _ _ _ _ _
      | exact ih2 _ _ _ _ _ _ _ _ _
      | exact LeO.none _
      | refine LeO.ite ?_ ?_
      | refine LeO.bind ?_ (fun _ => ?_)
theorem hayloftlaw01_BitsBack.mono : ∀ a0 a1 a2 a3 a4 a5 a6 k, LeO (hayloftlaw01_BitsBack.f k a0 a1 a2 a3 a4 a5 a6) (hayloftlaw01_BitsBack.f (k + 1) a0 a1 a2 a3 a4 a5 a6) := by
  intro a0 a1 a2 a3 a4 a5 a6 k
  obtain ⟨ih0, ih1, ih2⟩ := hayloftlaw01_BitsBack.mono_l k
  unfold hayloftlaw01_BitsBack.f
  repeat' first
      | (with_reducible exact ih0 _ _ _ _ _ _ _ _ _)
      | (with_reducible exact ih1 _ _ _ _ _ _ _ _ _)
      | (with_reducible exact ih2 _ _ _ _ _ _ _ _ _)
      | (with_reducible exact LeO.refl _)
      | (with_reducible exact LeO.none _)
      | (with_reducible refine LeO.ite ?_ ?_)
      | (with_reducible refine LeO.bind ?_ (fun _ => ?_))
      | exact ih0 _ _ _ _ _ _ _ _ _
      | exact ih1 _ _ _ _ _ _ _ _ _
      | exact ih2 _ _ _ _ _ _ _ _ _
      | exact LeO.none _
      | refine LeO.ite ?_ ?_
      | refine LeO.bind ?_ (fun _ => ?_)
set_option maxHeartbeats 8000000 in
set_option maxRecDepth 100000 in
theorem hayloftlaw01_BitsBack.calls (k : Nat) (a0 : Int) (a1 : Int) (a2 : Int) (a3 : Int) (a4 : Int) (a5 : Int) (a6 : Int) (r : Bool) (w : World) (h : hayloftlaw01_BitsBack.f k a0 a1 a2 a3 a4 a5 a6 = some r) :
    Calls Try.prog 4 #[.int .u64 a0, .int .i64 a1, .int .i64 a2, .int .u64 a3, .int .i64 a4, .int .i64 a5, .int .u64 a6] w fun e w' => e = .returned (.bool r) ∧ Below w.heap.size w w' := by
  have HB := Aside0.mk (Below.refl w.heap.size w)
  have H : ((bits_Put.f a0 a1 a2 a3).bind fun t111 => (if a2 < 1 then (hayloftlaw01_BitsBack.j0 k a0 a1 a2 a3 a4 a5 a6 t111 true) else (if a2 > 64 then (hayloftlaw01_BitsBack.j0 k a0 a1 a2 a3 a4 a5 a6 t111 true) else (if a1 < 0 then (hayloftlaw01_BitsBack.j0 k a0 a1 a2 a3 a4 a5 a6 t111 true) else (hayloftlaw01_BitsBack.j0 k a0 a1 a2 a3 a4 a5 a6 t111 (decide (a1 > (wrap64 (64 - a2))))))))) = some r := h
  clear h
  replace H := Option.bind_eq_some_iff.mp H
  obtain ⟨t111, A80, H⟩ := H
  replace H : (if a2 < 1 then (hayloftlaw01_BitsBack.j0 k a0 a1 a2 a3 a4 a5 a6 t111 true) else (if a2 > 64 then (hayloftlaw01_BitsBack.j0 k a0 a1 a2 a3 a4 a5 a6 t111 true) else (if a1 < 0 then (hayloftlaw01_BitsBack.j0 k a0 a1 a2 a3 a4 a5 a6 t111 true) else (hayloftlaw01_BitsBack.j0 k a0 a1 a2 a3 a4 a5 a6 t111 (decide (a1 > (wrap64 (64 - a2)))))))) = some r := H
  have A8 := Aside0.mk A80
  clear A80
  have HC9 := Aside0.mk H
  clear H
  go_enter Try.func4, Try.ntmps4
  go_upto_region 2 with (first | ((with_reducible refine gate_callee (f := 9) rfl ?_); refine goesL_ (some 21) rfl rfl Try.func9 (by kernel_rfl) rfl #[.int .u64 a0, .int .i64 a1, .int .i64 a2, .int .u64 a3] rfl (by (try simp only [List.map_toArray, List.map_cons, List.map_nil]); first | done | rfl | (simp only [List.length_drop, List.length_take]; rfl)) ?_; (with_reducible refine (bits_Put.calls a0 a1 a2 a3 t111 _ A8.out).mono ?_); rintro e w' ⟨rfl, ⟨nd, rfl⟩⟩; refine ⟨_, rfl, ?_⟩))
  (try simp only [Act.put, List.setIfInBounds_toArray, List.set_cons_zero, List.set_cons_succ])
  go_cut [37] (fun v37 wc => ∃ (kq : Nat) (x37_8 : Bool), v37 = .bool x37_8 ∧ Aside0 (hayloftlaw01_BitsBack.j0 kq a0 a1 a2 a3 a4 a5 a6 t111 x37_8 = some r) ∧ Aside0 (kq ≤ k) ∧ Aside0 (Below w.heap.size w wc))
  case first =>
    have H := HC9.out
    clear HC9
    by_cases c10 : a2 < 1
    · rw [if_pos c10] at H
      have c10b0 : decide (a2 < 1) = true := decide_eq_true c10
      clear c10
      (first | rw [c10b0] | (simp only [i64_w, i32_w]; rw [c10b0]) | skip)
      have H' := Aside0.mk H
      clear H
      go_wp2
      go_meet
      case rel => exact ⟨_, (true), (by first | rfl | (simp; done) | (simp [*]; done)), H', ⟨by first | omega | exact Nat.le_refl _⟩, ⟨by repeat (first | (with_reducible first | exact HB.out | apply below_alloc | apply pw_below_drewN | apply below_drew1) | exact HB.out)⟩⟩
    · rw [if_neg c10] at H
      have c10b0 : decide (a2 < 1) = false := decide_eq_false c10
      clear c10
      (first | rw [c10b0] | (simp only [i64_w, i32_w]; rw [c10b0]) | skip)
      by_cases c11 : a2 > 64
      · rw [if_pos c11] at H
        have c11b0 : decide (64 < a2) = true := decide_eq_true c11
        clear c11
        have H' := Aside0.mk H
        clear H
        go_wp2
        go_meet
        case rel => exact ⟨_, (true), (by first | rfl | (simp; done) | (simp [*]; done)), H', ⟨by first | omega | exact Nat.le_refl _⟩, ⟨by repeat (first | (with_reducible first | exact HB.out | apply below_alloc | apply pw_below_drewN | apply below_drew1) | exact HB.out)⟩⟩
      · rw [if_neg c11] at H
        have c11b0 : decide (64 < a2) = false := decide_eq_false c11
        clear c11
        by_cases c12 : a1 < 0
        · rw [if_pos c12] at H
          have c12b0 : decide (a1 < 0) = true := decide_eq_true c12
          clear c12
          have H' := Aside0.mk H
          clear H
          go_wp2
          go_meet
          case rel => exact ⟨_, (true), (by first | rfl | (simp; done) | (simp [*]; done)), H', ⟨by first | omega | exact Nat.le_refl _⟩, ⟨by repeat (first | (with_reducible first | exact HB.out | apply below_alloc | apply pw_below_drewN | apply below_drew1) | exact HB.out)⟩⟩
        · rw [if_neg c12] at H
          have c12b0 : decide (a1 < 0) = false := decide_eq_false c12
          clear c12
          have H' := Aside0.mk H
          clear H
          go_wp2
          go_meet
          case rel => exact ⟨_, (decide (a1 > (wrap64 (64 - a2)))), (by first | rfl | (simp; done) | (simp [*]; done)), H', ⟨by first | omega | exact Nat.le_refl _⟩, ⟨by repeat (first | (with_reducible first | exact HB.out | apply below_alloc | apply pw_below_drewN | apply below_drew1) | exact HB.out)⟩⟩
  case rest =>
    clear HC9
    try clear c1
    try clear p2
    try clear c4
    try clear p6
    try clear c9
    try clear c10
    try clear c10b0
    try clear c11
    try clear c11b0
    try clear c12
    try clear c12b0
    obtain ⟨kq, x37_8, rfl, HA, HJ8, HB⟩ := hcut
    cases kq with
    | zero => exact absurd HA.out (by simp [hayloftlaw01_BitsBack.j0])
    | succ kj8 =>
      have H := HA.out
      clear HA
      simp only [hayloftlaw01_BitsBack.j0] at H
      by_cases c13 : x37_8 = true
      · subst c13
        have H1 : (if t111 = a0 then ((hayloftlaw01_wakes.f).bind fun t112 => (some t112)) else (some false)) = some r := by rw [if_pos rfl] at H; exact H
        clear H
        have H := H1
        clear H1
        by_cases c14 : t111 = a0
        · rw [if_pos c14] at H
          have c14b0 : (t111 == a0) = true := beq_iff_eq.mpr c14
          have c14b1 : (t111 != a0) = false := bne_eq_false_iff_eq.mpr c14
          clear c14
          replace H := Option.bind_eq_some_iff.mp H
          obtain ⟨t112, A150, H⟩ := H
          replace H : (some t112) = some r := H
          have A15 := Aside0.mk A150
          clear A150
          obtain rfl := Option.some.inj H
          go_wp2_with (first | (go_at_call 17; (with_reducible refine (hayloftlaw01_wakes.calls  t112 _ A15.out).mono ?_); rintro e w16 ⟨rfl, hb⟩; have n0_ := Aside0.mk (below_step (by repeat (first | (with_reducible first | exact HB.out | apply below_alloc | apply pw_below_drewN | apply below_drew1) | exact HB.out)) hb); clear HB; have HB := n0_; clear n0_; (try clear hb); (try clear hb2); (try clear hk); (try clear hi)))
          go_ret
          exact ⟨by first | rfl | (simp [errW_none, errW_some] <;> rfl) | (simp [*, errW_none, errW_some] <;> rfl), by repeat (first | (with_reducible first | exact HB.out | apply below_alloc | apply pw_below_drewN | apply below_drew1) | exact HB.out)⟩
        · rw [if_neg c14] at H
          have c14b0 : (t111 == a0) = false := beq_eq_false_iff_ne.mpr c14
          have c14b1 : (t111 != a0) = true := bne_iff_ne.mpr c14
          obtain rfl := Option.some.inj H
          go_wp2
          go_ret
          exact ⟨by first | rfl | (simp [errW_none, errW_some] <;> rfl) | (simp [*, errW_none, errW_some] <;> rfl), by repeat (first | (with_reducible first | exact HB.out | apply below_alloc | apply pw_below_drewN | apply below_drew1) | exact HB.out)⟩
      · replace c13 := Bool.eq_false_iff.mpr c13
        subst c13
        have H1 : (if a2 < 64 then ((bits_Get.f t111 a1 a2).bind fun t113 => (if 0 ≤ (IntKind.u64.wrap (a2)) then (if t113 = (Go.bits .and .u64 a3 (IntKind.u64.wrap ((shl .u64 1 (IntKind.u64.wrap (a2))) - 1))) then (if a2 = 64 then (hayloftlaw01_BitsBack.j1 kj8 a0 a1 a2 a3 a4 a5 a6 t111 (t111 != a3)) else (hayloftlaw01_BitsBack.j1 kj8 a0 a1 a2 a3 a4 a5 a6 t111 false)) else (hayloftlaw01_BitsBack.j1 kj8 a0 a1 a2 a3 a4 a5 a6 t111 true)) else (none))) else (if a2 = 64 then (hayloftlaw01_BitsBack.j1 kj8 a0 a1 a2 a3 a4 a5 a6 t111 (t111 != a3)) else (hayloftlaw01_BitsBack.j1 kj8 a0 a1 a2 a3 a4 a5 a6 t111 false))) = some r := by rw [if_neg (show ¬ (false = true) by decide)] at H; exact H
        clear H
        have H := H1
        clear H1
        have HC17 := Aside0.mk H
        clear H
        go_upto_region 4 with (fail)
        go_cut [67] (fun v67 wc => ∃ (kq : Nat) (x67_16 : Bool), v67 = .bool x67_16 ∧ Aside0 (hayloftlaw01_BitsBack.j1 kq a0 a1 a2 a3 a4 a5 a6 t111 x67_16 = some r) ∧ Aside0 (kq ≤ kj8) ∧ Aside0 (Below w.heap.size w wc))
        case first =>
          have H := HC17.out
          clear HC17
          by_cases c18 : a2 < 64
          · rw [if_pos c18] at H
            have c18b0 : decide (a2 < 64) = true := decide_eq_true c18
            clear c18
            (first | rw [c18b0] | (simp only [i64_w, i32_w]; rw [c18b0]) | skip)
            replace H := Option.bind_eq_some_iff.mp H
            obtain ⟨t113, A190, H⟩ := H
            replace H : (if 0 ≤ (IntKind.u64.wrap (a2)) then (if t113 = (Go.bits .and .u64 a3 (IntKind.u64.wrap ((shl .u64 1 (IntKind.u64.wrap (a2))) - 1))) then (if a2 = 64 then (hayloftlaw01_BitsBack.j1 kj8 a0 a1 a2 a3 a4 a5 a6 t111 (t111 != a3)) else (hayloftlaw01_BitsBack.j1 kj8 a0 a1 a2 a3 a4 a5 a6 t111 false)) else (hayloftlaw01_BitsBack.j1 kj8 a0 a1 a2 a3 a4 a5 a6 t111 true)) else (none)) = some r := H
            have A19 := Aside0.mk A190
            clear A190
            obtain ⟨ji20, hji20⟩ : ∃ j_ : Int, (IntKind.u64.wrap (a2)) = j_ := ⟨_, rfl⟩
            replace H : (if 0 ≤ (ji20) then (if t113 = (Go.bits .and .u64 a3 (IntKind.u64.wrap ((shl .u64 1 (ji20)) - 1))) then (if a2 = 64 then (hayloftlaw01_BitsBack.j1 kj8 a0 a1 a2 a3 a4 a5 a6 t111 (t111 != a3)) else (hayloftlaw01_BitsBack.j1 kj8 a0 a1 a2 a3 a4 a5 a6 t111 false)) else (hayloftlaw01_BitsBack.j1 kj8 a0 a1 a2 a3 a4 a5 a6 t111 true)) else (none)) = some r := by first | (rw [hji20] at H; exact H) | (simp only [hji20] at H ⊢; exact H)
            (try rw [hji20] at A19)
            by_cases c21 : 0 ≤ (ji20)
            · rw [if_pos c21] at H
              have c21b0 := eq_true c21
              have c21b1 : decide (0 ≤ (ji20)) = true := decide_eq_true c21
              clear c21
              obtain ⟨ji22, hji22⟩ : ∃ j_ : Int, (shl .u64 1 (ji20)) = j_ := ⟨_, rfl⟩
              replace H : (if t113 = (Go.bits .and .u64 a3 (IntKind.u64.wrap ((ji22) - 1))) then (if a2 = 64 then (hayloftlaw01_BitsBack.j1 kj8 a0 a1 a2 a3 a4 a5 a6 t111 (t111 != a3)) else (hayloftlaw01_BitsBack.j1 kj8 a0 a1 a2 a3 a4 a5 a6 t111 false)) else (hayloftlaw01_BitsBack.j1 kj8 a0 a1 a2 a3 a4 a5 a6 t111 true)) = some r := by first | (rw [hji22] at H; exact H) | (simp only [hji22] at H ⊢; exact H)
              (try rw [hji22] at A19)
              have hji22_ : (IntKind.u64.wrap (1 * 2 ^ min (ji20).toNat 64)) = ji22 := hji22
              have hji22z : (ji20) ≤ 64 → (IntKind.u64.wrap (1 * 2 ^ (ji20).toNat)) = ji22 := shl_small hji22
              have hji22u : (IntKind.u64.wrap (2 ^ min (ji20).toNat 64)) = ji22 := by have h_ := hji22_; rw [Int.one_mul] at h_; exact h_
              have hji22v : (ji20) ≤ 64 → (IntKind.u64.wrap (2 ^ (ji20).toNat)) = ji22 := fun hle_ => by have h_ := hji22z hle_; rw [Int.one_mul] at h_; exact h_
              by_cases c23 : t113 = (Go.bits .and .u64 a3 (IntKind.u64.wrap ((ji22) - 1)))
              · rw [if_pos c23] at H
                have c23b0 : (t113 == (Go.bits .and .u64 a3 (IntKind.u64.wrap ((ji22) - 1)))) = true := beq_iff_eq.mpr c23
                have c23b1 : (t113 != (Go.bits .and .u64 a3 (IntKind.u64.wrap ((ji22) - 1)))) = false := bne_eq_false_iff_eq.mpr c23
                clear c23
                by_cases c24 : a2 = 64
                · rw [if_pos c24] at H
                  have c24b0 : (a2 == 64) = true := beq_iff_eq.mpr c24
                  have c24b1 : (a2 != 64) = false := bne_eq_false_iff_eq.mpr c24
                  clear c24
                  have H' := Aside0.mk H
                  clear H
                  go_wp2_with (first | (go_at_call 11; (with_reducible refine (bits_Get.calls t111 a1 a2 t113 _ A19.out).mono ?_); rintro e w' ⟨rfl, ⟨nd, rfl⟩⟩))
                  go_meet
                  case rel => exact ⟨_, ((t111 != a3)), (by first | rfl | (simp; done) | (simp [*]; done)), H', ⟨by have := HJ8.out; first | omega | exact Nat.le_refl _⟩, ⟨by repeat (first | (with_reducible first | exact HB.out | apply below_alloc | apply pw_below_drewN | apply below_drew1) | exact HB.out)⟩⟩
                · rw [if_neg c24] at H
                  have c24b0 : (a2 == 64) = false := beq_eq_false_iff_ne.mpr c24
                  have c24b1 : (a2 != 64) = true := bne_iff_ne.mpr c24
                  have H' := Aside0.mk H
                  clear H
                  go_wp2_with (first | (go_at_call 11; (with_reducible refine (bits_Get.calls t111 a1 a2 t113 _ A19.out).mono ?_); rintro e w' ⟨rfl, ⟨nd, rfl⟩⟩))
                  go_meet
                  case rel => exact ⟨_, (false), (by first | rfl | (simp; done) | (simp [*]; done)), H', ⟨by have := HJ8.out; first | omega | exact Nat.le_refl _⟩, ⟨by repeat (first | (with_reducible first | exact HB.out | apply below_alloc | apply pw_below_drewN | apply below_drew1) | exact HB.out)⟩⟩
              · rw [if_neg c23] at H
                have c23b0 : (t113 == (Go.bits .and .u64 a3 (IntKind.u64.wrap ((ji22) - 1)))) = false := beq_eq_false_iff_ne.mpr c23
                have c23b1 : (t113 != (Go.bits .and .u64 a3 (IntKind.u64.wrap ((ji22) - 1)))) = true := bne_iff_ne.mpr c23
                have H' := Aside0.mk H
                clear H
                go_wp2_with (first | (go_at_call 11; (with_reducible refine (bits_Get.calls t111 a1 a2 t113 _ A19.out).mono ?_); rintro e w' ⟨rfl, ⟨nd, rfl⟩⟩))
                go_meet
                case rel => exact ⟨_, (true), (by first | rfl | (simp; done) | (simp [*]; done)), H', ⟨by have := HJ8.out; first | omega | exact Nat.le_refl _⟩, ⟨by repeat (first | (with_reducible first | exact HB.out | apply below_alloc | apply pw_below_drewN | apply below_drew1) | exact HB.out)⟩⟩
            · rw [if_neg c21] at H
              exact absurd H (by simp)
          · rw [if_neg c18] at H
            have c18b0 : decide (a2 < 64) = false := decide_eq_false c18
            clear c18
            (first | rw [c18b0] | (simp only [i64_w, i32_w]; rw [c18b0]) | skip)
            by_cases c25 : a2 = 64
            · rw [if_pos c25] at H
              have c25b0 : (a2 == 64) = true := beq_iff_eq.mpr c25
              have c25b1 : (a2 != 64) = false := bne_eq_false_iff_eq.mpr c25
              clear c25
              have H' := Aside0.mk H
              clear H
              go_wp2
              go_meet
              case rel => exact ⟨_, ((t111 != a3)), (by first | rfl | (simp; done) | (simp [*]; done)), H', ⟨by have := HJ8.out; first | omega | exact Nat.le_refl _⟩, ⟨by repeat (first | (with_reducible first | exact HB.out | apply below_alloc | apply pw_below_drewN | apply below_drew1) | exact HB.out)⟩⟩
            · rw [if_neg c25] at H
              have c25b0 : (a2 == 64) = false := beq_eq_false_iff_ne.mpr c25
              have c25b1 : (a2 != 64) = true := bne_iff_ne.mpr c25
              have H' := Aside0.mk H
              clear H
              go_wp2
              go_meet
              case rel => exact ⟨_, (false), (by first | rfl | (simp; done) | (simp [*]; done)), H', ⟨by have := HJ8.out; first | omega | exact Nat.le_refl _⟩, ⟨by repeat (first | (with_reducible first | exact HB.out | apply below_alloc | apply pw_below_drewN | apply below_drew1) | exact HB.out)⟩⟩
        case rest =>
          clear HC17
          try clear c1
          try clear c2
          try clear p2
          try clear c4
          try clear p6
          try clear c9
          try clear c10
          try clear c10b0
          try clear c11
          try clear c11b0
          try clear c12
          try clear c12b0
          try clear c13
          try clear c14
          try clear c14b0
          try clear c14b1
          try clear c18
          try clear c18b0
          try clear c21
          try clear c21b0
          try clear c21b1
          try clear c23
          try clear c23b0
          try clear c23b1
          try clear c24
          try clear c24b0
          try clear c24b1
          try clear c25
          try clear c25b0
          try clear c25b1
          try clear p2
          try clear p6
          obtain ⟨kq, x67_16, rfl, HA, HJ16, HB⟩ := hcut
          cases kq with
          | zero => exact absurd HA.out (by simp [hayloftlaw01_BitsBack.j1])
          | succ kj16 =>
            have H := HA.out
            clear HA
            simp only [hayloftlaw01_BitsBack.j1] at H
            by_cases c26 : x67_16 = true
            · subst c26
              have H1 : (some false) = some r := by rw [if_pos rfl] at H; exact H
              clear H
              have H := H1
              clear H1
              obtain rfl := Option.some.inj H
              go_wp2
              go_ret
              exact ⟨by first | rfl | (simp [errW_none, errW_some] <;> rfl) | (simp [*, errW_none, errW_some] <;> rfl), by repeat (first | (with_reducible first | exact HB.out | apply below_alloc | apply pw_below_drewN | apply below_drew1) | exact HB.out)⟩
            · replace c26 := Bool.eq_false_iff.mpr c26
              subst c26
              have H1 : (if a5 < 1 then (hayloftlaw01_BitsBack.j2 kj16 a0 a1 a2 a3 a4 a5 a6 t111 true) else (if a5 > 64 then (hayloftlaw01_BitsBack.j2 kj16 a0 a1 a2 a3 a4 a5 a6 t111 true) else (if a4 < 0 then (hayloftlaw01_BitsBack.j2 kj16 a0 a1 a2 a3 a4 a5 a6 t111 true) else (if a4 > (wrap64 (64 - a5)) then (hayloftlaw01_BitsBack.j2 kj16 a0 a1 a2 a3 a4 a5 a6 t111 true) else (if a4 < (wrap64 (a1 + a2)) then (hayloftlaw01_BitsBack.j2 kj16 a0 a1 a2 a3 a4 a5 a6 t111 (decide (a1 < (wrap64 (a4 + a5))))) else (hayloftlaw01_BitsBack.j2 kj16 a0 a1 a2 a3 a4 a5 a6 t111 false)))))) = some r := by rw [if_neg (show ¬ (false = true) by decide)] at H; exact H
              clear H
              have H := H1
              clear H1
              have HC27 := Aside0.mk H
              clear H
              go_upto_region 6 with (fail)
              go_cut [97] (fun v97 wc => ∃ (kq : Nat) (x97_26 : Bool), v97 = .bool x97_26 ∧ Aside0 (hayloftlaw01_BitsBack.j2 kq a0 a1 a2 a3 a4 a5 a6 t111 x97_26 = some r) ∧ Aside0 (kq ≤ kj16) ∧ Aside0 (Below w.heap.size w wc))
              case first =>
                have H := HC27.out
                clear HC27
                by_cases c28 : a5 < 1
                · rw [if_pos c28] at H
                  have c28b0 : decide (a5 < 1) = true := decide_eq_true c28
                  clear c28
                  (first | rw [c28b0] | (simp only [i64_w, i32_w]; rw [c28b0]) | skip)
                  have H' := Aside0.mk H
                  clear H
                  go_wp2
                  go_meet
                  case rel => exact ⟨_, (true), (by first | rfl | (simp; done) | (simp [*]; done)), H', ⟨by have := HJ8.out; have := HJ16.out; first | omega | exact Nat.le_refl _⟩, ⟨by repeat (first | (with_reducible first | exact HB.out | apply below_alloc | apply pw_below_drewN | apply below_drew1) | exact HB.out)⟩⟩
                · rw [if_neg c28] at H
                  have c28b0 : decide (a5 < 1) = false := decide_eq_false c28
                  clear c28
                  (first | rw [c28b0] | (simp only [i64_w, i32_w]; rw [c28b0]) | skip)
                  by_cases c29 : a5 > 64
                  · rw [if_pos c29] at H
                    have c29b0 : decide (64 < a5) = true := decide_eq_true c29
                    clear c29
                    have H' := Aside0.mk H
                    clear H
                    go_wp2
                    go_meet
                    case rel => exact ⟨_, (true), (by first | rfl | (simp; done) | (simp [*]; done)), H', ⟨by have := HJ8.out; have := HJ16.out; first | omega | exact Nat.le_refl _⟩, ⟨by repeat (first | (with_reducible first | exact HB.out | apply below_alloc | apply pw_below_drewN | apply below_drew1) | exact HB.out)⟩⟩
                  · rw [if_neg c29] at H
                    have c29b0 : decide (64 < a5) = false := decide_eq_false c29
                    clear c29
                    by_cases c30 : a4 < 0
                    · rw [if_pos c30] at H
                      have c30b0 : decide (a4 < 0) = true := decide_eq_true c30
                      clear c30
                      have H' := Aside0.mk H
                      clear H
                      go_wp2
                      go_meet
                      case rel => exact ⟨_, (true), (by first | rfl | (simp; done) | (simp [*]; done)), H', ⟨by have := HJ8.out; have := HJ16.out; first | omega | exact Nat.le_refl _⟩, ⟨by repeat (first | (with_reducible first | exact HB.out | apply below_alloc | apply pw_below_drewN | apply below_drew1) | exact HB.out)⟩⟩
                    · rw [if_neg c30] at H
                      have c30b0 : decide (a4 < 0) = false := decide_eq_false c30
                      clear c30
                      by_cases c31 : a4 > (wrap64 (64 - a5))
                      · rw [if_pos c31] at H
                        have c31b0 : decide ((wrap64 (64 - a5)) < a4) = true := decide_eq_true c31
                        clear c31
                        have H' := Aside0.mk H
                        clear H
                        go_wp2
                        go_meet
                        case rel => exact ⟨_, (true), (by first | rfl | (simp; done) | (simp [*]; done)), H', ⟨by have := HJ8.out; have := HJ16.out; first | omega | exact Nat.le_refl _⟩, ⟨by repeat (first | (with_reducible first | exact HB.out | apply below_alloc | apply pw_below_drewN | apply below_drew1) | exact HB.out)⟩⟩
                      · rw [if_neg c31] at H
                        have c31b0 : decide ((wrap64 (64 - a5)) < a4) = false := decide_eq_false c31
                        clear c31
                        by_cases c32 : a4 < (wrap64 (a1 + a2))
                        · rw [if_pos c32] at H
                          have c32b0 : decide (a4 < (wrap64 (a1 + a2))) = true := decide_eq_true c32
                          clear c32
                          have H' := Aside0.mk H
                          clear H
                          go_wp2
                          go_meet
                          case rel => exact ⟨_, (decide (a1 < (wrap64 (a4 + a5)))), (by first | rfl | (simp; done) | (simp [*]; done)), H', ⟨by have := HJ8.out; have := HJ16.out; first | omega | exact Nat.le_refl _⟩, ⟨by repeat (first | (with_reducible first | exact HB.out | apply below_alloc | apply pw_below_drewN | apply below_drew1) | exact HB.out)⟩⟩
                        · rw [if_neg c32] at H
                          have c32b0 : decide (a4 < (wrap64 (a1 + a2))) = false := decide_eq_false c32
                          clear c32
                          have H' := Aside0.mk H
                          clear H
                          go_wp2
                          go_meet
                          case rel => exact ⟨_, (false), (by first | rfl | (simp; done) | (simp [*]; done)), H', ⟨by have := HJ8.out; have := HJ16.out; first | omega | exact Nat.le_refl _⟩, ⟨by repeat (first | (with_reducible first | exact HB.out | apply below_alloc | apply pw_below_drewN | apply below_drew1) | exact HB.out)⟩⟩
              case rest =>
                clear HC27
                try clear c1
                try clear c2
                try clear p2
                try clear c3
                try clear c4
                try clear p6
                try clear c9
                try clear c10
                try clear c10b0
                try clear c11
                try clear c11b0
                try clear c12
                try clear c12b0
                try clear c13
                try clear c14
                try clear c14b0
                try clear c14b1
                try clear c18
                try clear c18b0
                try clear c21
                try clear c21b0
                try clear c21b1
                try clear c23
                try clear c23b0
                try clear c23b1
                try clear c24
                try clear c24b0
                try clear c24b1
                try clear c25
                try clear c25b0
                try clear c25b1
                try clear c26
                try clear c28
                try clear c28b0
                try clear c29
                try clear c29b0
                try clear c30
                try clear c30b0
                try clear c31
                try clear c31b0
                try clear c32
                try clear c32b0
                try clear p2
                try clear p6
                obtain ⟨kq, x97_26, rfl, HA, HJ26, HB⟩ := hcut
                cases kq with
                | zero => exact absurd HA.out (by simp [hayloftlaw01_BitsBack.j2])
                | succ kj26 =>
                  have H := HA.out
                  clear HA
                  simp only [hayloftlaw01_BitsBack.j2] at H
                  by_cases c33 : x97_26 = true
                  · subst c33
                    have H1 : ((hayloftlaw01_wakes.f).bind fun t114 => (some t114)) = some r := by rw [if_pos rfl] at H; exact H
                    clear H
                    have H := H1
                    clear H1
                    replace H := Option.bind_eq_some_iff.mp H
                    obtain ⟨t114, A340, H⟩ := H
                    replace H : (some t114) = some r := H
                    have A34 := Aside0.mk A340
                    clear A340
                    obtain rfl := Option.some.inj H
                    go_wp2_with (first | ((with_reducible refine gate_callee (f := 17) rfl ?_); refine goesL_ (some 98) rfl rfl Try.func17 (by kernel_rfl) rfl #[] rfl (by (try simp only [List.map_toArray, List.map_cons, List.map_nil]); first | done | rfl | (simp only [List.length_drop, List.length_take]; rfl)) ?_; (with_reducible refine (hayloftlaw01_wakes.calls  t114 _ A34.out).mono ?_); rintro e w35 ⟨rfl, hb⟩; refine ⟨_, rfl, ?_⟩; have n0_ := Aside0.mk (below_step (by repeat (first | (with_reducible first | exact HB.out | apply below_alloc | apply pw_below_drewN | apply below_drew1) | exact HB.out)) hb); clear HB; have HB := n0_; clear n0_; (try clear hb); (try clear hb2); (try clear hk); (try clear hi)))
                    go_ret
                    exact ⟨by first | rfl | (simp [errW_none, errW_some] <;> rfl) | (simp [*, errW_none, errW_some] <;> rfl), by repeat (first | (with_reducible first | exact HB.out | apply below_alloc | apply pw_below_drewN | apply below_drew1) | exact HB.out)⟩
                  · replace c33 := Bool.eq_false_iff.mpr c33
                    subst c33
                    have H1 : ((bits_Put.f t111 a4 a5 a6).bind fun t115 => ((bits_Get.f t111 a4 a5).bind fun t116 => ((bits_Get.f a0 a4 a5).bind fun t117 => (if t116 = t117 then ((bits_Get.f t115 a1 a2).bind fun t118 => ((bits_Get.f t111 a1 a2).bind fun t119 => (if t118 = t119 then ((bits_Put.f a0 a4 a5 a6).bind fun t120 => ((bits_Put.f t120 a1 a2 a3).bind fun t121 => (if t115 = t121 then ((hayloftlaw01_wakes.f).bind fun t122 => (some t122)) else (some false)))) else (some false)))) else (some false))))) = some r := by rw [if_neg (show ¬ (false = true) by decide)] at H; exact H
                    clear H
                    have H := H1
                    clear H1
                    replace H := Option.bind_eq_some_iff.mp H
                    obtain ⟨t115, A360, H⟩ := H
                    replace H : ((bits_Get.f t111 a4 a5).bind fun t116 => ((bits_Get.f a0 a4 a5).bind fun t117 => (if t116 = t117 then ((bits_Get.f t115 a1 a2).bind fun t118 => ((bits_Get.f t111 a1 a2).bind fun t119 => (if t118 = t119 then ((bits_Put.f a0 a4 a5 a6).bind fun t120 => ((bits_Put.f t120 a1 a2 a3).bind fun t121 => (if t115 = t121 then ((hayloftlaw01_wakes.f).bind fun t122 => (some t122)) else (some false)))) else (some false)))) else (some false)))) = some r := H
                    have A36 := Aside0.mk A360
                    clear A360
                    replace H := Option.bind_eq_some_iff.mp H
                    obtain ⟨t116, A370, H⟩ := H
                    replace H : ((bits_Get.f a0 a4 a5).bind fun t117 => (if t116 = t117 then ((bits_Get.f t115 a1 a2).bind fun t118 => ((bits_Get.f t111 a1 a2).bind fun t119 => (if t118 = t119 then ((bits_Put.f a0 a4 a5 a6).bind fun t120 => ((bits_Put.f t120 a1 a2 a3).bind fun t121 => (if t115 = t121 then ((hayloftlaw01_wakes.f).bind fun t122 => (some t122)) else (some false)))) else (some false)))) else (some false))) = some r := H
                    have A37 := Aside0.mk A370
                    clear A370
                    replace H := Option.bind_eq_some_iff.mp H
                    obtain ⟨t117, A380, H⟩ := H
                    replace H : (if t116 = t117 then ((bits_Get.f t115 a1 a2).bind fun t118 => ((bits_Get.f t111 a1 a2).bind fun t119 => (if t118 = t119 then ((bits_Put.f a0 a4 a5 a6).bind fun t120 => ((bits_Put.f t120 a1 a2 a3).bind fun t121 => (if t115 = t121 then ((hayloftlaw01_wakes.f).bind fun t122 => (some t122)) else (some false)))) else (some false)))) else (some false)) = some r := H
                    have A38 := Aside0.mk A380
                    clear A380
                    by_cases c39 : t116 = t117
                    · rw [if_pos c39] at H
                      have c39b0 : (t116 == t117) = true := beq_iff_eq.mpr c39
                      have c39b1 : (t116 != t117) = false := bne_eq_false_iff_eq.mpr c39
                      clear c39
                      replace H := Option.bind_eq_some_iff.mp H
                      obtain ⟨t118, A400, H⟩ := H
                      replace H : ((bits_Get.f t111 a1 a2).bind fun t119 => (if t118 = t119 then ((bits_Put.f a0 a4 a5 a6).bind fun t120 => ((bits_Put.f t120 a1 a2 a3).bind fun t121 => (if t115 = t121 then ((hayloftlaw01_wakes.f).bind fun t122 => (some t122)) else (some false)))) else (some false))) = some r := H
                      have A40 := Aside0.mk A400
                      clear A400
                      replace H := Option.bind_eq_some_iff.mp H
                      obtain ⟨t119, A410, H⟩ := H
                      replace H : (if t118 = t119 then ((bits_Put.f a0 a4 a5 a6).bind fun t120 => ((bits_Put.f t120 a1 a2 a3).bind fun t121 => (if t115 = t121 then ((hayloftlaw01_wakes.f).bind fun t122 => (some t122)) else (some false)))) else (some false)) = some r := H
                      have A41 := Aside0.mk A410
                      clear A410
                      by_cases c42 : t118 = t119
                      · rw [if_pos c42] at H
                        have c42b0 : (t118 == t119) = true := beq_iff_eq.mpr c42
                        have c42b1 : (t118 != t119) = false := bne_eq_false_iff_eq.mpr c42
                        clear c42
                        replace H := Option.bind_eq_some_iff.mp H
                        obtain ⟨t120, A430, H⟩ := H
                        replace H : ((bits_Put.f t120 a1 a2 a3).bind fun t121 => (if t115 = t121 then ((hayloftlaw01_wakes.f).bind fun t122 => (some t122)) else (some false))) = some r := H
                        have A43 := Aside0.mk A430
                        clear A430
                        replace H := Option.bind_eq_some_iff.mp H
                        obtain ⟨t121, A440, H⟩ := H
                        replace H : (if t115 = t121 then ((hayloftlaw01_wakes.f).bind fun t122 => (some t122)) else (some false)) = some r := H
                        have A44 := Aside0.mk A440
                        clear A440
                        by_cases c45 : t115 = t121
                        · rw [if_pos c45] at H
                          have c45b0 : (t115 == t121) = true := beq_iff_eq.mpr c45
                          have c45b1 : (t115 != t121) = false := bne_eq_false_iff_eq.mpr c45
                          clear c45
                          replace H := Option.bind_eq_some_iff.mp H
                          obtain ⟨t122, A460, H⟩ := H
                          replace H : (some t122) = some r := H
                          have A46 := Aside0.mk A460
                          clear A460
                          obtain rfl := Option.some.inj H
                          go_wp2_with (first | ((with_reducible refine gate_callee (f := 9) rfl ?_); refine goesL_ (some 103) rfl rfl Try.func9 (by kernel_rfl) rfl #[.int .u64 t111, .int .i64 a4, .int .i64 a5, .int .u64 a6] rfl (by (try simp only [List.map_toArray, List.map_cons, List.map_nil]); first | done | rfl | (simp only [List.length_drop, List.length_take]; rfl)) ?_; (with_reducible refine (bits_Put.calls t111 a4 a5 a6 t115 _ A36.out).mono ?_); rintro e w' ⟨rfl, ⟨nd, rfl⟩⟩; refine ⟨_, rfl, ?_⟩) | ((with_reducible refine gate_callee (f := 11) rfl ?_); refine goesL_ (some 107) rfl rfl Try.func11 (by kernel_rfl) rfl #[.int .u64 t111, .int .i64 a4, .int .i64 a5] rfl (by (try simp only [List.map_toArray, List.map_cons, List.map_nil]); first | done | rfl | (simp only [List.length_drop, List.length_take]; rfl)) ?_; (with_reducible refine (bits_Get.calls t111 a4 a5 t116 _ A37.out).mono ?_); rintro e w' ⟨rfl, ⟨nd, rfl⟩⟩; refine ⟨_, rfl, ?_⟩) | ((with_reducible refine gate_callee (f := 11) rfl ?_); refine goesL_ (some 111) rfl rfl Try.func11 (by kernel_rfl) rfl #[.int .u64 a0, .int .i64 a4, .int .i64 a5] rfl (by (try simp only [List.map_toArray, List.map_cons, List.map_nil]); first | done | rfl | (simp only [List.length_drop, List.length_take]; rfl)) ?_; (with_reducible refine (bits_Get.calls a0 a4 a5 t117 _ A38.out).mono ?_); rintro e w' ⟨rfl, ⟨nd, rfl⟩⟩; refine ⟨_, rfl, ?_⟩) | (go_at_call 11; (with_reducible refine (bits_Get.calls t115 a1 a2 t118 _ A40.out).mono ?_); rintro e w' ⟨rfl, ⟨nd, rfl⟩⟩) | (go_at_call 11; (with_reducible refine (bits_Get.calls t111 a1 a2 t119 _ A41.out).mono ?_); rintro e w' ⟨rfl, ⟨nd, rfl⟩⟩) | (go_at_call 9; (with_reducible refine (bits_Put.calls a0 a4 a5 a6 t120 _ A43.out).mono ?_); rintro e w' ⟨rfl, ⟨nd, rfl⟩⟩) | (go_at_call 9; (with_reducible refine (bits_Put.calls t120 a1 a2 a3 t121 _ A44.out).mono ?_); rintro e w' ⟨rfl, ⟨nd, rfl⟩⟩) | (go_at_call 17; (with_reducible refine (hayloftlaw01_wakes.calls  t122 _ A46.out).mono ?_); rintro e w47 ⟨rfl, hb⟩; have n0_ := Aside0.mk (below_step (by repeat (first | (with_reducible first | exact HB.out | apply below_alloc | apply pw_below_drewN | apply below_drew1) | exact HB.out)) hb); clear HB; have HB := n0_; clear n0_; (try clear hb); (try clear hb2); (try clear hk); (try clear hi)))
                          go_ret
                          exact ⟨by first | rfl | (simp [errW_none, errW_some] <;> rfl) | (simp [*, errW_none, errW_some] <;> rfl), by repeat (first | (with_reducible first | exact HB.out | apply below_alloc | apply pw_below_drewN | apply below_drew1) | exact HB.out)⟩
                        · rw [if_neg c45] at H
                          have c45b0 : (t115 == t121) = false := beq_eq_false_iff_ne.mpr c45
                          have c45b1 : (t115 != t121) = true := bne_iff_ne.mpr c45
                          obtain rfl := Option.some.inj H
                          go_wp2_with (first | ((with_reducible refine gate_callee (f := 9) rfl ?_); refine goesL_ (some 103) rfl rfl Try.func9 (by kernel_rfl) rfl #[.int .u64 t111, .int .i64 a4, .int .i64 a5, .int .u64 a6] rfl (by (try simp only [List.map_toArray, List.map_cons, List.map_nil]); first | done | rfl | (simp only [List.length_drop, List.length_take]; rfl)) ?_; (with_reducible refine (bits_Put.calls t111 a4 a5 a6 t115 _ A36.out).mono ?_); rintro e w' ⟨rfl, ⟨nd, rfl⟩⟩; refine ⟨_, rfl, ?_⟩) | ((with_reducible refine gate_callee (f := 11) rfl ?_); refine goesL_ (some 107) rfl rfl Try.func11 (by kernel_rfl) rfl #[.int .u64 t111, .int .i64 a4, .int .i64 a5] rfl (by (try simp only [List.map_toArray, List.map_cons, List.map_nil]); first | done | rfl | (simp only [List.length_drop, List.length_take]; rfl)) ?_; (with_reducible refine (bits_Get.calls t111 a4 a5 t116 _ A37.out).mono ?_); rintro e w' ⟨rfl, ⟨nd, rfl⟩⟩; refine ⟨_, rfl, ?_⟩) | ((with_reducible refine gate_callee (f := 11) rfl ?_); refine goesL_ (some 111) rfl rfl Try.func11 (by kernel_rfl) rfl #[.int .u64 a0, .int .i64 a4, .int .i64 a5] rfl (by (try simp only [List.map_toArray, List.map_cons, List.map_nil]); first | done | rfl | (simp only [List.length_drop, List.length_take]; rfl)) ?_; (with_reducible refine (bits_Get.calls a0 a4 a5 t117 _ A38.out).mono ?_); rintro e w' ⟨rfl, ⟨nd, rfl⟩⟩; refine ⟨_, rfl, ?_⟩) | (go_at_call 11; (with_reducible refine (bits_Get.calls t115 a1 a2 t118 _ A40.out).mono ?_); rintro e w' ⟨rfl, ⟨nd, rfl⟩⟩) | (go_at_call 11; (with_reducible refine (bits_Get.calls t111 a1 a2 t119 _ A41.out).mono ?_); rintro e w' ⟨rfl, ⟨nd, rfl⟩⟩) | (go_at_call 9; (with_reducible refine (bits_Put.calls a0 a4 a5 a6 t120 _ A43.out).mono ?_); rintro e w' ⟨rfl, ⟨nd, rfl⟩⟩) | (go_at_call 9; (with_reducible refine (bits_Put.calls t120 a1 a2 a3 t121 _ A44.out).mono ?_); rintro e w' ⟨rfl, ⟨nd, rfl⟩⟩))
                          go_ret
                          exact ⟨by first | rfl | (simp [errW_none, errW_some] <;> rfl) | (simp [*, errW_none, errW_some] <;> rfl), by repeat (first | (with_reducible first | exact HB.out | apply below_alloc | apply pw_below_drewN | apply below_drew1) | exact HB.out)⟩
                      · rw [if_neg c42] at H
                        have c42b0 : (t118 == t119) = false := beq_eq_false_iff_ne.mpr c42
                        have c42b1 : (t118 != t119) = true := bne_iff_ne.mpr c42
                        obtain rfl := Option.some.inj H
                        go_wp2_with (first | ((with_reducible refine gate_callee (f := 9) rfl ?_); refine goesL_ (some 103) rfl rfl Try.func9 (by kernel_rfl) rfl #[.int .u64 t111, .int .i64 a4, .int .i64 a5, .int .u64 a6] rfl (by (try simp only [List.map_toArray, List.map_cons, List.map_nil]); first | done | rfl | (simp only [List.length_drop, List.length_take]; rfl)) ?_; (with_reducible refine (bits_Put.calls t111 a4 a5 a6 t115 _ A36.out).mono ?_); rintro e w' ⟨rfl, ⟨nd, rfl⟩⟩; refine ⟨_, rfl, ?_⟩) | ((with_reducible refine gate_callee (f := 11) rfl ?_); refine goesL_ (some 107) rfl rfl Try.func11 (by kernel_rfl) rfl #[.int .u64 t111, .int .i64 a4, .int .i64 a5] rfl (by (try simp only [List.map_toArray, List.map_cons, List.map_nil]); first | done | rfl | (simp only [List.length_drop, List.length_take]; rfl)) ?_; (with_reducible refine (bits_Get.calls t111 a4 a5 t116 _ A37.out).mono ?_); rintro e w' ⟨rfl, ⟨nd, rfl⟩⟩; refine ⟨_, rfl, ?_⟩) | ((with_reducible refine gate_callee (f := 11) rfl ?_); refine goesL_ (some 111) rfl rfl Try.func11 (by kernel_rfl) rfl #[.int .u64 a0, .int .i64 a4, .int .i64 a5] rfl (by (try simp only [List.map_toArray, List.map_cons, List.map_nil]); first | done | rfl | (simp only [List.length_drop, List.length_take]; rfl)) ?_; (with_reducible refine (bits_Get.calls a0 a4 a5 t117 _ A38.out).mono ?_); rintro e w' ⟨rfl, ⟨nd, rfl⟩⟩; refine ⟨_, rfl, ?_⟩) | (go_at_call 11; (with_reducible refine (bits_Get.calls t115 a1 a2 t118 _ A40.out).mono ?_); rintro e w' ⟨rfl, ⟨nd, rfl⟩⟩) | (go_at_call 11; (with_reducible refine (bits_Get.calls t111 a1 a2 t119 _ A41.out).mono ?_); rintro e w' ⟨rfl, ⟨nd, rfl⟩⟩))
                        go_ret
                        exact ⟨by first | rfl | (simp [errW_none, errW_some] <;> rfl) | (simp [*, errW_none, errW_some] <;> rfl), by repeat (first | (with_reducible first | exact HB.out | apply below_alloc | apply pw_below_drewN | apply below_drew1) | exact HB.out)⟩
                    · rw [if_neg c39] at H
                      have c39b0 : (t116 == t117) = false := beq_eq_false_iff_ne.mpr c39
                      have c39b1 : (t116 != t117) = true := bne_iff_ne.mpr c39
                      obtain rfl := Option.some.inj H
                      go_wp2_with (first | ((with_reducible refine gate_callee (f := 9) rfl ?_); refine goesL_ (some 103) rfl rfl Try.func9 (by kernel_rfl) rfl #[.int .u64 t111, .int .i64 a4, .int .i64 a5, .int .u64 a6] rfl (by (try simp only [List.map_toArray, List.map_cons, List.map_nil]); first | done | rfl | (simp only [List.length_drop, List.length_take]; rfl)) ?_; (with_reducible refine (bits_Put.calls t111 a4 a5 a6 t115 _ A36.out).mono ?_); rintro e w' ⟨rfl, ⟨nd, rfl⟩⟩; refine ⟨_, rfl, ?_⟩) | ((with_reducible refine gate_callee (f := 11) rfl ?_); refine goesL_ (some 107) rfl rfl Try.func11 (by kernel_rfl) rfl #[.int .u64 t111, .int .i64 a4, .int .i64 a5] rfl (by (try simp only [List.map_toArray, List.map_cons, List.map_nil]); first | done | rfl | (simp only [List.length_drop, List.length_take]; rfl)) ?_; (with_reducible refine (bits_Get.calls t111 a4 a5 t116 _ A37.out).mono ?_); rintro e w' ⟨rfl, ⟨nd, rfl⟩⟩; refine ⟨_, rfl, ?_⟩) | ((with_reducible refine gate_callee (f := 11) rfl ?_); refine goesL_ (some 111) rfl rfl Try.func11 (by kernel_rfl) rfl #[.int .u64 a0, .int .i64 a4, .int .i64 a5] rfl (by (try simp only [List.map_toArray, List.map_cons, List.map_nil]); first | done | rfl | (simp only [List.length_drop, List.length_take]; rfl)) ?_; (with_reducible refine (bits_Get.calls a0 a4 a5 t117 _ A38.out).mono ?_); rintro e w' ⟨rfl, ⟨nd, rfl⟩⟩; refine ⟨_, rfl, ?_⟩))
                      go_ret
                      exact ⟨by first | rfl | (simp [errW_none, errW_some] <;> rfl) | (simp [*, errW_none, errW_some] <;> rfl), by repeat (first | (with_reducible first | exact HB.out | apply below_alloc | apply pw_below_drewN | apply below_drew1) | exact HB.out)⟩

/-- THE ONE PURE STATEMENT of hayloftlaw01_BitsBack: yours. -/
def hayloftlaw01_BitsBack.Pure : Prop := ∀ (a0 : Int) (a1 : Int) (a2 : Int) (a3 : Int) (a4 : Int) (a5 : Int) (a6 : Int), (Lit.int .u64 a0).wf = true → (Lit.int .i64 a1).wf = true → (Lit.int .i64 a2).wf = true → (Lit.int .u64 a3).wf = true → (Lit.int .i64 a4).wf = true → (Lit.int .i64 a5).wf = true → (Lit.int .u64 a6).wf = true → ∃ k, hayloftlaw01_BitsBack.f k a0 a1 a2 a3 a4 a5 a6 = some true
theorem hayloftlaw01_BitsBack.walk (P : hayloftlaw01_BitsBack.Pure) (a0 : Int) (a1 : Int) (a2 : Int) (a3 : Int) (a4 : Int) (a5 : Int) (a6 : Int) (w : World) (w0 : (Lit.int .u64 a0).wf = true) (w1 : (Lit.int .i64 a1).wf = true) (w2 : (Lit.int .i64 a2).wf = true) (w3 : (Lit.int .u64 a3).wf = true) (w4 : (Lit.int .i64 a4).wf = true) (w5 : (Lit.int .i64 a5).wf = true) (w6 : (Lit.int .u64 a6).wf = true) :
    Calls Try.prog 4 #[.int .u64 a0, .int .i64 a1, .int .i64 a2, .int .u64 a3, .int .i64 a4, .int .i64 a5, .int .u64 a6] w fun e w' => e = .returned (.bool true) ∧ Below w.heap.size w w' := by
  obtain ⟨k, h⟩ := P a0 a1 a2 a3 a4 a5 a6 w0 w1 w2 w3 w4 w5 w6
  refine (hayloftlaw01_BitsBack.calls k a0 a1 a2 a3 a4 a5 a6 true w h).mono ?_
  rintro e w' ⟨rfl, hd⟩
  exact ⟨rfl, hd⟩

end Go.Proofs.Ytmjofhlgbecccaa.PBitsBack
