/- The contracts of the document's own functions of layer 10. -/
import Derived.Test.YtcibkoodnfkogaaY1
import Derived.Test.YtcibkoodnfkogaaY6
import Derived.Test.YtcibkoodnfkogaaY5
namespace Go.Proofs.Ytcibkoodnfkogaa
open Go.RowKit
set_option linter.unusedVariables false
set_option linter.unusedSimpArgs false
section
open Go.RowKit
def twoB (a b : Op) : Bool := chk a && chk b && ((a.k == 15 || a.k == 16) && (b.k == 15 || b.k == 16)) && (a.k == 16 || b.k == 16)
def twoL (l : List Op) (i j : Int) : Bool :=
  if h : 0 ≤ i ∧ 0 ≤ j ∧ i < l.length ∧ j < l.length then twoB (l[i.toNat]'(by omega)) (l[j.toNat]'(by omega)) else false
set_option maxHeartbeats 4000000 in
set_option maxRecDepth 100000 in
theorem two_no (A : Option Addr) (l : List Op) (cap : Nat) (i j : Int) (w : World) (h : ¬ (0 ≤ i ∧ 0 ≤ j ∧ i < l.length ∧ j < l.length)) :
    Calls Try.prog 70 #[.slice A l.length cap, .int .i64 i, .int .i64 j] w fun e w' => e = .returned (.bool false) ∧ Below w.heap.size w w' := by
  by_cases h1 : i < 0
  · clear h
    go_enter Try.func70, Try.ntmps70
    go_wp2
    go_ret
    exact ⟨rfl, Below.refl _ _⟩
  by_cases h2 : j < 0
  · clear h
    go_enter Try.func70, Try.ntmps70
    go_wp2
    go_ret
    exact ⟨rfl, Below.refl _ _⟩
  by_cases h3 : (l.length : Int) ≤ i
  · clear h
    go_enter Try.func70, Try.ntmps70
    go_wp2
    go_ret
    exact ⟨rfl, Below.refl _ _⟩
  · have h4 : (l.length : Int) ≤ j := by omega
    clear h
    go_enter Try.func70, Try.ntmps70
    go_wp2
    go_ret
    exact ⟨rfl, Below.refl _ _⟩
set_option maxHeartbeats 4000000 in
set_option maxRecDepth 100000 in
theorem two_yes (A : Option Addr) (l : List Op) (cap i j : Nat) (w : World) (hl : OpsIn w A l) (hi : i < l.length) (hj : j < l.length) :
    Calls Try.prog 70 #[.slice A l.length cap, .int .i64 i, .int .i64 j] w fun e w' => e = .returned (.bool (twoB l[i] l[j])) ∧ Below w.heap.size w w' := by
  obtain ⟨g, off, rfl, hop⟩ := hl.get i hi
  obtain ⟨g', off', he, hop2⟩ := hl.get j hj
  obtain ⟨rfl, rfl⟩ : g' = g ∧ off' = off := by injection he with h; injection h with h1 h2; exact ⟨h1.symm, h2.symm⟩
  obtain ⟨c0, c1, c2, c3, c4⟩ := hop
  obtain ⟨d0, d1, d2, d3, d4⟩ := hop2
  have hgs : g' < w.heap.size := World.block_lt_of_cell? w _ c0
  have hgs1 : g' < w.heap.size + 1 := by omega
  have ra := hid (fun w => rcheck_any l[i] w)
  have rb := hid (fun w => rcheck_any l[j] w)
  clear he hl
  cases h1 : chk l[i]
  · have e0 := hid (show twoB l[i] l[j] = false by unfold twoB; rw [h1]; rfl)
    have e1 : chkE l[i] = 30 := by unfold chkE; rw [h1]; rfl
    rw [e1] at ra
    go_enter Try.func70, Try.ntmps70
    go_wp2_with (go_at_call 88; (with_reducible refine (ra.out _).mono ?_); rintro e w1 ⟨rfl, hb⟩)
    go_ret
    refine ⟨ret_bool e0.out.symm, btrans (a := w) ?_ hb⟩
    ((with_reducible (repeat (first | assumption | exact Below.refl _ _ | refine bset ?_ (Nat.le_refl _) _ | refine balloc ?_ _ | refine bdrew ?_ | refine bdrewN ?_ _))); done)
  have e1 : chkE l[i] = 0 := by unfold chkE; rw [h1]; rfl
  rw [e1] at ra
  cases h2 : chk l[j]
  · have e0 := hid (show twoB l[i] l[j] = false by unfold twoB; rw [h2, Bool.and_false]; rfl)
    have e2 : chkE l[j] = 30 := by unfold chkE; rw [h2]; rfl
    rw [e2] at rb
    clear e1 e2 h1 h2
    go_enter Try.func70, Try.ntmps70
    go_wp2_with fail
    refine (ra.out _).mono ?_
    rintro e w1 ⟨rfl, hb⟩
    obtain ⟨hc, hf⟩ := bcell hb
    have hz := hb.size
    simp at hz
    have hz0 : w.heap.size < w1.heap.size := by omega
    have hz1 : w.heap.size + 1 < w1.heap.size := by omega
    go_wp2_with fail
    refine (rb.out _).mono ?_
    rintro e w2 ⟨rfl, hb2⟩
    go_wp2
    go_ret
    refine ⟨ret_bool e0.out.symm, btrans (btrans (a := w) ?_ hb) hb2⟩
    ((with_reducible (repeat (first | assumption | exact Below.refl _ _ | refine bset ?_ (Nat.le_refl _) _ | refine balloc ?_ _ | refine bdrew ?_ | refine bdrewN ?_ _))); done)
  · have e2 : chkE l[j] = 0 := by unfold chkE; rw [h2]; rfl
    rw [e2] at rb
    have e0 : twoB l[i] l[j] = (((l[i].k == 15 || l[i].k == 16) && (l[j].k == 15 || l[j].k == 16)) && (l[i].k == 16 || l[j].k == 16)) := by
      unfold twoB
      rw [h1, h2]
      rfl
    clear e1 e2 h1 h2
    cases q1 : (l[i].k == 15)
    all_goals cases q2 : (l[i].k == 16)
    all_goals cases q3 : (l[j].k == 15)
    all_goals cases q4 : (l[j].k == 16)
    all_goals
      rw [q1, q2, q3, q4] at e0
      replace e0 := hid e0
      go_enter Try.func70, Try.ntmps70
      go_wp2_with fail
      refine (ra.out _).mono ?_
      rintro e w1 ⟨rfl, hb⟩
      obtain ⟨hc, hf⟩ := bcell hb
      have hz := hb.size
      simp at hz
      have hz0 : w.heap.size < w1.heap.size := by omega
      have hz1 : w.heap.size + 1 < w1.heap.size := by omega
      go_wp2_with fail
      refine (rb.out _).mono ?_
      rintro e w2 ⟨rfl, hb2⟩
      obtain ⟨hc2, hf2⟩ := bcell hb2
      go_wp2
      go_ret
      refine ⟨ret_bool e0.out.symm, btrans (btrans (a := w) ?_ hb) hb2⟩
      ((with_reducible (repeat (first | assumption | exact Below.refl _ _ | refine bset ?_ (Nat.le_refl _) _ | refine balloc ?_ _ | refine bdrew ?_ | refine bdrewN ?_ _))); done)
theorem two_any (A : Option Addr) (l : List Op) (cap : Nat) (i j : Int) (w : World) (hl : OpsIn w A l) :
    Calls Try.prog 70 #[.slice A l.length cap, .int .i64 i, .int .i64 j] w fun e w' => e = .returned (.bool (twoL l i j)) ∧ Below w.heap.size w w' := by
  by_cases h : 0 ≤ i ∧ 0 ≤ j ∧ i < l.length ∧ j < l.length
  · obtain ⟨i, rfl⟩ := Int.eq_ofNat_of_zero_le h.1
    obtain ⟨j, rfl⟩ := Int.eq_ofNat_of_zero_le h.2.1
    have e : twoL l i j = twoB (l[i]'(by omega)) (l[j]'(by omega)) := by unfold twoL; rw [dif_pos h]; rfl
    rw [e]
    exact two_yes A l cap i j w hl (by omega) (by omega)
  · have e : twoL l i j = false := by unfold twoL; rw [dif_neg h]
    rw [e]
    exact two_no A l cap i j w h
end
/- The contracts of the document's own functions of layer 10: apart, Meet, Round; they answer as the program's do. -/
section
open Go.RowKit
theorem i64_wrap (n : Int) : IntKind.i64.wrap n = wrap64 n := by rw [IntKind.wrap_i64]; unfold wrap64; rfl
/-- Are two numbers alike round 256, as the document reckons? -/
def dB (a b : Op) : Bool := (wrap64 (a.n - b.n)).tmod 256 == 0
def apartB (a b : Op) (st : List Op) : Bool := !(a.a != b.a || dB a b) && !written st a.a
theorem cut_get {l : List Op} {f t k : Nat} (hk : f ≤ k) (hkt : k < t) (ht : t ≤ l.length) : l[k]'(by omega) ∈ cut l f t := by
  have h : (cut l f t)[k - f]? = some (l[k]'(by omega)) := by
    unfold cut
    rw [List.getElem?_drop, List.getElem?_take, if_pos (by omega), show f + (k - f) = k by omega]
    exact List.getElem?_eq_getElem (by omega)
  exact List.mem_of_getElem? h
theorem cut_no {l : List Op} {f t : Nat} {r : Int} (ht : t ≤ l.length) (h : ∀ k (hk : k < l.length), f ≤ k → k < t → (wrB l[k] && wrN l[k] == r) = false) : written (cut l f t) r = false := by
  refine written_no fun j hj => ?_
  have hj' : j < (cut l f t).length := hj
  unfold cut at hj'
  rw [List.length_drop, List.length_take] at hj'
  have e : (cut l f t)[j] = l[f + j]'(by omega) := by
    have h1 : (cut l f t)[j]? = l[f + j]? := by
      unfold cut
      rw [List.getElem?_drop, List.getElem?_take, if_pos (by omega)]
    rw [List.getElem?_eq_getElem hj, List.getElem?_eq_getElem (by omega)] at h1
    exact Option.some.inj h1
  rw [e]
  exact h (f + j) (by omega) (by omega) (by omega)
theorem cut_yes {l : List Op} {f t k : Nat} {r : Int} (hk : f ≤ k) (hkt : k < t) (ht : t ≤ l.length) (h1 : wrB (l[k]'(by omega)) = true) (h2 : (wrN (l[k]'(by omega)) == r) = true) : written (cut l f t) r = true :=
  List.any_eq_true.2 ⟨_, cut_get hk hkt ht, by simp only [h1, h2, Bool.and_self]⟩
set_option maxHeartbeats 4000000 in
set_option maxRecDepth 100000 in
theorem apart_any (A : Option Addr) (l : List Op) (cap i j f t : Nat) (w : World) (hl : OpsIn w A l) (hi : i < l.length) (hj : j < l.length) (hf : f ≤ t) (ht : t ≤ l.length) (hm : l.length ≤ 1000000000000000000) :
    Calls Try.prog 71 #[.slice A l.length cap, .int .i64 i, .int .i64 j, .int .i64 f, .int .i64 t] w fun e w' => e = .returned (.bool (apartB l[i] l[j] (cut l f t))) ∧ Below w.heap.size w w' := by
  have HL := hid hl
  obtain ⟨g, off, rfl, hop⟩ := hl.get i hi
  obtain ⟨g', off', he, hop2⟩ := hl.get j hj
  obtain ⟨rfl, rfl⟩ : g' = g ∧ off' = off := by injection he with h; injection h with h1 h2; exact ⟨h1.symm, h2.symm⟩
  obtain ⟨c0, c1, c2, c3, c4⟩ := hop
  obtain ⟨d0, d1, d2, d3, d4⟩ := hop2
  have hij : (i : Int) < (l.length : Int) := by omega
  have hjj : (j : Int) < (l.length : Int) := by omega
  have hi0 : (0 : Int) ≤ (i : Int) := by omega
  have hj0 : (0 : Int) ≤ (j : Int) := by omega
  clear he hl
  cases h1 : (l[i].a != l[j].a)
  · cases h2 : dB l[i] l[j]
    · have e0 : apartB l[i] l[j] (cut l f t) = !written (cut l f t) l[i].a := by unfold apartB; rw [h1, h2]; rfl
      replace e0 := hid e0
      have h3 : ((wrap64 (l[i].n - l[j].n)).tmod 256 == 0) = false := h2
      have h4 : ((IntKind.i64.wrap (l[i].n - l[j].n)).tmod 256 == 0) = false := by rw [i64_wrap]; exact h2
      clear h2
      go_enter Try.func71, Try.ntmps71
      go_wp2
      go_quiet (fail)
      go_wp2
      go_loopg [11] (t - f) (fun gm v wr => ∃ k : Nat, f ≤ k ∧ k ≤ t ∧ v = .int .i64 k ∧ Hid (gm + k = t) ∧ Hid (∀ m (hm : m < l.length), f ≤ m → m < k → (wrB l[m] && wrN l[m] == l[i].a) = false) ∧ Below w.heap.size w wr)
      case atStart => exact ⟨f, by omega, by omega, rfl, by show _ + _ = _; omega, fun m hm h0 h1 => by omega, by ((with_reducible (repeat (first | assumption | exact Below.refl _ _ | refine bset ?_ (Nat.le_refl _) _ | refine balloc ?_ _ | refine bdrew ?_ | refine bdrewN ?_ _))); done)⟩
      case round =>
        obtain ⟨k, hfk, hkt, rfl, hg, hall, hbw⟩ := hrel
        have hgs : g' < w.heap.size := World.block_lt_of_cell? w _ c0
        clear c0 c1 c2 c3 c4 d0 d1 d2 d3 d4
        by_cases hlt : k < t
        · have hkl : k < l.length := by omega
          obtain ⟨gk, ok, he, hop⟩ := (OpsIn.keep HL.out hbw).get k hkl
          obtain ⟨e1, e2⟩ : gk = g' ∧ ok = off' := by injection he with h; injection h with h1 h2; exact ⟨h1.symm, h2.symm⟩
          rw [e1, e2] at hop
          obtain ⟨gi, oi, he', hop2⟩ := (OpsIn.keep HL.out hbw).get i hi
          obtain ⟨e3, e4⟩ : gi = g' ∧ oi = off' := by injection he' with h; injection h with h1 h2; exact ⟨h1.symm, h2.symm⟩
          rw [e3, e4] at hop2
          obtain ⟨c0, c1, c2, c3, c4⟩ := hop
          obtain ⟨_, _, d2, _, _⟩ := hop2
          clear he he' e1 e2 e3 e4 gk ok gi oi
          have hkj : (k : Int) < (l.length : Int) := by omega
          have hk0 : (0 : Int) ≤ (k : Int) := by omega
          have hgr : g' < wr.heap.size := World.block_lt_of_cell? wr _ c0
          have hb0 := hbw
          cases q1 : wrB l[k]
          · go_wp2_with (go_at_call 104; (with_reducible refine (rwrites_any l[k] _).mono ?_); rintro e w' ⟨rfl, hb⟩; obtain ⟨hc, hf⟩ := bcell hb)
            go_roundg (t - (k + 1))
            case measure => have := hg.out; omega
            case rel =>
              refine ⟨k + 1, by omega, by omega, by go_num, by show _ + _ = _; omega, fun m hm h0 h1 => ?_, btrans hb0 hb⟩
              by_cases h : m < k
              · exact hall.out m hm h0 h
              · obtain rfl : m = k := by omega
                rw [q1]; rfl
          cases q2 : (wrN l[k] == l[i].a)
          · go_wp2_with (go_at_call 104; (with_reducible refine (rwrites_any l[k] _).mono ?_); rintro e w' ⟨rfl, hb⟩; obtain ⟨hc, hf⟩ := bcell hb)
            go_roundg (t - (k + 1))
            case measure => have := hg.out; omega
            case rel =>
              refine ⟨k + 1, by omega, by omega, by go_num, by show _ + _ = _; omega, fun m hm h0 h1 => ?_, btrans hb0 hb⟩
              by_cases h : m < k
              · exact hall.out m hm h0 h
              · obtain rfl : m = k := by omega
                rw [q2, Bool.and_false]
          · have e2 := hid (e0.out.trans (show (!written (cut l f t) l[i].a) = false by rw [cut_yes hfk hlt ht q1 q2]; rfl))
            go_wp2_with (go_at_call 104; (with_reducible refine (rwrites_any l[k] _).mono ?_); rintro e w' ⟨rfl, hb⟩; obtain ⟨hc, hf⟩ := bcell hb)
            go_ret
            exact ⟨ret_bool e2.out.symm, btrans hb0 hb⟩
        · obtain rfl : k = t := by omega
          have e1 := cut_no (r := l[i].a) ht (fun m hm h0 h1 => hall.out m hm h0 h1)
          have e2 := hid (e0.out.trans (by rw [e1]; rfl : _ = true))
          go_wp2
          go_ret
          exact ⟨ret_bool e2.out.symm, hbw⟩
    · have e0 := hid (show apartB l[i] l[j] (cut l f t) = false by unfold apartB; rw [h2, Bool.or_true]; rfl)
      have h3 : ((wrap64 (l[i].n - l[j].n)).tmod 256 == 0) = true := h2
      have h4 : ((IntKind.i64.wrap (l[i].n - l[j].n)).tmod 256 == 0) = true := by rw [i64_wrap]; exact h2
      clear h2
      go_enter Try.func71, Try.ntmps71
      go_wp2
      go_quiet (fail)
      go_wp2
      go_ret
      refine ⟨ret_bool e0.out.symm, ?_⟩
      ((with_reducible (repeat (first | assumption | exact Below.refl _ _ | refine bset ?_ (Nat.le_refl _) _ | refine balloc ?_ _ | refine bdrew ?_ | refine bdrewN ?_ _))); done)
  · have e0 := hid (show apartB l[i] l[j] (cut l f t) = false by unfold apartB; rw [h1]; rfl)
    go_enter Try.func71, Try.ntmps71
    go_wp2
    go_quiet (fail)
    go_wp2
    go_ret
    refine ⟨ret_bool e0.out.symm, ?_⟩
    ((with_reducible (repeat (first | assumption | exact Below.refl _ _ | refine bset ?_ (Nat.le_refl _) _ | refine balloc ?_ _ | refine bdrew ?_ | refine bdrewN ?_ _))); done)
/-- The document's answers. -/
def rmeetL (l : List Op) (i j : Int) : Bool := decide (i < j) && (twoL l i j && !(if h : 0 ≤ i ∧ 0 ≤ j ∧ i < l.length ∧ j < l.length then apartB (l[i.toNat]'(by omega)) (l[j.toNat]'(by omega)) (cut l i.toNat j.toNat) else true))
def rroundL (l : List Op) (i j : Int) : Bool := twoL l i j && !(if h : 0 ≤ i ∧ 0 ≤ j ∧ i < l.length ∧ j < l.length then apartB (l[i.toNat]'(by omega)) (l[j.toNat]'(by omega)) l else true)
theorem cut_all (l : List Op) : cut l 0 l.length = l := by unfold cut; rw [List.take_length, List.drop_zero]
theorem twoL_in {l : List Op} {i j : Int} (h : twoL l i j = true) : 0 ≤ i ∧ 0 ≤ j ∧ i < l.length ∧ j < l.length := by
  unfold twoL at h
  split at h
  · assumption
  · cases h
set_option maxHeartbeats 4000000 in
set_option maxRecDepth 100000 in
theorem RRound_any (A : Option Addr) (l : List Op) (cap : Nat) (i j : Int) (w : World) (hl : OpsIn w A l) (hm : l.length ≤ 1000000000000000000) :
    Calls Try.prog 30 #[.slice A l.length cap, .int .i64 i, .int .i64 j] w fun e w' => e = .returned (.bool (rroundL l i j)) ∧ Below w.heap.size w w' := by
  have h2 := hid (two_any A l cap i j w hl)
  cases ht : twoL l i j
  · have e0 := hid (show rroundL l i j = false by unfold rroundL; rw [ht]; rfl)
    have h2' := h2.out
    rw [ht] at h2'
    clear hl h2
    have h2 := hid h2'
    clear h2'
    go_enter Try.func30, Try.ntmps30
    go_wp2_with (go_at_call 70; (with_reducible refine h2.out.mono ?_); rintro e w1 ⟨rfl, hb⟩)
    go_ret
    exact ⟨ret_bool e0.out.symm, hb⟩
  · have hv := twoL_in ht
    obtain ⟨i, rfl⟩ := Int.eq_ofNat_of_zero_le hv.1
    obtain ⟨j, rfl⟩ := Int.eq_ofNat_of_zero_le hv.2.1
    have hi : i < l.length := by omega
    have hj : j < l.length := by omega
    have e0 := hid (show rroundL l i j = !apartB l[i] l[j] l by unfold rroundL; rw [ht, dif_pos hv]; rfl)
    have hap := fun w1 (hw1 : OpsIn w1 A l) => apart_any A l cap i j 0 l.length w1 hw1 hi hj (Nat.zero_le _) (Nat.le_refl _) hm
    rw [cut_all] at hap
    have HA := hid hap
    have HL := hid hl
    have h2' := h2.out
    rw [ht] at h2'
    clear hl h2 hv hap
    have h2 := hid h2'
    clear h2'
    go_enter Try.func30, Try.ntmps30
    go_wp2_with fail
    refine h2.out.mono ?_
    rintro e w1 ⟨rfl, hb⟩
    go_wp2_with fail
    refine (HA.out _ (HL.out.keep hb)).mono ?_
    rintro e w2 ⟨rfl, hb2⟩
    go_wp2
    go_ret
    exact ⟨ret_bool e0.out.symm, btrans (a := w) hb hb2⟩
set_option maxHeartbeats 4000000 in
set_option maxRecDepth 100000 in
theorem RMeet_any (A : Option Addr) (l : List Op) (cap : Nat) (i j : Int) (w : World) (hl : OpsIn w A l) (hm : l.length ≤ 1000000000000000000) :
    Calls Try.prog 28 #[.slice A l.length cap, .int .i64 i, .int .i64 j] w fun e w' => e = .returned (.bool (rmeetL l i j)) ∧ Below w.heap.size w w' := by
  by_cases hij : i < j
  · have h2 := hid (two_any A l cap i j w hl)
    cases ht : twoL l i j
    · have e0 := hid (show rmeetL l i j = false by unfold rmeetL; rw [ht, Bool.false_and, Bool.and_false])
      have h2' := h2.out
      rw [ht] at h2'
      clear hl h2
      have h2 := hid h2'
      clear h2'
      go_enter Try.func28, Try.ntmps28
      go_wp2_with (go_at_call 70; (with_reducible refine h2.out.mono ?_); rintro e w1 ⟨rfl, hb⟩)
      go_ret
      exact ⟨ret_bool e0.out.symm, hb⟩
    · have hv := twoL_in ht
      obtain ⟨i, rfl⟩ := Int.eq_ofNat_of_zero_le hv.1
      obtain ⟨j, rfl⟩ := Int.eq_ofNat_of_zero_le hv.2.1
      have hi : i < l.length := by omega
      have hj : j < l.length := by omega
      have e0 := hid (show rmeetL l i j = !apartB l[i] l[j] (cut l i j) by unfold rmeetL; rw [ht, dif_pos hv, decide_eq_true hij]; rfl)
      have hap := fun w1 (hw1 : OpsIn w1 A l) => apart_any A l cap i j i j w1 hw1 hi hj (by omega) (by omega) hm
      have HA := hid hap
      have HL := hid hl
      have h2' := h2.out
      rw [ht] at h2'
      clear hl h2 hv hap
      have h2 := hid h2'
      clear h2'
      go_enter Try.func28, Try.ntmps28
      go_wp2_with fail
      refine h2.out.mono ?_
      rintro e w1 ⟨rfl, hb⟩
      go_wp2_with fail
      refine (HA.out _ (HL.out.keep hb)).mono ?_
      rintro e w2 ⟨rfl, hb2⟩
      go_wp2
      go_ret
      exact ⟨ret_bool e0.out.symm, btrans (a := w) hb hb2⟩
  · have e0 := hid (show rmeetL l i j = false by unfold rmeetL; rw [decide_eq_false hij, Bool.false_and])
    clear hl
    go_enter Try.func28, Try.ntmps28
    go_wp2
    go_ret
    exact ⟨ret_bool e0.out.symm, Below.refl _ _⟩
/-! ### The two agree -/
theorem dB_alike (a b : Op) : dB a b = (a.n % 256 == b.n % 256) := by
  rw [Bool.eq_iff_iff]
  simp only [dB, beq_iff_eq]
  rw [← Int.dvd_iff_tmod_eq_zero]
  unfold wrap64
  omega
theorem kinds_of (k : Int) : ((k == 15) = true ∧ (k == 16) = false) ∨ ((k == 15) = false ∧ (k == 16) = true) ∨ ((k == 15) = false ∧ (k == 16) = false) := by
  by_cases h1 : k = 15
  · subst h1; exact .inl ⟨rfl, rfl⟩
  · by_cases h2 : k = 16
    · subst h2; exact .inr (.inl ⟨rfl, rfl⟩)
    · exact .inr (.inr ⟨ne_beq h1, ne_beq h2⟩)
theorem pair_alike (a b : Op) (st : List Op) : (twoB a b && !apartB a b st) = meetB a b st := by
  unfold twoB apartB meetB memB
  rw [dB_alike]
  rcases kinds_of a.k with ⟨e1, e2⟩ | ⟨e1, e2⟩ | ⟨e1, e2⟩ <;> rcases kinds_of b.k with ⟨e3, e4⟩ | ⟨e3, e4⟩ | ⟨e3, e4⟩
  all_goals
    rw [e1, e2, e3, e4]
    cases chk a <;> cases chk b <;> cases (a.a != b.a) <;> cases (a.n % 256 == b.n % 256) <;> cases written st a.a <;> rfl
theorem round_alike (l : List Op) (i j : Int) : rroundL l i j = roundL l i j := by
  unfold rroundL roundL twoL
  by_cases h : 0 ≤ i ∧ 0 ≤ j ∧ i < l.length ∧ j < l.length
  · rw [dif_pos h, dif_pos h, dif_pos h, pair_alike]
  · rw [dif_neg h, dif_neg h, dif_neg h]; rfl
theorem meet_alike (l : List Op) (i j : Int) : rmeetL l i j = meetL l i j := by
  unfold rmeetL meetL twoL
  by_cases h : 0 ≤ i ∧ 0 ≤ j ∧ i < l.length ∧ j < l.length
  · by_cases hij : i < j
    · rw [dif_pos h, dif_pos h, dif_pos ⟨h.1, hij, h.2.2.2⟩, decide_eq_true hij, pair_alike, Bool.true_and]
    · rw [decide_eq_false hij, Bool.false_and, dif_neg (fun k : 0 ≤ i ∧ i < j ∧ j < l.length => hij k.2.1)]
  · rw [dif_neg h, dif_neg h, dif_neg (fun k : 0 ≤ i ∧ i < j ∧ j < l.length => h ⟨k.1, by omega, by omega, k.2.2⟩)]
    simp
end
end Go.Proofs.Ytcibkoodnfkogaa
