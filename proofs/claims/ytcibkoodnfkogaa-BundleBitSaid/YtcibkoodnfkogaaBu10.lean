/- The contract of Same: where they differ. -/
import Derived.Test.YtcibkoodnfkogaaBu9
import Derived.BigGuard
namespace Go.Proofs.Ytcibkoodnfkogaa
open Go.RowKit
set_option linter.unusedVariables false
set_option linter.unusedSimpArgs false
set_option maxHeartbeats 4000000 in
set_option maxRecDepth 100000 in
theorem same_no (A A2 : Option Addr) (a b : List (Nat → List Op)) (cap cap2 : Nat) (w : World) (hl : BunsIn w A a) (hl2 : BunsIn w A2 b) (hlen : a.length = b.length) (hs : ¬ sameL a b) (hm : a.length ≤ 1000000000000000000) (hw : ∀ x ∈ a, ∀ j, j < 4 → (x j).length ≤ 1000000000000000000) (hw2 : ∀ x ∈ b, ∀ j, j < 4 → (x j).length ≤ 1000000000000000000) :
    Calls Try.prog 49 #[.slice A a.length cap, .slice A2 b.length cap2] w fun e w' => e = .returned (.bool false) ∧ Below w.heap.size w w' := by
  have HL := hid hl
  have HL2 := hid hl2
  have HS := hid hs
  have HW := hid hw
  have HW2 := hid hw2
  rw [← hlen]
  have HN := hid hlen
  clear hl hl2 hs hw hw2 hlen
  go_enter Try.func49, Try.ntmps49
  go_wp2
  go_loopg [15] a.length (fun g v wr => ∃ i : Nat, i ≤ a.length ∧ v = .int .i64 i ∧ Hid (g + i = a.length) ∧ Hid (∀ (k : Nat) (x y : Nat → List Op), k < i → a[k]? = some x → b[k]? = some y → sameB x y) ∧ ∃ n, wr = w.drewN n)
  case atStart => exact ⟨0, by omega, rfl, by exact Nat.add_zero _, fun k x y hk => by omega, 0, rfl⟩
  case round =>
    obtain ⟨i, hi, rfl, hg, hall, n, rfl⟩ := hrel
    by_cases hlt : i < a.length
    · have hlt2 : i < b.length := by have := HN.out; omega
      obtain ⟨g, off, rfl, hx⟩ := HL.out.get i hlt
      obtain ⟨g2, off2, rfl, hx2⟩ := HL2.out.get i hlt2
      obtain ⟨D, c, hD⟩ := hx
      obtain ⟨D2, c2, hD2⟩ := hx2
      have HD := hid hD
      have HD2 := hid hD2
      have hwl := hid (HW.out a[i] (List.getElem_mem hlt))
      have hwl2 := hid (HW2.out b[i] (List.getElem_mem hlt2))
      have hij : (i : Int) < (a.length : Int) := by omega
      have hi0 : (0 : Int) ≤ (i : Int) := by omega
      clear hD hD2
      go_wp2
      go_loopg [18] 4 (fun gj v wr => ∃ j : Nat, j ≤ 4 ∧ v = .int .i64 j ∧ Hid (gj + j = 4) ∧ Hid (∀ k, k < j → a[i] k = b[i] k) ∧ ∃ n, wr = w.drewN n)
      case atStart => exact ⟨0, by omega, rfl, by exact Nat.add_zero _, fun k hk => by omega, n, rfl⟩
      case round =>
        obtain ⟨j, hj, rfl, hgj, hallj, n, rfl⟩ := hrel
        by_cases hj4 : j < 4
        · have k0 := (HD.out j hj4).1
          have k1 := (HD2.out j hj4).1
          have hml := hwl.out j hj4
          have hml2 := hwl2.out j hj4
          have O1 := hid (HD.out j hj4).2.1
          have O2 := hid (HD2.out j hj4).2.1
          generalize hLL : a[i] j = L at *
          generalize hMM : b[i] j = M at *
          generalize D j = E at *
          generalize D2 j = E2 at *
          generalize c j = d at *
          generalize c2 j = d2 at *
          replace hLL := hid hLL
          replace hMM := hid hMM
          have hji : (j : Int) < 4 := by omega
          have hj0 : (0 : Int) ≤ (j : Int) := by omega
          by_cases hlm : L.length = M.length
          case neg =>
            have t1 : ((L.length : Int) == (M.length : Int)) = false := by rw [Bool.eq_false_iff]; intro h; have := eq_of_beq h; omega
            have t2 : ((L.length : Int) != (M.length : Int)) = true := by unfold bne; rw [t1]; rfl
            clear hlm
            go_wp2
            go_quiet (fail)
            go_wp2
            go_ret
            exact ⟨rfl, bdrewN (bdrewN (Below.refl _ _) _) _⟩
          rw [← hlm] at k1
          have HLM := hid hlm
          clear hlm
          go_wp2
          go_quiet (fail)
          go_wp2
          go_loopg [46] L.length (fun gm v wr => ∃ m : Nat, m ≤ L.length ∧ v = .int .i64 m ∧ Hid (gm + m = L.length) ∧ Hid (L.take m = M.take m) ∧ ∃ n, wr = w.drewN n)
          case atStart => exact ⟨0, by omega, rfl, by exact Nat.add_zero _, hid rfl, _, rfl⟩
          case round =>
            obtain ⟨m, hm, rfl, hgm, htk, n, rfl⟩ := hrel
            by_cases hlm : m < L.length
            · have hlm2 : m < M.length := by have := HLM.out; omega
              obtain ⟨g4, off4, rfl, hop⟩ := O1.out.get m hlm
              obtain ⟨g5, off5, rfl, hop2⟩ := O2.out.get m hlm2
              obtain ⟨c0, c1, c2, c3, c4⟩ := hop
              obtain ⟨d0, d1, d2, d3, d4⟩ := hop2
              have hmi : (m : Int) < (L.length : Int) := by omega
              have hm0 : (0 : Int) ≤ (m : Int) := by omega
              have e1 : Hid (L.take (m + 1) = L.take m ++ [L[m]]) := hid (by rw [List.take_add_one, List.getElem?_eq_getElem hlm]; rfl)
              have e2 : Hid (M.take (m + 1) = M.take m ++ [M[m]]) := hid (by rw [List.take_add_one, List.getElem?_eq_getElem hlm2]; rfl)
              by_cases hxy : L[m] = M[m]
              · have e3 : Hid (L.take (m + 1) = M.take (m + 1)) := hid (by rw [e1.out, e2.out, htk.out, hxy])
                rw [← hxy] at d0 d1 d2 d3 d4
                clear hxy
                go_wp2
                go_quiet (fail)
                go_wp2
                go_roundg (L.length - (m + 1))
                case measure => have := hgm.out; omega
                case rel => exact ⟨m + 1, by omega, by go_num, by show _ + _ = _; omega, e3, _, rfl⟩
              · generalize L[m] = X at *
                generalize M[m] = Y at *
                obtain ⟨xk, xd, xa, xb, xn⟩ := X
                obtain ⟨yk, yd, ya, yb, yn⟩ := Y
                simp only at c0 c1 c2 c3 c4 d0 d1 d2 d3 d4
                clear e1 e2
                by_cases hk : xk = yk
                case neg =>
                  have hkb : (xk == yk) = false := by rw [Bool.eq_false_iff]; intro h; exact hk (eq_of_beq h)
                  clear hxy
                  go_wp2
                  go_quiet (fail)
                  go_wp2
                  go_ret
                  exact ⟨rfl, bdrewN (bdrewN (Below.refl _ _) _) _⟩
                subst hk
                by_cases hd : xd = yd
                case neg =>
                  have hdb : (xd == yd) = false := by rw [Bool.eq_false_iff]; intro h; exact hd (eq_of_beq h)
                  clear hxy
                  go_wp2
                  go_quiet (fail)
                  go_wp2
                  go_ret
                  exact ⟨rfl, bdrewN (bdrewN (Below.refl _ _) _) _⟩
                subst hd
                by_cases ha : xa = ya
                case neg =>
                  have hab : (xa == ya) = false := by rw [Bool.eq_false_iff]; intro h; exact ha (eq_of_beq h)
                  clear hxy
                  go_wp2
                  go_quiet (fail)
                  go_wp2
                  go_ret
                  exact ⟨rfl, bdrewN (bdrewN (Below.refl _ _) _) _⟩
                subst ha
                by_cases hb : xb = yb
                case neg =>
                  have hbb : (xb == yb) = false := by rw [Bool.eq_false_iff]; intro h; exact hb (eq_of_beq h)
                  clear hxy
                  go_wp2
                  go_quiet (fail)
                  go_wp2
                  go_ret
                  exact ⟨rfl, bdrewN (bdrewN (Below.refl _ _) _) _⟩
                subst hb
                by_cases hn : xn = yn
                case neg =>
                  have hnb : (xn == yn) = false := by rw [Bool.eq_false_iff]; intro h; exact hn (eq_of_beq h)
                  clear hxy
                  go_wp2
                  go_quiet (fail)
                  go_wp2
                  go_ret
                  exact ⟨rfl, bdrewN (bdrewN (Below.refl _ _) _) _⟩
                subst hn
                exact absurd rfl hxy
            · obtain rfl : m = L.length := by omega
              have e4 : Hid (L = M) := hid (by have := htk.out; rwa [List.take_length, HLM.out, List.take_length] at this)
              go_wp2
              go_roundg (4 - (j + 1))
              case measure => have := hgj.out; omega
              case rel =>
                refine ⟨j + 1, by omega, by go_num, by show _ + _ = _; omega, hid fun k hk => ?_, _, rfl⟩
                by_cases h : k < j
                · exact hallj.out k h
                · obtain rfl : k = j := by omega
                  rw [hLL.out, hMM.out]
                  exact e4.out
        · obtain rfl : j = 4 := by omega
          go_wp2
          go_roundg (a.length - (i + 1))
          case measure => have := hg.out; omega
          case rel =>
            refine ⟨i + 1, by omega, by go_num, by show _ + _ = _; omega, hid fun k x y hk hx hy => ?_, _, rfl⟩
            by_cases h : k < i
            · exact hall.out k x y h hx hy
            · obtain rfl : k = i := by omega
              rw [List.getElem?_eq_getElem hlt] at hx
              rw [List.getElem?_eq_getElem hlt2] at hy
              injection hx with hx
              injection hy with hy
              rw [← hx, ← hy]
              exact fun p hp => hallj.out p hp
    · obtain rfl : i = a.length := by omega
      exact absurd ⟨HN.out, fun k x y hx hy => hall.out k x y (List.getElem?_eq_some_iff.1 hx).1 hx hy⟩ HS.out
end Go.Proofs.Ytcibkoodnfkogaa
