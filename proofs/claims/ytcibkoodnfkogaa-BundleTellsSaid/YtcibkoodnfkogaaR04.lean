/- The document's Word and Op. -/
import Derived.Test.YtcibkoodnfkogaaR02
namespace Go.Proofs.Ytcibkoodnfkogaa
open Go.RowKit
set_option linter.unusedVariables false
set_option linter.unusedSimpArgs false
set_option maxHeartbeats 4000000 in
set_option maxRecDepth 100000 in
theorem rword_any (o : Op) (w : World) (ho : o.wf) (hk0 : 0 ≤ o.k) (hk : o.k ≤ 23) (hd : o.d ≤ 31) (ha : o.a ≤ 31) (hb : o.b ≤ 31) (hn0 : -2147483648 ≤ o.n) (hn1 : o.n ≤ 2147483647) :
    Calls Try.prog 84 #[o.val] w fun e w' => e = .returned (.int .u64 (wordN o)) ∧ Below w.heap.size w w' := by
  obtain ⟨k, d, a, b, n⟩ := o
  obtain ⟨_, _, d0, _, a0, _, b0, _, _, _⟩ := ho
  simp only [Op.val] at *
  have w1 : IntKind.u64.wrap k = k := wraps_u64 _ (by omega) (by omega)
  have w2 : IntKind.u64.wrap d = d := wraps_u64 _ (by omega) (by omega)
  have w3 : IntKind.u64.wrap a = a := wraps_u64 _ (by omega) (by omega)
  have w4 : IntKind.u64.wrap b = b := wraps_u64 _ (by omega) (by omega)
  have w5 : IntKind.u64.wrap n = n % 18446744073709551616 := by rw [wrap_u64]
  generalize hm : n % 18446744073709551616 = m at *
  have C1 := hid (fun w => rput_int 0 k 0 6 64 1 w (by omega) (by omega) (by omega) (by omega) (by omega) (by omega) rfl rfl (by omega))
  have C2 := hid (fun w => rput_int (0 + k % 64 * 1) d 6 5 32 64 w (by omega) (by omega) (by omega) (by omega) (by omega) (by omega) rfl rfl (by omega))
  have C3 := hid (fun w => rput_int (0 + k % 64 * 1 + d % 32 * 64) a 11 5 32 2048 w (by omega) (by omega) (by omega) (by omega) (by omega) (by omega) rfl rfl (by omega))
  have C4 := hid (fun w => rput_int (0 + k % 64 * 1 + d % 32 * 64 + a % 32 * 2048) b 16 5 32 65536 w (by omega) (by omega) (by omega) (by omega) (by omega) (by omega) rfl rfl (by omega))
  have C5 := hid (fun w => rput_int (0 + k % 64 * 1 + d % 32 * 64 + a % 32 * 2048 + b % 32 * 65536) m 21 32 4294967296 2097152 w (by omega) (by omega) (by omega) (by omega) (by omega) (by omega) rfl rfl (by omega))
  have hW : Hid (0 + k % 64 * 1 + d % 32 * 64 + a % 32 * 2048 + b % 32 * 65536 + m % 4294967296 * 2097152 = wordN ⟨k, d, a, b, n⟩) := hid (by unfold wordN; simp only; omega)
  generalize h1 : 0 + k % 64 * 1 = V1 at *
  generalize h2 : V1 + d % 32 * 64 = V2 at *
  generalize h3 : V2 + a % 32 * 2048 = V3 at *
  generalize h4 : V3 + b % 32 * 65536 = V4 at *
  generalize h5 : V4 + m % 4294967296 * 2097152 = V5 at *
  clear h1 h2 h3 h4 h5 hm
  go_enter Try.func84, Try.ntmps84
  go_wp2_with (go_at_call 112; (first | (with_reducible refine (C1.out _).mono ?_) | (with_reducible refine (C2.out _).mono ?_) | (with_reducible refine (C3.out _).mono ?_) | (with_reducible refine (C4.out _).mono ?_) | (with_reducible refine (C5.out _).mono ?_)); rintro e w' ⟨rfl, rfl⟩)
  go_ret
  exact ⟨ret_int hW.out, by ((with_reducible (repeat (first | assumption | exact Below.refl _ _ | refine bset ?_ (Nat.le_refl _) _ | refine balloc ?_ _ | refine bdrew ?_ | refine bdrewN ?_ _))); done)⟩
set_option maxHeartbeats 4000000 in
set_option maxRecDepth 100000 in
theorem rop_any (x : Int) (w : World) (h0 : 0 ≤ x) (h1 : x ≤ 18446744073709551615) :
    Calls Try.prog 113 #[.int .u64 x] w fun e w' => e = .returned (.tuple #[.agg #[.int .i8 (wordO x).k, .int .u8 (wordO x).d, .int .u8 (wordO x).a, .int .u8 (wordO x).b, .int .i64 (wordO x).n], .bool (wordB x)]) ∧ Below w.heap.size w w' := by
  have C1 := hid (fun w => rget_int x 0 6 64 1 w h0 (by omega) (by omega) (by omega) (by omega) rfl rfl)
  have C2 := hid (fun w => rget_int x 6 5 32 64 w h0 (by omega) (by omega) (by omega) (by omega) rfl rfl)
  have C3 := hid (fun w => rget_int x 11 5 32 2048 w h0 (by omega) (by omega) (by omega) (by omega) rfl rfl)
  have C4 := hid (fun w => rget_int x 16 5 32 65536 w h0 (by omega) (by omega) (by omega) (by omega) rfl rfl)
  have C5 := hid (fun w => rget_int x 21 32 4294967296 2097152 w h0 (by omega) (by omega) (by omega) (by omega) rfl rfl)
  have C6 := hid (fun w => rget_int x 53 11 2048 9007199254740992 w h0 (by omega) (by omega) (by omega) (by omega) rfl rfl)
  have C7 := hid (fun w => rsigned_int (x / 2097152 % 4294967296) w (by omega) (by omega))
  rw [Int.ediv_one] at C1
  rw [show x / 9007199254740992 % 2048 = x / 9007199254740992 by omega] at C6
  have hck : Hid (∀ w : World, Calls Try.prog 88 #[.agg #[.int .i8 (x % 64), .int .u8 (x / 64 % 32), .int .u8 (x / 2048 % 32), .int .u8 (x / 65536 % 32), .int .i64 (wrap32 (x / 2097152 % 4294967296))]] w fun e w' => e = .returned (.int .i64 (if chk (wordO x) then 0 else 30)) ∧ Below w.heap.size w w') := hid (fun w => rcheck_any (wordO x) w)
  have hwx : wordB x = ((x / 9007199254740992 == 0) && chk (wordO x)) := rfl
  show Calls _ _ _ _ fun e w' => e = .returned (.tuple #[.agg #[.int .i8 (x % 64), .int .u8 (x / 64 % 32), .int .u8 (x / 2048 % 32), .int .u8 (x / 65536 % 32), .int .i64 (wrap32 (x / 2097152 % 4294967296))], .bool (wordB x)]) ∧ Below w.heap.size w w'
  generalize chk (wordO x) = cc at hck hwx
  generalize wordB x = wb at hwx ⊢
  have k1 : IntKind.i8.wrap (x % 64) = x % 64 := by rw [show IntKind.i8.wrap (x % 64) = (x % 64 + 128) % 256 - 128 by simp [IntKind.wrap, IntKind.bits, IntKind.signed]; omega]; omega
  have k2 : IntKind.u8.wrap (x / 64 % 32) = x / 64 % 32 := by rw [IntKind.wrap_u8]; omega
  have k3 : IntKind.u8.wrap (x / 2048 % 32) = x / 2048 % 32 := by rw [IntKind.wrap_u8]; omega
  have k4 : IntKind.u8.wrap (x / 65536 % 32) = x / 65536 % 32 := by rw [IntKind.wrap_u8]; omega
  generalize hd : x / 64 % 32 = D at *
  generalize ha : x / 2048 % 32 = A at *
  generalize hbb : x / 65536 % 32 = B at *
  generalize hk : x % 64 = K at *
  generalize hn : x / 2097152 % 4294967296 = M at *
  generalize hN : wrap32 M = N at *
  generalize hz : x / 9007199254740992 = Z at *
  clear hd ha hbb hk hn hN hz h0 h1
  cases hg : (Z == 0)
  · rw [hg] at hwx
    subst hwx
    go_enter Try.func113, Try.ntmps113
    go_wp2_with (first | (go_at_call 138; (first | (with_reducible refine (C1.out _).mono ?_) | (with_reducible refine (C2.out _).mono ?_) | (with_reducible refine (C3.out _).mono ?_) | (with_reducible refine (C4.out _).mono ?_) | (with_reducible refine (C5.out _).mono ?_)); rintro e w' ⟨rfl, rfl⟩) | (go_at_call 139; (with_reducible refine (C7.out _).mono ?_); rintro e w' ⟨rfl, rfl⟩))
    go_region_with ((with_reducible refine (C6.out _).mono ?_); rintro e w' ⟨rfl, rfl⟩)
    all_goals go_wp2
    all_goals (refine bodyPost_ret (v := .tuple #[.agg #[.int .i8 K, .int .u8 D, .int .u8 A, .int .u8 B, .int .i64 N], .bool false]) (by simp [results, Try.results113, go_sem]) rfl ⟨rfl, ?_⟩)
    all_goals ((with_reducible (repeat (first | assumption | exact Below.refl _ _ | refine bset ?_ (Nat.le_refl _) _ | refine balloc ?_ _ | refine bdrew ?_ | refine bdrewN ?_ _))); done)
  · rw [hg, Bool.true_and] at hwx
    subst hwx
    cases wb
    case false =>
      simp only [if_true, Bool.false_eq_true, if_false] at hck
      go_enter Try.func113, Try.ntmps113
      go_wp2_with (first | (go_at_call 138; (first | (with_reducible refine (C1.out _).mono ?_) | (with_reducible refine (C2.out _).mono ?_) | (with_reducible refine (C3.out _).mono ?_) | (with_reducible refine (C4.out _).mono ?_) | (with_reducible refine (C5.out _).mono ?_)); rintro e w' ⟨rfl, rfl⟩) | (go_at_call 139; (with_reducible refine (C7.out _).mono ?_); rintro e w' ⟨rfl, rfl⟩))
      go_region_with (first | ((with_reducible refine (C6.out _).mono ?_); rintro e w' ⟨rfl, rfl⟩) | ((with_reducible refine (hck.out _).mono ?_); rintro e w' ⟨rfl, hb⟩; obtain ⟨hc, hf⟩ := bcell hb; have hz := hb.size; simp at hz; have hz0 : w.heap.size < w'.heap.size := (by omega); have hz1 : w.heap.size + 1 < w'.heap.size := (by omega)))
      all_goals go_wp2
      all_goals have hB := btrans (a := w) (by ((with_reducible (repeat (first | assumption | exact Below.refl _ _ | refine bset ?_ (Nat.le_refl _) _ | refine balloc ?_ _ | refine bdrew ?_ | refine bdrewN ?_ _))); done)) hb
      all_goals clear hc hf
      all_goals (first | ((refine have c0 : w'.cell? ⟨w.heap.size, 0, none⟩ = some (.int .i8 K) := ?_; ?_); (next => (refine cell_keep ?_ hb; go_simp; done)); (refine have c1 : w'.cell? ⟨w.heap.size, 1, none⟩ = some (.int .u8 D) := ?_; ?_); (next => (refine cell_keep ?_ hb; go_simp; done)); (refine have c2 : w'.cell? ⟨w.heap.size, 2, none⟩ = some (.int .u8 A) := ?_; ?_); (next => (refine cell_keep ?_ hb; go_simp; done)); (refine have c3 : w'.cell? ⟨w.heap.size, 3, none⟩ = some (.int .u8 B) := ?_; ?_); (next => (refine cell_keep ?_ hb; go_simp; done)); (refine have c4 : w'.cell? ⟨w.heap.size, 4, none⟩ = some (.int .i64 N) := ?_; ?_); (next => (refine cell_keep ?_ hb; go_simp; done)); refine bodyPost_ret (v := .tuple #[.agg #[.int .i8 K, .int .u8 D, .int .u8 A, .int .u8 B, .int .i64 N], .bool false]) ?_ rfl ⟨rfl, ?_⟩; (next => (simp [results, Try.results113, go_sem, c0, c1, c2, c3, c4]; done))) | ((refine have c0 : (w'.cell? ⟨w.heap.size, 0, none⟩).isSome = true := ?_; ?_); (next => (refine some_keep ?_ hb; go_simp; done)); (refine have c1 : (w'.cell? ⟨w.heap.size, 1, none⟩).isSome = true := ?_; ?_); (next => (refine some_keep ?_ hb; go_simp; done)); (refine have c2 : (w'.cell? ⟨w.heap.size, 2, none⟩).isSome = true := ?_; ?_); (next => (refine some_keep ?_ hb; go_simp; done)); (refine have c3 : (w'.cell? ⟨w.heap.size, 3, none⟩).isSome = true := ?_; ?_); (next => (refine some_keep ?_ hb; go_simp; done)); (refine have c4 : (w'.cell? ⟨w.heap.size, 4, none⟩).isSome = true := ?_; ?_); (next => (refine some_keep ?_ hb; go_simp; done)); refine bodyPost_ret (v := .tuple #[.agg #[.int .i8 K, .int .u8 D, .int .u8 A, .int .u8 B, .int .i64 N], .bool false]) ?_ rfl ⟨rfl, ?_⟩; (next => (simp [results, Try.results113, go_sem, c0, c1, c2, c3, c4]; done))))
      all_goals ((with_reducible (repeat (first | assumption | exact Below.refl _ _ | refine bset ?_ (Nat.le_refl _) _ | refine balloc ?_ _ | refine bdrew ?_ | refine bdrewN ?_ _))); done)
    case true =>
      simp only [if_true, Bool.false_eq_true, if_false] at hck
      go_enter Try.func113, Try.ntmps113
      go_wp2_with (first | (go_at_call 138; (first | (with_reducible refine (C1.out _).mono ?_) | (with_reducible refine (C2.out _).mono ?_) | (with_reducible refine (C3.out _).mono ?_) | (with_reducible refine (C4.out _).mono ?_) | (with_reducible refine (C5.out _).mono ?_)); rintro e w' ⟨rfl, rfl⟩) | (go_at_call 139; (with_reducible refine (C7.out _).mono ?_); rintro e w' ⟨rfl, rfl⟩))
      go_region_with (first | ((with_reducible refine (C6.out _).mono ?_); rintro e w' ⟨rfl, rfl⟩) | ((with_reducible refine (hck.out _).mono ?_); rintro e w' ⟨rfl, hb⟩; obtain ⟨hc, hf⟩ := bcell hb; have hz := hb.size; simp at hz; have hz0 : w.heap.size < w'.heap.size := (by omega); have hz1 : w.heap.size + 1 < w'.heap.size := (by omega)))
      all_goals go_wp2
      all_goals have hB := btrans (a := w) (by ((with_reducible (repeat (first | assumption | exact Below.refl _ _ | refine bset ?_ (Nat.le_refl _) _ | refine balloc ?_ _ | refine bdrew ?_ | refine bdrewN ?_ _))); done)) hb
      all_goals clear hc hf
      all_goals (first | ((refine have c0 : w'.cell? ⟨w.heap.size, 0, none⟩ = some (.int .i8 K) := ?_; ?_); (next => (refine cell_keep ?_ hb; go_simp; done)); (refine have c1 : w'.cell? ⟨w.heap.size, 1, none⟩ = some (.int .u8 D) := ?_; ?_); (next => (refine cell_keep ?_ hb; go_simp; done)); (refine have c2 : w'.cell? ⟨w.heap.size, 2, none⟩ = some (.int .u8 A) := ?_; ?_); (next => (refine cell_keep ?_ hb; go_simp; done)); (refine have c3 : w'.cell? ⟨w.heap.size, 3, none⟩ = some (.int .u8 B) := ?_; ?_); (next => (refine cell_keep ?_ hb; go_simp; done)); (refine have c4 : w'.cell? ⟨w.heap.size, 4, none⟩ = some (.int .i64 N) := ?_; ?_); (next => (refine cell_keep ?_ hb; go_simp; done)); refine bodyPost_ret (v := .tuple #[.agg #[.int .i8 K, .int .u8 D, .int .u8 A, .int .u8 B, .int .i64 N], .bool true]) ?_ rfl ⟨rfl, ?_⟩; (next => (simp [results, Try.results113, go_sem, c0, c1, c2, c3, c4]; done))) | ((refine have c0 : (w'.cell? ⟨w.heap.size, 0, none⟩).isSome = true := ?_; ?_); (next => (refine some_keep ?_ hb; go_simp; done)); (refine have c1 : (w'.cell? ⟨w.heap.size, 1, none⟩).isSome = true := ?_; ?_); (next => (refine some_keep ?_ hb; go_simp; done)); (refine have c2 : (w'.cell? ⟨w.heap.size, 2, none⟩).isSome = true := ?_; ?_); (next => (refine some_keep ?_ hb; go_simp; done)); (refine have c3 : (w'.cell? ⟨w.heap.size, 3, none⟩).isSome = true := ?_; ?_); (next => (refine some_keep ?_ hb; go_simp; done)); (refine have c4 : (w'.cell? ⟨w.heap.size, 4, none⟩).isSome = true := ?_; ?_); (next => (refine some_keep ?_ hb; go_simp; done)); refine bodyPost_ret (v := .tuple #[.agg #[.int .i8 K, .int .u8 D, .int .u8 A, .int .u8 B, .int .i64 N], .bool true]) ?_ rfl ⟨rfl, ?_⟩; (next => (simp [results, Try.results113, go_sem, c0, c1, c2, c3, c4]; done))))
      all_goals ((with_reducible (repeat (first | assumption | exact Below.refl _ _ | refine bset ?_ (Nat.le_refl _) _ | refine balloc ?_ _ | refine bdrew ?_ | refine bdrewN ?_ _))); done)
end Go.Proofs.Ytcibkoodnfkogaa
