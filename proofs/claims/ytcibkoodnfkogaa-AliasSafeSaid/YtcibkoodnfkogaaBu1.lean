/- Words of operations: the contracts of bundle.word, bundle.op. -/
import Derived.Test.YtcibkoodnfkogaaBase2
import Derived.Test.YtcibkoodnfkogaaOps2
import Derived.Laws.BitsLemmas
import Derived.Deep.RegionHeld3
namespace Go.Proofs.Ytcibkoodnfkogaa
open Go.RowKit
set_option linter.unusedVariables false
set_option linter.unusedSimpArgs false
theorem wraps_u64 (n : Int) (h₀ : 0 ≤ n) (h₁ : n < 2 ^ 64) : IntKind.u64.wrap n = n := by rw [wrap_u64]; omega
theorem or_nat (a b : Nat) (ha : a < 2 ^ 64) (hb : b < 2 ^ 64) : Go.bits .or .u64 a b = ((a ||| b : Nat) : Int) :=
  (bits_nat .u64 64 (Nat.le_refl _) wraps_u64 a b ha hb).2
theorem and_nat (a b : Nat) (ha : a < 2 ^ 64) (hb : b < 2 ^ 64) : Go.bits .and .u64 a b = ((a &&& b : Nat) : Int) :=
  (bits_nat .u64 64 (Nat.le_refl _) wraps_u64 a b ha hb).1
theorem p64 : (2 : Nat) ^ 64 = 18446744073709551616 := by decide
theorem or_lit (a b : Nat) (ha : a < 18446744073709551616) (hb : b < 18446744073709551616) : Go.bits .or .u64 a b = ((a ||| b : Nat) : Int) := or_nat a b (by rw [p64]; exact ha) (by rw [p64]; exact hb)
theorem and_lit (a b : Nat) (ha : a < 18446744073709551616) (hb : b < 18446744073709551616) : Go.bits .and .u64 a b = ((a &&& b : Nat) : Int) := and_nat a b (by rw [p64]; exact ha) (by rw [p64]; exact hb)
theorem or_add (x y : Int) (s : Nat) (p : Nat) (hp : p = 2 ^ s) (hx0 : 0 ≤ x) (hx : x < p) (hy0 : 0 ≤ y) (hy : y * p < 18446744073709551616) (hs : p ≤ 18446744073709551616) : Go.bits .or .u64 x (y * p) = x + y * p := by
  obtain ⟨a, rfl⟩ : ∃ a : Nat, x = a := ⟨x.toNat, by omega⟩
  obtain ⟨b, rfl⟩ : ∃ b : Nat, y = b := ⟨y.toNat, by omega⟩
  have ha : a < p := by omega
  rw [← Int.natCast_mul] at hy ⊢
  have hb : b * p < 18446744073709551616 := by omega
  rw [or_lit a (b * p) (by omega) hb, ← Int.natCast_add]
  subst hp
  rw [Nat.or_comm, ← Nat.shiftLeft_eq, ← Nat.shiftLeft_add_eq_or_of_lt ha, Nat.add_comm]
theorem and_mod (x : Int) (s m : Nat) (hm : m = 2 ^ s) (hs : m ≤ 18446744073709551616) (h0 : 0 ≤ x) (h1 : x < 18446744073709551616) : Go.bits .and .u64 x (((m - 1 : Nat)) : Int) = x % (m : Int) := by
  obtain ⟨a, rfl⟩ : ∃ a : Nat, x = a := ⟨x.toNat, by omega⟩
  rw [and_lit a _ (by omega) (by omega)]
  subst hm
  rw [Nat.and_two_pow_sub_one_eq_mod, Int.natCast_emod]
theorem and_63 (x : Int) (h0 : 0 ≤ x) (h1 : x < 18446744073709551616) : Go.bits .and .u64 x 63 = x % 64 := and_mod x 6 64 rfl (by decide) h0 h1
theorem and_31 (x : Int) (h0 : 0 ≤ x) (h1 : x < 18446744073709551616) : Go.bits .and .u64 x 31 = x % 32 := and_mod x 5 32 rfl (by decide) h0 h1
/-- The word of an operation. -/
def wordN (o : Op) : Int := o.k + o.d * 64 + o.a * 2048 + o.b * 65536 + o.n % 4294967296 * 2097152
theorem word_sum (k d a b n : Int) (hk0 : 0 ≤ k) (hk : k ≤ 23) (d0 : 0 ≤ d) (hd : d ≤ 31) (a0 : 0 ≤ a) (ha : a ≤ 31) (b0 : 0 ≤ b) (hb : b ≤ 31) :
    bits .or .u64 (bits .or .u64 (bits .or .u64 (bits .or .u64 k (d * 64)) (a * 2048)) (b * 65536)) (n % 4294967296 * 2097152) = wordN ⟨k, d, a, b, n⟩ := by
  have e1 : bits .or .u64 k (d * 64) = k + d * 64 := or_add k d 6 64 rfl (by omega) (by omega) d0 (by omega) (by decide)
  have e2 : bits .or .u64 (k + d * 64) (a * 2048) = k + d * 64 + a * 2048 := or_add _ a 11 2048 rfl (by omega) (by omega) a0 (by omega) (by decide)
  have e3 : bits .or .u64 (k + d * 64 + a * 2048) (b * 65536) = k + d * 64 + a * 2048 + b * 65536 := or_add _ b 16 65536 rfl (by omega) (by omega) b0 (by omega) (by decide)
  have e4 : bits .or .u64 (k + d * 64 + a * 2048 + b * 65536) (n % 4294967296 * 2097152) = k + d * 64 + a * 2048 + b * 65536 + n % 4294967296 * 2097152 := or_add _ (n % 4294967296) 21 2097152 rfl (by omega) (by omega) (by omega) (by omega) (by decide)
  rw [e1, e2, e3, e4]
  rfl
set_option maxHeartbeats 4000000 in
set_option maxRecDepth 100000 in
theorem word_any (o : Op) (w : World) (ho : o.wf) (hk0 : 0 ≤ o.k) (hk : o.k ≤ 23) (hd : o.d ≤ 31) (ha : o.a ≤ 31) (hb : o.b ≤ 31) (hn0 : -2147483648 ≤ o.n) (hn1 : o.n ≤ 2147483647) :
    Calls Try.prog 82 #[o.val] w fun e w' => e = .returned (.int .u64 (wordN o)) ∧ Below w.heap.size w w' := by
  obtain ⟨k, d, a, b, n⟩ := o
  obtain ⟨_, _, d0, _, a0, _, b0, _, _, _⟩ := ho
  simp only [Op.val] at *
  have hW := hid (word_sum k d a b n hk0 hk d0 hd a0 ha b0 hb)
  go_enter Try.func82, Try.ntmps82
  go_wp2
  go_ret
  exact ⟨ret_int hW.out, balloc (Below.refl _ _) _⟩
set_option maxHeartbeats 4000000 in
set_option maxRecDepth 100000 in
theorem getk_any (x : Int) (w : World) (h0 : 0 ≤ x) (h1 : x ≤ 18446744073709551615) :
    Calls Try.prog 136 #[.int .u64 x, .int .i64 0, .int .i64 6] w fun e w' => e = .returned (.int .u64 (x % 64)) ∧ w = w' := by
  have hW := hid (and_63 x h0 (by omega))
  go_enter Try.func136, Try.ntmps136
  go_wp2
  go_ret
  exact ⟨ret_int hW.out, rfl⟩
/-- The operation of a word. -/
def wordO (x : Int) : Op := ⟨x % 64, x / 64 % 32, x / 2048 % 32, x / 65536 % 32, wrap32 (x / 2097152 % 4294967296)⟩
theorem wordO_wf (x : Int) : (wordO x).wf := by
  unfold wordO wrap32
  constructor <;> simp only <;> omega
def wordB (x : Int) : Bool := (x / 9007199254740992 == 0) && chk (wordO x)
theorem below_hid {w w' w2 : World} (h : Hid (Below w.heap.size w w')) (hb : Below w'.heap.size w' w2) : Hid (Below w.heap.size w w2) := hid (btrans h.out hb)
theorem some_keep {w w' : World} {a : Addr} (h : (w.cell? a).isSome = true) (hb : Below w.heap.size w w') : (w'.cell? a).isSome = true := by
  obtain ⟨v, hv⟩ := Option.isSome_iff_exists.1 h
  rw [cell_keep hv hb]
  rfl
theorem frozen_keep2 {w w' : World} {a : Addr} (h : w.frozen? a = false) (hs : (w.cell? a).isSome = true) (hb : Below w.heap.size w w') : w'.frozen? a = false := by
  obtain ⟨v, hv⟩ := Option.isSome_iff_exists.1 hs
  exact (hb.frozen (p := a) (World.block_lt_of_cell? w _ hv)).trans h
theorem bset5 {a w : World} (h : Below a.heap.size a w) (u0 u1 u2 u3 u4 : Value) : Below a.heap.size a (((((w.setCell ⟨a.heap.size, 0, none⟩ u0).setCell ⟨a.heap.size, 1, none⟩ u1).setCell ⟨a.heap.size, 2, none⟩ u2).setCell ⟨a.heap.size, 3, none⟩ u3).setCell ⟨a.heap.size, 4, none⟩ u4) :=
  ((((h.setCell (Nat.le_refl _) _).setCell (Nat.le_refl _) _).setCell (Nat.le_refl _) _).setCell (Nat.le_refl _) _).setCell (Nat.le_refl _) _
set_option maxHeartbeats 4000000 in
set_option maxRecDepth 100000 in
theorem op_any (x : Int) (w : World) (h0 : 0 ≤ x) (h1 : x ≤ 18446744073709551615) :
    Calls Try.prog 111 #[.int .u64 x] w fun e w' => e = .returned (.tuple #[.agg #[.int .i8 (wordO x).k, .int .u8 (wordO x).d, .int .u8 (wordO x).a, .int .u8 (wordO x).b, .int .i64 (wordO x).n], .bool (wordB x)]) ∧ Below w.heap.size w w' := by
  have a1 := and_31 (x / 64) (by omega) (by omega)
  have a2 := and_31 (x / 2048) (by omega) (by omega)
  have a3 := and_31 (x / 65536) (by omega) (by omega)
  have hz : wrap64 (wrap32 (x / 2097152 % 4294967296)) = wrap32 (x / 2097152 % 4294967296) := by unfold wrap32 wrap64; omega
  have hck : Hid (∀ w : World, Calls Try.prog 72 #[.agg #[.int .i8 (x % 64), .int .u8 (x / 64 % 32), .int .u8 (x / 2048 % 32), .int .u8 (x / 65536 % 32), .int .i64 (wrap32 (x / 2097152 % 4294967296))]] w fun e w' => e = .returned (.int .i64 (if chk (wordO x) then 0 else 30)) ∧ Below w.heap.size w w') := hid (fun w => check_any (wordO x) w (wordO_wf x))
  have hwx : wordB x = ((x / 9007199254740992 == 0) && chk (wordO x)) := rfl
  show Calls _ _ _ _ fun e w' => e = .returned (.tuple #[.agg #[.int .i8 (x % 64), .int .u8 (x / 64 % 32), .int .u8 (x / 2048 % 32), .int .u8 (x / 65536 % 32), .int .i64 (wrap32 (x / 2097152 % 4294967296))], .bool (wordB x)]) ∧ Below w.heap.size w w'
  generalize chk (wordO x) = cc at hck hwx
  generalize wordB x = wb at hwx ⊢
  cases hg : (x / 9007199254740992 == 0)
  · rw [hg] at hwx
    subst hwx
    go_enter Try.func111, Try.ntmps111
    go_wp2_with (go_at_call 136; (with_reducible refine (getk_any _ _ (by omega) (by omega)).mono ?_); rintro e w' ⟨rfl, rfl⟩)
    go_region
    all_goals go_wp2
    all_goals (refine bodyPost_ret (v := .tuple #[.agg #[.int .i8 (x % 64), .int .u8 (x / 64 % 32), .int .u8 (x / 2048 % 32), .int .u8 (x / 65536 % 32), .int .i64 (wrap32 (x / 2097152 % 4294967296))], .bool false]) (by simp [results, Try.results111, go_sem]) rfl ⟨rfl, ?_⟩)
    all_goals ((with_reducible (repeat (first | assumption | exact Below.refl _ _ | refine bset ?_ (Nat.le_refl _) _ | refine balloc ?_ _ | refine bdrew ?_ | refine bdrewN ?_ _))); done)
  · rw [hg, Bool.true_and] at hwx
    subst hwx
    cases wb
    case false =>
      simp only [if_true, Bool.false_eq_true, if_false] at hck
      go_enter Try.func111, Try.ntmps111
      go_wp2_with (go_at_call 136; (with_reducible refine (getk_any _ _ (by omega) (by omega)).mono ?_); rintro e w' ⟨rfl, rfl⟩)
      go_region_with ((with_reducible refine (hck.out _).mono ?_); rintro e w' ⟨rfl, hb⟩; obtain ⟨hc, hf⟩ := bcell hb; have hz := hb.size; simp at hz; have hz0 : w.heap.size < w'.heap.size := (by omega); have hz1 : w.heap.size + 1 < w'.heap.size := (by omega))
      all_goals go_wp2
      all_goals have hB := btrans (a := w) (by ((with_reducible (repeat (first | assumption | exact Below.refl _ _ | refine bset ?_ (Nat.le_refl _) _ | refine balloc ?_ _ | refine bdrew ?_ | refine bdrewN ?_ _))); done)) hb
      all_goals clear hc hf
      all_goals (first | ((refine have c0 : w'.cell? ⟨w.heap.size, 0, none⟩ = some (.int .i8 (x % 64)) := ?_; ?_); (next => (refine cell_keep ?_ hb; go_simp; done)); (refine have c1 : w'.cell? ⟨w.heap.size, 1, none⟩ = some (.int .u8 (x / 64 % 32)) := ?_; ?_); (next => (refine cell_keep ?_ hb; go_simp; done)); (refine have c2 : w'.cell? ⟨w.heap.size, 2, none⟩ = some (.int .u8 (x / 2048 % 32)) := ?_; ?_); (next => (refine cell_keep ?_ hb; go_simp; done)); (refine have c3 : w'.cell? ⟨w.heap.size, 3, none⟩ = some (.int .u8 (x / 65536 % 32)) := ?_; ?_); (next => (refine cell_keep ?_ hb; go_simp; done)); (refine have c4 : w'.cell? ⟨w.heap.size, 4, none⟩ = some (.int .i64 (wrap32 (x / 2097152 % 4294967296))) := ?_; ?_); (next => (refine cell_keep ?_ hb; go_simp; done)); refine bodyPost_ret (v := .tuple #[.agg #[.int .i8 (x % 64), .int .u8 (x / 64 % 32), .int .u8 (x / 2048 % 32), .int .u8 (x / 65536 % 32), .int .i64 (wrap32 (x / 2097152 % 4294967296))], .bool false]) ?_ rfl ⟨rfl, ?_⟩; (next => (simp [results, Try.results111, go_sem, c0, c1, c2, c3, c4]; done))) | ((refine have c0 : (w'.cell? ⟨w.heap.size, 0, none⟩).isSome = true := ?_; ?_); (next => (refine some_keep ?_ hb; go_simp; done)); (refine have c1 : (w'.cell? ⟨w.heap.size, 1, none⟩).isSome = true := ?_; ?_); (next => (refine some_keep ?_ hb; go_simp; done)); (refine have c2 : (w'.cell? ⟨w.heap.size, 2, none⟩).isSome = true := ?_; ?_); (next => (refine some_keep ?_ hb; go_simp; done)); (refine have c3 : (w'.cell? ⟨w.heap.size, 3, none⟩).isSome = true := ?_; ?_); (next => (refine some_keep ?_ hb; go_simp; done)); (refine have c4 : (w'.cell? ⟨w.heap.size, 4, none⟩).isSome = true := ?_; ?_); (next => (refine some_keep ?_ hb; go_simp; done)); refine bodyPost_ret (v := .tuple #[.agg #[.int .i8 (x % 64), .int .u8 (x / 64 % 32), .int .u8 (x / 2048 % 32), .int .u8 (x / 65536 % 32), .int .i64 (wrap32 (x / 2097152 % 4294967296))], .bool false]) ?_ rfl ⟨rfl, ?_⟩; (next => (simp [results, Try.results111, go_sem, c0, c1, c2, c3, c4]; done))))
      all_goals ((with_reducible (repeat (first | assumption | exact Below.refl _ _ | refine bset ?_ (Nat.le_refl _) _ | refine balloc ?_ _ | refine bdrew ?_ | refine bdrewN ?_ _))); done)
    case true =>
      simp only [if_true, Bool.false_eq_true, if_false] at hck
      go_enter Try.func111, Try.ntmps111
      go_wp2_with (go_at_call 136; (with_reducible refine (getk_any _ _ (by omega) (by omega)).mono ?_); rintro e w' ⟨rfl, rfl⟩)
      go_region_with ((with_reducible refine (hck.out _).mono ?_); rintro e w' ⟨rfl, hb⟩; obtain ⟨hc, hf⟩ := bcell hb; have hz := hb.size; simp at hz; have hz0 : w.heap.size < w'.heap.size := (by omega); have hz1 : w.heap.size + 1 < w'.heap.size := (by omega))
      all_goals go_wp2
      all_goals have hB := btrans (a := w) (by ((with_reducible (repeat (first | assumption | exact Below.refl _ _ | refine bset ?_ (Nat.le_refl _) _ | refine balloc ?_ _ | refine bdrew ?_ | refine bdrewN ?_ _))); done)) hb
      all_goals clear hc hf
      all_goals (first | ((refine have c0 : w'.cell? ⟨w.heap.size, 0, none⟩ = some (.int .i8 (x % 64)) := ?_; ?_); (next => (refine cell_keep ?_ hb; go_simp; done)); (refine have c1 : w'.cell? ⟨w.heap.size, 1, none⟩ = some (.int .u8 (x / 64 % 32)) := ?_; ?_); (next => (refine cell_keep ?_ hb; go_simp; done)); (refine have c2 : w'.cell? ⟨w.heap.size, 2, none⟩ = some (.int .u8 (x / 2048 % 32)) := ?_; ?_); (next => (refine cell_keep ?_ hb; go_simp; done)); (refine have c3 : w'.cell? ⟨w.heap.size, 3, none⟩ = some (.int .u8 (x / 65536 % 32)) := ?_; ?_); (next => (refine cell_keep ?_ hb; go_simp; done)); (refine have c4 : w'.cell? ⟨w.heap.size, 4, none⟩ = some (.int .i64 (wrap32 (x / 2097152 % 4294967296))) := ?_; ?_); (next => (refine cell_keep ?_ hb; go_simp; done)); refine bodyPost_ret (v := .tuple #[.agg #[.int .i8 (x % 64), .int .u8 (x / 64 % 32), .int .u8 (x / 2048 % 32), .int .u8 (x / 65536 % 32), .int .i64 (wrap32 (x / 2097152 % 4294967296))], .bool true]) ?_ rfl ⟨rfl, ?_⟩; (next => (simp [results, Try.results111, go_sem, c0, c1, c2, c3, c4]; done))) | ((refine have c0 : (w'.cell? ⟨w.heap.size, 0, none⟩).isSome = true := ?_; ?_); (next => (refine some_keep ?_ hb; go_simp; done)); (refine have c1 : (w'.cell? ⟨w.heap.size, 1, none⟩).isSome = true := ?_; ?_); (next => (refine some_keep ?_ hb; go_simp; done)); (refine have c2 : (w'.cell? ⟨w.heap.size, 2, none⟩).isSome = true := ?_; ?_); (next => (refine some_keep ?_ hb; go_simp; done)); (refine have c3 : (w'.cell? ⟨w.heap.size, 3, none⟩).isSome = true := ?_; ?_); (next => (refine some_keep ?_ hb; go_simp; done)); (refine have c4 : (w'.cell? ⟨w.heap.size, 4, none⟩).isSome = true := ?_; ?_); (next => (refine some_keep ?_ hb; go_simp; done)); refine bodyPost_ret (v := .tuple #[.agg #[.int .i8 (x % 64), .int .u8 (x / 64 % 32), .int .u8 (x / 2048 % 32), .int .u8 (x / 65536 % 32), .int .i64 (wrap32 (x / 2097152 % 4294967296))], .bool true]) ?_ rfl ⟨rfl, ?_⟩; (next => (simp [results, Try.results111, go_sem, c0, c1, c2, c3, c4]; done))))
      all_goals ((with_reducible (repeat (first | assumption | exact Below.refl _ _ | refine bset ?_ (Nat.le_refl _) _ | refine balloc ?_ _ | refine bdrew ?_ | refine bdrewN ?_ _))); done)
end Go.Proofs.Ytcibkoodnfkogaa
