/- The machine that runs a program, one operation behind the other, as plain data. -/
import Derived.Test.YtcibkoodnfkogaaY2
import Derived.Test.YtcibkoodnfkogaaY3
import Derived.Test.YtcibkoodnfkogaaY4
import Derived.Test.YtcibkoodnfkogaaY15
import Derived.Test.YtcibkoodnfkogaaY5
namespace Go.Proofs.Ytcibkoodnfkogaa
open Go.RowKit
set_option linter.unusedVariables false
set_option linter.unusedSimpArgs false
section
open Go.RowKit
/-- What the machine holds. -/
structure Mc where
  R : List Int
  M : List Int
  blk : Nat
  body : Bool
  pos : Nat
  rounds : Int
  steps : Nat
  prints : List Int
  over : Bool
  e : Int
  val : Int
/-- What a step stood for. -/
structure Tg where
  blk : Int
  loop : Bool
  op : Int
def Tg.none : Tg := ⟨0, false, 0⟩
def Tg.val (t : Tg) : Value := .agg #[.int .i64 t.blk, .bool t.loop, .int .i64 t.op, .bool false]
def Tg.cells (t : Tg) : List Value := [.int .i64 t.blk, .bool t.loop, .int .i64 t.op, .bool false]
def reg (R : List Int) (i : Int) : Int := R[i.toNat]?.getD 0
def lstS (l : List Blk) (m : Mc) : List Op := if m.body then (l[m.blk]?.map (·.body)).getD [] else (l[m.blk]?.map (·.ops)).getD []
def celS (o : Op) (R : List Int) : Nat := ((reg R o.a + o.n) % 256).toNat
def opT (o : Op) (R : List Int) : Bool := (o.k == 13 || o.k == 14) && reg R o.b == 0
def opR (o : Op) (R M : List Int) : List Int :=
  if o.k = 1 then R.set o.d.toNat o.n else if o.k = 15 then R.set o.d.toNat (M[celS o R]?.getD 0) else if o.k = 16 ∨ o.k = 17 then R else R.set o.d.toNat (rckN o.k (reg R o.a) (reg R o.b))
def opM (o : Op) (R M : List Int) : List Int := if o.k = 16 then M.set (celS o R) (reg R o.b) else M
def opP (o : Op) (R P : List Int) : List Int := if o.k = 17 then P ++ [reg R o.a] else P
/-- How many rounds are left behind a loop's end. -/
def rndS (b : Blk) (m : Mc) : Int := if m.body then m.rounds - 1 else max (reg m.R b.a) 0
/-- The end of a block. -/
def endS (b : Blk) (m : Mc) : Mc :=
  if b.en = 2 then { m with over := true, val := reg m.R b.a }
  else if b.en = 3 then
    (if 0 < rndS b m then { m with rounds := rndS b m, body := true, pos := 0 } else { m with rounds := rndS b m, blk := b.th.toNat, body := false, pos := 0 })
  else if b.en = 1 ∧ reg m.R b.a = 0 then { m with blk := b.el.toNat, body := false, pos := 0 }
  else { m with blk := b.th.toNat, body := false, pos := 0 }
def opS (o : Op) (m : Mc) : Mc := { m with R := opR o m.R m.M, M := opM o m.R m.M, prints := opP o m.R m.prints, pos := m.pos + 1 }
def stuckS (l : List Blk) (m : Mc) : Bool := !m.over && (match (lstS l m)[m.pos]? with | some o => opT o m.R | none => false)
def noBlk : Blk := ⟨[], 0, 0, [], 0, 0⟩
/-- A step; what it stood for; was one done? -/
def stepM (l : List Blk) (m : Mc) : Mc :=
  if m.over then m
  else match (lstS l m)[m.pos]? with
    | some o => if opT o m.R then { m with over := true, e := 101 } else { opS o m with steps := m.steps + 1 }
    | none => { endS (l[m.blk]?.getD noBlk) m with steps := m.steps + 1 }
def stepD (l : List Blk) (m : Mc) : Bool := !m.over && !stuckS l m
def stepT (l : List Blk) (m : Mc) : Tg :=
  if m.over then Tg.none
  else match (lstS l m)[m.pos]? with
    | some o => if opT o m.R then Tg.none else ⟨m.blk, m.body, m.pos⟩
    | none => ⟨m.blk, false, -1⟩
def runS (l : List Blk) : Nat → Mc → Mc
  | 0, m => m
  | n + 1, m => if stepD l m then runS l n (stepM l m) else stepM l m
/-- Behind a run: a trap just ahead is taken. -/
def lastS (l : List Blk) (m : Mc) : Mc := if stuckS l m then stepM l m else m
def clampS (n : Int) : Nat := (min (max n 0) 1048576).toNat
def runM (l : List Blk) (n : Int) (m : Mc) : Mc := lastS l (runS l (clampS n) m)
def outE (m : Mc) : Int := if m.over then m.e else 100
def outV (m : Mc) : Int := if m.over then m.val else 0
def outM (m : Mc) : List Int := if m.over = true ∧ m.e = 0 then m.M else []
def tagsS (l : List Blk) : Nat → Mc → List Tg
  | 0, _ => []
  | n + 1, m => if stepD l m then stepT l m :: tagsS l n (stepM l m) else []
/-- A new machine. -/
def fillS (n : Nat) (r : List Int) : List Int := r ++ List.replicate (n - r.length) 0
def newM (r m : List Int) : Mc := ⟨fillS 32 r, fillS 256 m, 0, false, 0, 0, 0, [], false, 0, 0⟩
def newE (l : List Blk) (r m : List Int) : Int := if prgE l = 0 then (if 32 < r.length ∨ 256 < m.length then 2 else 0) else prgE l
/-- The blocks are a program. -/
structure PrgOk (l : List Blk) : Prop where
  wf : ∀ b ∈ l, b.wf
  ops : ∀ b ∈ l, ∀ o ∈ b.ops, opOk o = true
  body : ∀ b ∈ l, ∀ o ∈ b.body, opOk o = true
  en : ∀ b ∈ l, endB b l.length = true
  n0 : 0 < l.length
  n1 : l.length ≤ 128
  m0 : ∀ b ∈ l, b.ops.length ≤ 1024
  m1 : ∀ b ∈ l, b.body.length ≤ 1024
theorem firstE_ok {n : Int} : ∀ {l : List Blk}, firstE n l = 0 → ∀ b ∈ l, blkE b n = 0
  | [], _, b, hb => by cases hb
  | a :: r, h, b, hb => by
    unfold firstE at h
    by_cases ha : blkE a n = 0
    · rw [if_pos ha] at h
      rcases List.mem_cons.1 hb with rfl | hb
      · exact ha
      · exact firstE_ok h b hb
    · rw [if_neg ha] at h
      exact absurd h ha
theorem blkE_ok {b : Blk} {n : Int} (h : blkE b n = 0) : allOk b.ops = true ∧ endB b n = true ∧ allOk b.body = true := by
  unfold blkE at h
  cases h1 : allOk b.ops <;> cases h2 : endB b n <;> cases h3 : allOk b.body <;> simp [h1, h2, h3] at h ⊢
theorem sumB_mem {l : List Blk} {b : Blk} (hb : b ∈ l) : b.ops.length + b.body.length ≤ sumB l := by
  obtain ⟨i, hi, rfl⟩ := List.getElem_of_mem hb
  have h1 := sumB_step hi
  have h2 := sumB_mono (l := l) (i + 1) (by omega)
  omega
theorem prgE_ok {l : List Blk} (hw : ∀ b ∈ l, b.wf) (h : prgE l = 0) : PrgOk l := by
  unfold prgE at h
  by_cases h1 : 128 < l.length ∨ 1024 < l.length + sumB l
  · rw [if_pos h1] at h; omega
  rw [if_neg h1] at h
  by_cases h2 : l.length = 0
  · rw [if_pos h2] at h; omega
  rw [if_neg h2] at h
  have hf := firstE_ok h
  have hall : ∀ {k : List Op}, allOk k = true → ∀ o ∈ k, opOk o = true := fun h o ho => List.all_eq_true.1 h o ho
  exact ⟨hw, fun b hb => hall (blkE_ok (hf b hb)).1, fun b hb => hall (blkE_ok (hf b hb)).2.2, fun b hb => (blkE_ok (hf b hb)).2.1, by omega, by omega,
    fun b hb => by have := sumB_mem hb; omega, fun b hb => by have := sumB_mem hb; omega⟩
theorem endB_ok {b : Blk} {n : Nat} (h : endB b n = true) (hn : 0 < n) : 0 ≤ b.en ∧ b.en ≤ 3 ∧ 0 ≤ b.a ∧ b.a < 32 ∧ 0 ≤ b.th ∧ b.th < n ∧ 0 ≤ b.el ∧ b.el < n := by
  have hf : ∀ {x c y}, fitsB x c y = true → 0 < y → 0 ≤ x ∧ x < y := fun {x c y} h h0 => by
    unfold fitsB at h
    cases c <;> simp at h <;> omega
  unfold endB at h
  simp only [Bool.and_eq_true, decide_eq_true_eq] at h
  obtain ⟨⟨⟨⟨⟨h1, h2⟩, h3⟩, h4⟩, h5⟩, _⟩ := h
  have := hf h3 (by decide)
  have := hf h4 (by omega)
  have := hf h5 (by omega)
  omega
theorem opOk_bd {o : Op} (h : opOk o = true) (hw : o.wf) : 1 ≤ o.k ∧ o.k ≤ 17 ∧ 0 ≤ o.d ∧ o.d < 32 ∧ 0 ≤ o.a ∧ o.a < 32 ∧ 0 ≤ o.b ∧ o.b < 32 ∧ -2147483648 ≤ o.n ∧ o.n ≤ 2147483647 := by
  unfold opOk chk fits32 at h
  simp only [Bool.and_eq_true, decide_eq_true_eq] at h
  obtain ⟨⟨h1, h2⟩, ⟨⟨⟨⟨⟨⟨⟨⟨h3, h4⟩, h5⟩, h6⟩, ⟨h7, h8⟩⟩, h9⟩, h10⟩, h11⟩, h12⟩⟩ := h
  have := hw.d0
  have := hw.a0
  have := hw.b0
  omega
/-- What holds of the machine while it runs. -/
structure Mc.ok (l : List Blk) (m : Mc) : Prop where
  r32 : m.R.length = 32
  m256 : m.M.length = 256
  ri : I64s m.R
  mi : I64s m.M
  blk : m.blk < l.length
  pos : m.pos ≤ (lstS l m).length
  r0 : 0 ≤ m.rounds
  r1 : m.rounds ≤ 9223372036854775807
  rb : m.body = true → 1 ≤ m.rounds
  e0 : m.over = false → m.e = 0
  ee : m.e = 0 ∨ m.e = 101
  pi : I64s m.prints
  pl : m.prints.length ≤ m.steps
  v : -9223372036854775808 ≤ m.val ∧ m.val ≤ 9223372036854775807
theorem reg_bd {R : List Int} (h : I64s R) (i : Int) : -9223372036854775808 ≤ reg R i ∧ reg R i ≤ 9223372036854775807 := by
  unfold reg
  cases hx : R[i.toNat]? with
  | none => exact ⟨by decide, by decide⟩
  | some x => exact h x (List.mem_of_getElem? hx)
theorem lst_mem {l : List Blk} {m : Mc} {o : Op} (hp : PrgOk l) (h : (lstS l m)[m.pos]? = some o) : opOk o = true ∧ o.wf := by
  have ho := List.mem_of_getElem? h
  unfold lstS at ho
  cases hb : l[m.blk]? with
  | none => rw [hb] at ho; cases m.body <;> simp at ho
  | some b =>
    have hm := List.mem_of_getElem? hb
    rw [hb] at ho
    cases h2 : m.body <;> rw [h2] at ho <;> simp at ho
    · exact ⟨hp.ops b hm o ho, (hp.wf b hm).ops o ho⟩
    · exact ⟨hp.body b hm o ho, (hp.wf b hm).body o ho⟩
theorem opR_len (o : Op) (R M : List Int) : (opR o R M).length = R.length := by
  unfold opR
  repeat' split
  all_goals simp
theorem opM_len (o : Op) (R M : List Int) : (opM o R M).length = M.length := by
  unfold opM
  split <;> simp
theorem opR_bd {o : Op} {R M : List Int} (ho : o.wf) (hR : I64s R) (hM : I64s M) : I64s (opR o R M) := by
  unfold opR
  split
  · exact hR.set _ ⟨ho.n0, ho.n1⟩
  split
  · refine hR.set _ ?_
    cases hx : M[celS o R]? with
    | none => exact ⟨by decide, by decide⟩
    | some x => exact hM x (List.mem_of_getElem? hx)
  split
  · exact hR
  · exact hR.set _ (rckN_i64 _ _ _ (reg_bd hR _).1 (reg_bd hR _).2 (reg_bd hR _).1 (reg_bd hR _).2)
theorem opM_bd {o : Op} {R M : List Int} (hR : I64s R) (hM : I64s M) : I64s (opM o R M) := by
  unfold opM
  split
  · exact hM.set _ (reg_bd hR _)
  · exact hM
theorem opP_bd {o : Op} {R P : List Int} (hR : I64s R) (hP : I64s P) : I64s (opP o R P) := by
  unfold opP
  split
  · intro x hx
    rcases List.mem_append.1 hx with hx | hx
    · exact hP x hx
    · rw [List.mem_singleton.1 hx]
      exact reg_bd hR _
  · exact hP
theorem opP_len (o : Op) (R P : List Int) : (opP o R P).length ≤ P.length + 1 := by
  unfold opP
  split <;> simp
theorem ok_first {l : List Blk} {m : Mc} {t : Nat} (ht : t < l.length) (hm : m.ok l) (r : Int) (hr0 : 0 ≤ r) (hr1 : r ≤ 9223372036854775807) : Mc.ok l { m with rounds := r, blk := t, body := false, pos := 0 } :=
  ⟨hm.r32, hm.m256, hm.ri, hm.mi, ht, Nat.zero_le _, hr0, hr1, (fun h => by cases h), hm.e0, hm.ee, hm.pi, hm.pl, hm.v⟩
theorem endS_ok {l : List Blk} {b : Blk} {m : Mc} (hp : PrgOk l) (hm : m.ok l) (ho : m.over = false) (hb : l[m.blk]? = some b) : Mc.ok l (endS b m) := by
  have he := endB_ok (hp.en b (List.mem_of_getElem? hb)) hp.n0
  obtain ⟨_, _, _, _, _, _, _, _⟩ := he
  have hreg := reg_bd hm.ri b.a
  unfold endS
  by_cases h2 : b.en = 2
  · rw [if_pos h2]
    exact ⟨hm.r32, hm.m256, hm.ri, hm.mi, hm.blk, hm.pos, hm.r0, hm.r1, hm.rb, (fun h => by cases h), hm.ee, hm.pi, hm.pl, hreg⟩
  rw [if_neg h2]
  by_cases h3 : b.en = 3
  · rw [if_pos h3]
    have hr : 0 ≤ rndS b m ∧ rndS b m ≤ 9223372036854775807 := by
      unfold rndS
      cases hbd : m.body
      · simp only [Bool.false_eq_true, if_false]
        omega
      · have := hm.rb hbd
        have := hm.r1
        simp only [if_true]
        omega
    by_cases h4 : 0 < rndS b m
    · rw [if_pos h4]
      exact ⟨hm.r32, hm.m256, hm.ri, hm.mi, hm.blk, Nat.zero_le _, hr.1, hr.2, (fun _ => by show 1 ≤ rndS b m; omega), hm.e0, hm.ee, hm.pi, hm.pl, hm.v⟩
    · rw [if_neg h4]
      exact ok_first (by omega) hm _ hr.1 hr.2
  rw [if_neg h3]
  split
  · exact ok_first (by omega) hm _ hm.r0 hm.r1
  · exact ok_first (by omega) hm _ hm.r0 hm.r1
theorem opS_ok {l : List Blk} {o : Op} {m : Mc} (hp : PrgOk l) (hm : m.ok l) (h : (lstS l m)[m.pos]? = some o) : Mc.ok l { opS o m with steps := m.steps + 1 } := by
  obtain ⟨_, hw⟩ := lst_mem hp h
  have hl := (List.getElem?_eq_some_iff.1 h).1
  have h3 := opP_len o m.R m.prints
  have h4 := hm.pl
  exact ⟨(opR_len _ _ _).trans hm.r32, (opM_len _ _ _).trans hm.m256, opR_bd hw hm.ri hm.mi, opM_bd hm.ri hm.mi, hm.blk, hl, hm.r0, hm.r1, hm.rb, hm.e0, hm.ee, opP_bd hm.ri hm.pi, (by show (opP o m.R m.prints).length ≤ m.steps + 1; omega), hm.v⟩
theorem trap_ok {l : List Blk} {m : Mc} (hm : m.ok l) : Mc.ok l { m with over := true, e := 101 } :=
  ⟨hm.r32, hm.m256, hm.ri, hm.mi, hm.blk, hm.pos, hm.r0, hm.r1, hm.rb, (fun h => by cases h), .inr rfl, hm.pi, hm.pl, hm.v⟩
theorem more_ok {l : List Blk} {m : Mc} (hm : m.ok l) (n : Nat) (h : m.steps ≤ n) : Mc.ok l { m with steps := n } :=
  ⟨hm.r32, hm.m256, hm.ri, hm.mi, hm.blk, hm.pos, hm.r0, hm.r1, hm.rb, hm.e0, hm.ee, hm.pi, Nat.le_trans hm.pl h, hm.v⟩
theorem endS_steps (b : Blk) (m : Mc) : (endS b m).steps = m.steps := by
  unfold endS
  repeat' split
  all_goals rfl
theorem stepM_ok {l : List Blk} {m : Mc} (hp : PrgOk l) (hm : m.ok l) : Mc.ok l (stepM l m) := by
  unfold stepM
  cases ho : m.over
  · simp only [Bool.false_eq_true, if_false]
    cases hx : (lstS l m)[m.pos]? with
    | some o =>
      simp only
      cases hT : opT o m.R
      · exact opS_ok hp hm hx
      · exact trap_ok hm
    | none =>
      simp only
      obtain ⟨b, hb⟩ : ∃ b, l[m.blk]? = some b := ⟨_, List.getElem?_eq_getElem hm.blk⟩
      rw [hb]
      exact more_ok (endS_ok hp hm ho hb) _ (by rw [endS_steps]; exact Nat.le_succ _)
  · exact hm
theorem stepM_steps (l : List Blk) (m : Mc) : (stepM l m).steps ≤ m.steps + 1 := by
  unfold stepM
  split
  · omega
  split
  · split
    · simp
    · simp
  · simp
theorem newM_ok {l : List Blk} {r m : List Int} (hp : PrgOk l) (hr : I64s r) (hm : I64s m) (hr1 : r.length ≤ 32) (hm1 : m.length ≤ 256) : (newM r m).ok l := by
  have hf : ∀ {n : Nat} {r : List Int}, I64s r → I64s (fillS n r) := fun {n r} hr x hx => by
    rcases List.mem_append.1 hx with hx | hx
    · exact hr x hx
    · exact i64s_zero _ x hx
  exact ⟨by simp [newM, fillS]; omega, by simp [newM, fillS]; omega, hf hr, hf hm, hp.n0, Nat.zero_le _, Int.le_refl _, by show (0 : Int) ≤ _; decide, (fun h => by cases h), fun _ => rfl, .inl rfl, (fun x hx => by cases hx), Nat.le_refl _, ⟨(by show (-9223372036854775808 : Int) ≤ 0; decide), (by show (0 : Int) ≤ 9223372036854775807; decide)⟩⟩
end
/- Plain laws of the machine: parts come to the same; what nothing writes stays. -/
section
open Go.RowKit
theorem step_over {l : List Blk} {m : Mc} (h : m.over = true) : stepM l m = m := by unfold stepM; rw [if_pos h]
theorem stuck_over {l : List Blk} {m : Mc} (h : m.over = true) : stuckS l m = false := by unfold stuckS; rw [h]; rfl
theorem did_over {l : List Blk} {m : Mc} (h : m.over = true) : stepD l m = false := by unfold stepD; rw [h]; rfl
theorem step_stuck {l : List Blk} {m : Mc} (h : stuckS l m = true) : stepM l m = { m with over := true, e := 101 } := by
  unfold stuckS at h
  rw [Bool.and_eq_true] at h
  have h1 : m.over = false := by simpa using h.1
  unfold stepM
  rw [h1]
  simp only [Bool.false_eq_true, if_false]
  cases hx : (lstS l m)[m.pos]? with
  | none => rw [hx] at h; simp at h
  | some o => rw [hx] at h; simp only; rw [if_pos h.2]
theorem did_no {l : List Blk} {m : Mc} (h : stepD l m = false) : m.over = true ∨ stuckS l m = true := by
  unfold stepD at h
  cases h1 : m.over
  · rw [h1] at h
    right
    simpa using h
  · exact .inl rfl
theorem last_over {l : List Blk} {m : Mc} (h : m.over = true) : lastS l m = m := by unfold lastS; rw [stuck_over h]; rfl
theorem run_over {l : List Blk} {m : Mc} (h : m.over = true) (n : Nat) : runS l n m = m := by
  cases n with
  | zero => rfl
  | succ n => unfold runS; rw [did_over h]; exact step_over h
theorem step_no {l : List Blk} {m : Mc} (h : stepD l m = false) : (stepM l m).over = true ∧ lastS l m = stepM l m := by
  rcases did_no h with h | h
  · rw [step_over h, last_over h]
    exact ⟨h, rfl⟩
  · refine ⟨by rw [step_stuck h], by unfold lastS; rw [h]; rfl⟩
theorem run_no {l : List Blk} {m : Mc} (h : stepD l m = false) (n : Nat) : lastS l (runS l n m) = lastS l m := by
  obtain ⟨h1, h2⟩ := step_no h
  cases n with
  | zero => rfl
  | succ n =>
    have : runS l (n + 1) m = stepM l m := by unfold runS; rw [h]; rfl
    rw [this, last_over h1, h2]
theorem last_no {l : List Blk} {m : Mc} (h : stuckS l m = true) : stepD l m = false := by unfold stepD; rw [h]; simp
theorem run_last (l : List Blk) (n : Nat) (m : Mc) : lastS l (runS l n (lastS l m)) = lastS l (runS l n m) := by
  cases h : stuckS l m
  · have : lastS l m = m := by unfold lastS; rw [h]; rfl
    rw [this]
  · have hn := last_no h
    obtain ⟨h1, h2⟩ := step_no hn
    rw [run_no hn, h2, run_over h1, last_over h1]
theorem run_run (l : List Blk) (b : Nat) : ∀ (a : Nat) (m : Mc), lastS l (runS l b (runS l a m)) = lastS l (runS l (a + b) m)
  | 0, m => by rw [Nat.zero_add]; rfl
  | a + 1, m => by
    cases h : stepD l m
    · obtain ⟨h1, h2⟩ := step_no h
      have : runS l (a + 1) m = stepM l m := by unfold runS; rw [h]; rfl
      rw [this, run_over h1, run_no h, h2, last_over h1]
    · have e1 : runS l (a + 1) m = runS l a (stepM l m) := by show (if stepD l m = true then _ else _) = _; rw [if_pos h]
      have e2 : runS l (a + 1 + b) m = runS l (a + b) (stepM l m) := by
        rw [show a + 1 + b = (a + b) + 1 by omega]
        show (if stepD l m = true then _ else _) = _
        rw [if_pos h]
      rw [e1, e2]
      exact run_run l b a _
theorem clamp_small {n : Nat} (h : n ≤ 1048576) : clampS n = n := by unfold clampS; omega
/-- Steps dealt out in two parts. -/
theorem runM_parts (l : List Blk) (m : Mc) (a b : Nat) (h : a + b ≤ 1048576) : runM l b (runM l a m) = runM l ((a + b : Nat) : Int) m := by
  unfold runM
  rw [clamp_small (show a ≤ 1048576 by omega), clamp_small (show b ≤ 1048576 by omega), clamp_small h, run_last, run_run]
theorem step_steps {l : List Blk} {m : Mc} (h : stepD l m = true) : (stepM l m).steps = m.steps + 1 := by
  unfold stepD at h
  rw [Bool.and_eq_true] at h
  have h1 : m.over = false := by simpa using h.1
  have h2 : stuckS l m = false := by simpa using h.2
  unfold stuckS at h2
  rw [h1] at h2
  unfold stepM
  rw [h1]
  simp only [Bool.false_eq_true, if_false]
  cases hx : (lstS l m)[m.pos]? with
  | none => rfl
  | some o =>
    rw [hx] at h2
    simp at h2
    simp only
    rw [if_neg (by rw [h2]; decide)]
theorem step_no_steps {l : List Blk} {m : Mc} (h : stepD l m = false) : (stepM l m).steps = m.steps ∧ (stepM l m).R = m.R ∧ (stepM l m).M = m.M := by
  rcases did_no h with h | h
  · rw [step_over h]
    exact ⟨rfl, rfl, rfl⟩
  · rw [step_stuck h]
    exact ⟨rfl, rfl, rfl⟩
theorem last_steps (l : List Blk) (m : Mc) : (lastS l m).steps = m.steps := by
  unfold lastS
  split
  · next h => exact (step_no_steps (last_no h)).1
  · rfl
theorem run_steps (l : List Blk) : ∀ (n : Nat) (m : Mc), (runS l n m).steps = m.steps + (tagsS l n m).length
  | 0, m => rfl
  | n + 1, m => by
    cases h : stepD l m
    · have e1 : runS l (n + 1) m = stepM l m := by unfold runS; rw [h]; rfl
      have e2 : tagsS l (n + 1) m = [] := by unfold tagsS; rw [h]; rfl
      rw [e1, e2]
      exact (step_no_steps h).1
    · have e1 : runS l (n + 1) m = runS l n (stepM l m) := by show (if stepD l m = true then _ else _) = _; rw [if_pos h]
      have e2 : tagsS l (n + 1) m = stepT l m :: tagsS l n (stepM l m) := by show (if stepD l m = true then _ else _) = _; rw [if_pos h]
      rw [e1, e2, run_steps l n, step_steps h, List.length_cons]
      omega
theorem tags_len (l : List Blk) : ∀ (n : Nat) (m : Mc), (tagsS l n m).length ≤ n
  | 0, m => Nat.le_refl _
  | n + 1, m => by
    unfold tagsS
    split
    · simpa using tags_len l n _
    · simp
/-- A register that no operation writes; memory without stores. -/
def keepsR (l : List Blk) (r : Nat) : Prop := ∀ b ∈ l, ∀ o, o ∈ b.ops ∨ o ∈ b.body → (o.k ≤ 15 → o.d.toNat ≠ r)
def keepsM (l : List Blk) : Prop := ∀ b ∈ l, ∀ o, o ∈ b.ops ∨ o ∈ b.body → o.k ≠ 16
theorem lst_in {l : List Blk} {m : Mc} {o : Op} (h : (lstS l m)[m.pos]? = some o) : ∃ b ∈ l, o ∈ b.ops ∨ o ∈ b.body := by
  have ho := List.mem_of_getElem? h
  unfold lstS at ho
  cases hb : l[m.blk]? with
  | none => rw [hb] at ho; cases m.body <;> simp at ho
  | some b =>
    refine ⟨b, List.mem_of_getElem? hb, ?_⟩
    rw [hb] at ho
    cases h2 : m.body <;> rw [h2] at ho <;> simp at ho
    · exact .inl ho
    · exact .inr ho
theorem endS_RM (b : Blk) (m : Mc) : (endS b m).R = m.R ∧ (endS b m).M = m.M := by
  unfold endS
  repeat' split
  all_goals exact ⟨rfl, rfl⟩
theorem step_keepR {l : List Blk} {m : Mc} {r : Nat} (hp : PrgOk l) (hk : keepsR l r) : (stepM l m).R[r]? = m.R[r]? := by
  unfold stepM
  split
  · rfl
  split
  · next o ho =>
    obtain ⟨b, hb, hob⟩ := lst_in ho
    have h := hk b hb o hob
    have h17 := (opOk_bd (lst_mem hp ho).1 (lst_mem hp ho).2).2.1
    split
    · rfl
    · show (opR o m.R m.M)[r]? = _
      unfold opR
      split
      · rw [List.getElem?_set_ne (h (by omega))]
      split
      · rw [List.getElem?_set_ne (h (by omega))]
      split
      · rfl
      · rw [List.getElem?_set_ne (h (by omega))]
  · show (endS (l[m.blk]?.getD noBlk) m).R[r]? = _
    rw [(endS_RM _ _).1]
theorem step_keepM {l : List Blk} {m : Mc} (hk : keepsM l) : (stepM l m).M = m.M := by
  unfold stepM
  split
  · rfl
  split
  · next o ho =>
    obtain ⟨b, hb, hob⟩ := lst_in ho
    have h := hk b hb o hob
    split
    · rfl
    · show opM o m.R m.M = _
      unfold opM
      rw [if_neg h]
  · show (endS (l[m.blk]?.getD noBlk) m).M = _
    rw [(endS_RM _ _).2]
theorem run_keepR {l : List Blk} {r : Nat} (hp : PrgOk l) (hk : keepsR l r) : ∀ (n : Nat) (m : Mc), (runS l n m).R[r]? = m.R[r]?
  | 0, _ => rfl
  | n + 1, m => by
    unfold runS
    split
    · rw [run_keepR hp hk n, step_keepR hp hk]
    · exact step_keepR hp hk
theorem run_keepM {l : List Blk} (hk : keepsM l) : ∀ (n : Nat) (m : Mc), (runS l n m).M = m.M
  | 0, _ => rfl
  | n + 1, m => by
    unfold runS
    split
    · rw [run_keepM hk n, step_keepM hk]
    · exact step_keepM hk
theorem runM_keepR {l : List Blk} {m : Mc} {r : Nat} (hp : PrgOk l) (hk : keepsR l r) (n : Int) : (runM l n m).R[r]? = m.R[r]? := by
  unfold runM lastS
  split
  · rw [step_keepR hp hk, run_keepR hp hk]
  · exact run_keepR hp hk _ _
theorem runM_keepM {l : List Blk} {m : Mc} (hk : keepsM l) (n : Int) : (runM l n m).M = m.M := by
  unfold runM lastS
  split
  · rw [step_keepM hk, run_keepM hk]
  · exact run_keepM hk _ _
theorem run_ok {l : List Blk} (hp : PrgOk l) : ∀ (n : Nat) {m : Mc}, m.ok l → (runS l n m).ok l
  | 0, _, h => h
  | n + 1, m, h => by
    unfold runS
    split
    · exact run_ok hp n (stepM_ok hp h)
    · exact stepM_ok hp h
theorem runM_ok {l : List Blk} {m : Mc} (hp : PrgOk l) (h : m.ok l) (n : Int) : (runM l n m).ok l := by
  unfold runM lastS
  split
  · exact stepM_ok hp (run_ok hp _ h)
  · exact run_ok hp _ h
theorem runM_steps (l : List Blk) (n : Int) (m : Mc) : (runM l n m).steps = m.steps + (tagsS l (clampS n) m).length := by
  unfold runM
  rw [last_steps, run_steps]
theorem runM_le (l : List Blk) (n : Int) (m : Mc) : (runM l n m).steps ≤ m.steps + clampS n := by
  have := runM_steps l n m
  have := tags_len l (clampS n) m
  omega
/-- No step done: the place is as it was. -/
theorem tags_nil {l : List Blk} {n : Nat} {m : Mc} (h : tagsS l n m = []) : n = 0 ∨ stepD l m = false := by
  cases n with
  | zero => exact .inl rfl
  | succ n =>
    right
    unfold tagsS at h
    cases hd : stepD l m
    · rfl
    · rw [hd] at h
      simp at h
theorem step_no_place {l : List Blk} {m : Mc} (h : stepD l m = false) : (stepM l m).blk = m.blk ∧ (stepM l m).body = m.body ∧ (stepM l m).pos = m.pos := by
  rcases did_no h with h | h
  · rw [step_over h]
    exact ⟨rfl, rfl, rfl⟩
  · rw [step_stuck h]
    exact ⟨rfl, rfl, rfl⟩
end
end Go.Proofs.Ytcibkoodnfkogaa
