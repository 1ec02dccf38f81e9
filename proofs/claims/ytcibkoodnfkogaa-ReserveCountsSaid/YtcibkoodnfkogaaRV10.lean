/- Two tables side by side. -/
import Derived.Test.YtcibkoodnfkogaaRV9
namespace Go.Proofs.Ytcibkoodnfkogaa
open Go.RowKit Go.Maps
set_option linter.unusedVariables false
set_option linter.unusedSimpArgs false
/-- A machine of turns: function, receiver, whether any cycle, what the turn is. -/
structure Tn where
  F : FuncId
  rcv : Value
  any : Bool
  tn : Int → Int
structure Two (t : List Int) (a b : Tn) (w0 : World) (pa ba pb bb : Nat) (w : World) (na nb : Nat) (Ga Gb : Int → Int → Int) : Prop where
  ra : ResC w pa ba t a.F a.rcv a.any
  rb : ResC w pb bb t b.F b.rcv b.any
  ga : Busy w ba na Ga
  gb : Busy w bb nb Gb
  bel : Below w0.heap.size w0 w
  la : w0.heap.size ≤ ba
  lb : w0.heap.size ≤ bb
  d1 : pa ≠ bb
  d2 : pb ≠ ba
  d3 : ba ≠ bb
variable {t : List Int} {a b : Tn} {w0 w w' : World} {pa ba pb bb na nb : Nat} {Ga Gb : Int → Int → Int}
theorem Two.keep (h : Two t a b w0 pa ba pb bb w na nb Ga Gb) (hb : Below w.heap.size w w') : Two t a b w0 pa ba pb bb w' na nb Ga Gb :=
  ⟨h.ra.keep (row := none) (gb_of_below hb) (by simp), h.rb.keep (row := none) (gb_of_below hb) (by simp), h.ga.keep (row := none) (gb_of_below hb) (by simp), h.gb.keep (row := none) (gb_of_below hb) (by simp), btrans h.bel hb, h.la, h.lb, h.d1, h.d2, h.d3⟩
theorem Two.drew (h : Two t a b w0 pa ba pb bb w na nb Ga Gb) : Two t a b w0 pa ba pb bb w.drew na nb Ga Gb := h.keep (bdrew (Below.refl _ _))
theorem Two.alloc (h : Two t a b w0 pa ba pb bb w na nb Ga Gb) (o : Obj) : Two t a b w0 pa ba pb bb (w.alloc o) na nb Ga Gb := h.keep (balloc (Below.refl _ _) o)
/-- A block that is none of theirs may turn. -/
theorem Two.turn (h : Two t a b w0 pa ba pb bb w na nb Ga Gb) {X : Nat} (hg : w.grownBy w' (some X)) (hX : w0.heap.size ≤ X) (h1 : pa ≠ X) (h2 : ba ≠ X) (h3 : pb ≠ X) (h4 : bb ≠ X) : Two t a b w0 pa ba pb bb w' na nb Ga Gb :=
  ⟨h.ra.keep hg (by simpa using h1), h.rb.keep hg (by simpa using h3), h.ga.keep hg (by simpa using h2), h.gb.keep hg (by simpa using h4), Below.grown h.bel hg h.bel.size (fun k hk => by cases hk; exact hX), h.la, h.lb, h.d1, h.d2, h.d3⟩
def TakeA (t : List Int) (a b : Tn) (w0 : World) (pa ba pb bb : Nat) (w : World) (na nb : Nat) (Ga Gb : Int → Int → Int) (cl cy : Int) (e : Ending) (w' : World) : Prop :=
  ∃ r : Bool, e = .returned (.bool r) ∧ (r = true ↔ FreeP t a.tn a.any Ga cl cy) ∧ Two t a b w0 pa ba pb bb w' (na + 4) nb (if r = true then takeG t a.tn Ga cl cy else Ga) Gb ∧ w.grownBy w' (some ba)
def TakeB (t : List Int) (a b : Tn) (w0 : World) (pa ba pb bb : Nat) (w : World) (na nb : Nat) (Ga Gb : Int → Int → Int) (cl cy : Int) (e : Ending) (w' : World) : Prop :=
  ∃ r : Bool, e = .returned (.bool r) ∧ (r = true ↔ FreeP t b.tn b.any Gb cl cy) ∧ Two t a b w0 pa ba pb bb w' na (nb + 4) Ga (if r = true then takeG t b.tn Gb cl cy else Gb) ∧ w.grownBy w' (some bb)
def inCy (tn : Int → Int) (cy : Int) : Prop := (-1099511627776 ≤ cy ∧ cy ≤ 1099511627776) ∧ (-1099511627776 ≤ tn cy ∧ tn cy ≤ 1099511627776)
theorem inCy.c {tn : Int → Int} {cy : Int} (h : inCy tn cy) : inC cy := by have := h.1; unfold inC; omega
theorem Two.takeA (h : Two t a b w0 pa ba pb bb w na nb Ga Gb) (ht : t.length = 13) (hok : tabOk t = true) (HT : Turns a.F a.rcv a.tn) (hn : na ≤ 1000000) (cl cy : Int) (hcy : inCy a.tn cy) :
    Calls Try.prog 20 #[.pointer (some ⟨pa, 0, none⟩), .int .i64 cl, .int .i64 cy] w (TakeA t a b w0 pa ba pb bb w na nb Ga Gb cl cy) := by
  refine (take_any h.ra ht hok HT h.ga hn cl cy hcy.c hcy.1 hcy.2).mono ?_
  rintro e w' ⟨r, rfl, hr, hB, hg⟩
  refine ⟨r, rfl, hr, ⟨h.ra.keep hg ?_, h.rb.keep hg ?_, hB, h.gb.keep hg ?_, Below.grown h.bel hg h.bel.size (fun k hk => by cases hk; exact h.la), h.la, h.lb, h.d1, h.d2, h.d3⟩, hg⟩
  · have := res_ne h.ra h.ga; simpa using this
  · have := h.d2; simpa using this
  · have := h.d3; simpa using this.symm
theorem Two.takeB (h : Two t a b w0 pa ba pb bb w na nb Ga Gb) (ht : t.length = 13) (hok : tabOk t = true) (HT : Turns b.F b.rcv b.tn) (hn : nb ≤ 1000000) (cl cy : Int) (hcy : inCy b.tn cy) :
    Calls Try.prog 20 #[.pointer (some ⟨pb, 0, none⟩), .int .i64 cl, .int .i64 cy] w (TakeB t a b w0 pa ba pb bb w na nb Ga Gb cl cy) := by
  refine (take_any h.rb ht hok HT h.gb hn cl cy hcy.c hcy.1 hcy.2).mono ?_
  rintro e w' ⟨r, rfl, hr, hB, hg⟩
  refine ⟨r, rfl, hr, ⟨h.ra.keep hg ?_, h.rb.keep hg ?_, h.ga.keep hg ?_, hB, Below.grown h.bel hg h.bel.size (fun k hk => by cases hk; exact h.lb), h.la, h.lb, h.d1, h.d2, h.d3⟩, hg⟩
  · have := h.d1; simpa using this
  · have := res_ne h.rb h.gb; simpa using this
  · have := h.d3; simpa using this
theorem Two.usedA (h : Two t a b w0 pa ba pb bb w na nb Ga Gb) (ht : t.length = 13) (HT : Turns a.F a.rcv a.tn) (cl cy : Int) (hcl : okI cl) (hcy : inCy a.tn cy) :
    Calls Try.prog 21 #[.pointer (some ⟨pa, 0, none⟩), .int .i64 cl, .int .i64 cy] w fun e w' => e = .returned (.int .i64 (Ga cl (a.tn cy))) ∧ Below w.heap.size w w' :=
  used_any h.ra ht HT h.ga cl cy hcl (inC_ok hcy.c) (by have := hcy.2; unfold okI; omega)
theorem Two.usedB (h : Two t a b w0 pa ba pb bb w na nb Ga Gb) (ht : t.length = 13) (HT : Turns b.F b.rcv b.tn) (cl cy : Int) (hcl : okI cl) (hcy : inCy b.tn cy) :
    Calls Try.prog 21 #[.pointer (some ⟨pb, 0, none⟩), .int .i64 cl, .int .i64 cy] w fun e w' => e = .returned (.int .i64 (Gb cl (b.tn cy))) ∧ Below w.heap.size w w' :=
  used_any h.rb ht HT h.gb cl cy hcl (inC_ok hcy.c) (by have := hcy.2; unfold okI; omega)
theorem Two.freeA (h : Two t a b w0 pa ba pb bb w na nb Ga Gb) (ht : t.length = 13) (hok : tabOk t = true) (HT : Turns a.F a.rcv a.tn) (cl cy : Int) (hcy : inCy a.tn cy) :
    Calls Try.prog 19 #[.pointer (some ⟨pa, 0, none⟩), .int .i64 cl, .int .i64 cy] w (FreeR t a.tn a.any Ga cl cy w) :=
  free_any h.ra ht hok HT h.ga cl cy hcy.c hcy.1 hcy.2
/-- Out of two new tables. -/
theorem two_new {w1 w2 : World} {e1 e2 : Ending} {ws : World} (hs : Below w0.heap.size w0 ws) (h1 : NewR t a.F a.rcv a.any ws e1 w1) (h2 : NewR t b.F b.rcv b.any w1 e2 w2) :
    ∃ pa ba pb bb, e1 = .returned (.tuple #[.pointer (some ⟨pa, 0, none⟩), .int .i64 0]) ∧ e2 = .returned (.tuple #[.pointer (some ⟨pb, 0, none⟩), .int .i64 0]) ∧ Two t a b w0 pa ba pb bb w2 0 0 (fun _ _ => 0) (fun _ _ => 0) ∧ (pa < w2.heap.size ∧ ba < w2.heap.size ∧ pb < w2.heap.size ∧ bb < w2.heap.size) := by
  obtain ⟨pa, ba, rfl, p1, p2, p3, p4, p5⟩ := h1
  obtain ⟨pb, bb, rfl, q1, q2, q3, q4, q5⟩ := h2
  have hpa := p3.lt
  obtain ⟨Da, hDa⟩ := p4.map
  have hba := hDa.1.lt
  have hpb := q3.lt
  obtain ⟨Db, hDb⟩ := q4.map
  have hbb := hDb.1.lt
  have s0 := hs.size
  have s1 := p5.size
  have s2 := q5.size
  exact ⟨pa, ba, pb, bb, rfl, rfl, ⟨p3.keep (row := none) (gb_of_below q5) (by simp), q3, p4.keep (row := none) (gb_of_below q5) (by simp), q4, btrans (btrans hs p5) q5, by omega, by omega, by omega, by omega, by omega⟩, by omega, by omega, by omega, by omega⟩
end Go.Proofs.Ytcibkoodnfkogaa
