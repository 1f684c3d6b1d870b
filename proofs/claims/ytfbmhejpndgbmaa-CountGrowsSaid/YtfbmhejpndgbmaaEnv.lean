/-
  What the laws hand in, as it can be read, and that it stays so behind whatever leaves old memory alone. No condition.
-/
import Derived.Test.YtfbmhejpndgbmaaAwake
namespace Go.Proofs.Ytfbmhejpndgbmaa
open Go.RowKit

/-- ns streams can be read from S on. -/
def Str (w : World) (S : Option Addr) (ns : Nat) (X : Nat → Option Addr) (N C : Nat → Nat) (en : Nat → Bool) (xs : Nat → List Int) : Prop :=
  ns = 0 ∨ ∃ b o, S = some ⟨b, o, none⟩ ∧ b < w.heap.size ∧ ∀ k, k < ns →
    w.cell? ⟨b, o + k * 5, none⟩ = some (.slice (X k) (N k) (C k)) ∧ w.cell? ⟨b, o + k * 5 + 1, none⟩ = some (.bool (en k)) ∧ N k ≤ C k ∧ C k ≤ maxLen ∧ (xs k).length = N k ∧
    (N k = 0 ∨ ∃ xb xo, X k = some ⟨xb, xo, none⟩ ∧ xb < w.heap.size ∧ ∀ i, i < N k → w.cell? ⟨xb, xo + i, none⟩ = some (.int .u8 ((xs k).getD i 0)))

section
variable {w w' : World} {S : Option Addr} {ns : Nat} {X : Nat → Option Addr} {N C : Nat → Nat} {en : Nat → Bool} {xs : Nat → List Int}

theorem Str.below (h : Str w S ns X N C en xs) (hb : Below w.heap.size w w') : Str w' S ns X N C en xs := by
  rcases h with h | ⟨b, o, e, hlt, hc⟩
  · exact .inl h
  · refine .inr ⟨b, o, e, Nat.lt_of_lt_of_le hlt hb.size, fun k hk => ?_⟩
    obtain ⟨h1, h2, h3, h4, h5, h6⟩ := hc k hk
    refine ⟨(hb.cell (p := ⟨b, o + k * 5, none⟩) hlt).trans h1, (hb.cell (p := ⟨b, o + k * 5 + 1, none⟩) hlt).trans h2, h3, h4, h5, ?_⟩
    rcases h6 with h6 | ⟨xb, xo, hx, hl, hcc⟩
    · exact .inl h6
    · exact .inr ⟨xb, xo, hx, Nat.lt_of_lt_of_le hl hb.size, fun i hi => (hb.cell (p := ⟨xb, xo + i, none⟩) hl).trans (hcc i hi)⟩

theorem Str.sts (h : Str w S ns X N C en xs) : Sts w S ns X N C := by
  rcases h with h | ⟨b, o, e, hlt, hc⟩
  · exact .inl h
  · exact .inr ⟨b, o, e, hlt, fun k hk => ⟨(hc k hk).1, by have := (hc k hk).2.2.1; have := (hc k hk).2.2.2.1; omega⟩⟩

end

/-- The first stream, for the driver: the machine lies in a block that is newer than the streams. -/
theorem Str.in1_new {w w' : World} {S : Option Addr} {ns : Nat} {X : Nat → Option Addr} {N C : Nat → Nat} {en : Nat → Bool} {xs : Nat → List Int} (h : Str w S ns X N C en xs) (h1 : ns = 1) (h2 : N 0 ≤ 2000)
    (hb : Below w.heap.size w w') {gm : Nat} (hg : w.heap.size ≤ gm) : ∃ sb so, S = some ⟨sb, so, none⟩ ∧ In1 w' gm sb so (X 0) (N 0) (C 0) (en 0) (xs 0) := by
  rcases h with h | ⟨b, o, e, hlt, hc⟩
  · omega
  · obtain ⟨k1, k2, k3, k4, k5, k6⟩ := hc 0 (by omega)
    simp only [Nat.zero_mul, Nat.add_zero] at k1 k2
    refine ⟨b, o, e, ⟨Nat.lt_of_lt_of_le hlt hb.size, by omega, (hb.cell (p := ⟨b, o, none⟩) hlt).trans k1, (hb.cell (p := ⟨b, o + 1, none⟩) hlt).trans k2, k3, k4, k5, Nat.le_trans h2 (by omega), ?_⟩⟩
    rcases k6 with k6 | ⟨xb, xo, hx, hl, hcc⟩
    · exact .inl k6
    · exact .inr ⟨xb, xo, hx, Nat.lt_of_lt_of_le hl hb.size, by omega, fun i hi => (hb.cell (p := ⟨xb, xo + i, none⟩) hl).trans (hcc i hi)⟩

theorem Zs.new {w w' : World} {Y : Option Addr} {m : Nat} {z : Nat → Int} (h : Zs w Y m z) (hb : Below w.heap.size w w') {gm : Nat} (hg : w.heap.size ≤ gm) : Cuts w' gm Y m z := by
  rcases h with h | ⟨b, o, e, hlt, hc⟩
  · exact .inl h
  · exact .inr ⟨b, o, e, Nat.lt_of_lt_of_le hlt hb.size, by omega, fun k hk => ⟨(hb.cell (p := ⟨b, o + k, none⟩) hlt).trans (hc k hk).1, (hc k hk).2⟩⟩

/-- All that a law was handed, as it can be read. -/
structure Env (A : Option Addr) (la : Nat) (f : Nat → Int) (S : Option Addr) (ns : Nat) (X : Nat → Option Addr) (N C : Nat → Nat) (en : Nat → Bool) (xs : Nat → List Int) (T : Nat → Nat) (w : World) : Prop where
  a : Bs w A la f
  s : Str w S ns X N C en xs
  t : Tab w T

theorem Env.below {A : Option Addr} {la : Nat} {f : Nat → Int} {S : Option Addr} {ns : Nat} {X : Nat → Option Addr} {N C : Nat → Nat} {en : Nat → Bool} {xs : Nat → List Int} {T : Nat → Nat} {w w' : World}
    (h : Env A la f S ns X N C en xs T w) (hb : Below w.heap.size w w') : Env A la f S ns X N C en xs T w' := ⟨h.a.below hb, h.s.below hb, h.t.below hb⟩

/-- In the midst of a law: the box of the parameters, and old memory as it was. -/
structure Cur (w wc : World) (pc : Array Value) : Prop where
  box : Has wc w.heap.size 24 pc
  b : Below w.heap.size w wc

theorem Cur.start (w : World) (pc : Array Value) : Cur w (w.alloc (.cells pc 24)) pc := ⟨Has.made _ _ _, box_below w _⟩
theorem Cur.below {w wc w' : World} {pc : Array Value} (h : Cur w wc pc) (hb : Below wc.heap.size wc w') : Cur w w' pc :=
  ⟨h.box.below hb h.box.lt, h.b.trans (hb.mono h.b.size)⟩
theorem Cur.alloc {w wc : World} {pc : Array Value} (h : Cur w wc pc) (o : Obj) : Cur w (wc.alloc o) pc := h.below (box_below wc o)
theorem Cur.only {w wc w' : World} {pc : Array Value} {g : Nat} (h : Cur w wc pc) (hg : wc.grownBy w' (some g)) (hlt : w.heap.size < g) : Cur w w' pc :=
  ⟨h.box.grown hg (by intro e; injection e with e; omega), h.b.grown hg h.b.size (fun k hk => by injection hk with hk; omega)⟩

/-- One list of cuts, in the array that is made for the call. -/
theorem cts_one {w : World} {Y : Option Addr} {m c : Nat} (hm : m ≤ maxLen) : Cts (w.alloc (.cells #[.slice Y m c] 26)) w.heap.size 0 1 (fun _ => Y) (fun _ => m) (fun _ => c) :=
  ⟨(Has.made w 26 #[.slice Y m c]).lt, fun k hk => ⟨by
    rw [(Has.made w 26 #[.slice Y m c]).cell]
    match k, hk with
    | 0, _ => rfl, hm⟩⟩

/-- Two lists of cuts, in the array that is made for the call. -/
theorem cts_two {w : World} {Y Y2 : Option Addr} {m c m2 c2 : Nat} (hm : m ≤ maxLen) (hm2 : m2 ≤ maxLen) :
    Cts (w.alloc (.cells #[.slice Y m c, .slice Y2 m2 c2] 26)) w.heap.size 0 2 (fun k => if k = 0 then Y else Y2) (fun k => if k = 0 then m else m2) (fun k => if k = 0 then c else c2) :=
  ⟨(Has.made w 26 #[.slice Y m c, .slice Y2 m2 c2]).lt, fun k hk => ⟨by
    rw [(Has.made w 26 #[.slice Y m c, .slice Y2 m2 c2]).cell]
    match k, hk with
    | 0, _ => rfl
    | 1, _ => rfl, by show (if k = 0 then m else m2) ≤ maxLen; split <;> assumption⟩⟩

/-- A law's end: true, old memory as it was. -/
def Truth (w : World) (e : Ending) (w' : World) : Prop := e = .returned (.bool true) ∧ Below w.heap.size w w'

theorem Cur.truth {w wc w' : World} {pc : Array Value} (h : Cur w wc pc) (hb : Below wc.heap.size wc w') : Truth w (.returned (.bool true)) w' := ⟨rfl, (h.below hb).b⟩

end Go.Proofs.Ytfbmhejpndgbmaa
