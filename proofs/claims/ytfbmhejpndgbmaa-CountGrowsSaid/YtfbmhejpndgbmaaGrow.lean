/-
  The row of streams that CountGrows makes: what is known of it, through appends, stores, and the machines' own memory. No condition.
-/
import Derived.Test.YtfbmhejpndgbmaaEnv
import Derived.Test.YtfbmhejpndgbmaaCopy
import Derived.Test.YtfbmhejpndgbmaaOpen
namespace Go.Proofs.Ytfbmhejpndgbmaa
open Go.ChangeShapes Go.WideShapes Go.ChangeAt Go.RowKit Go.Deep Go.Joins

/-- In the midst of the law: the row of streams is the call's own. -/
structure Lg (w wr : World) (pc : Array Value) (B L q : Nat) (v : Value) (en : Bool) (e0 e1 e2 : Int) (N : Nat) (xs : List Int) : Prop where
  cur : Cur w wr pc
  lng : Lng wr q v en e0 e1 e2
  own : wr.ownsRow B 5 1 v N (b8 xs)
  ne : v.ownBlock ≠ some q
  wb : w.heap.size < B
  bq : B ≤ q
  ql : q < L
  vl : ∀ k, v.ownBlock = some k → k < L
  lw : L ≤ wr.heap.size

section
variable {w wr w' : World} {pc : Array Value} {B L q : Nat} {v : Value} {en : Bool} {e0 e1 e2 : Int} {N : Nat} {xs : List Int}

theorem Lng.grown {row : Option Nat} (h : Lng wr q v en e0 e1 e2) (hg : wr.grownBy w' row) (hne : some q ≠ row) : Lng w' q v en e0 e1 e2 := by
  obtain ⟨cur, hc, hr⟩ := h
  exact ⟨cur, hc.grown hg hne, hr⟩

theorem Lg.below (h : Lg w wr pc B L q v en e0 e1 e2 N xs) (hb : Below wr.heap.size wr w') : Lg w w' pc B L q v en e0 e1 e2 N xs :=
  ⟨h.cur.below hb, h.lng.grown (only_of_below hb none) (by simp), h.own.kept (only_of_below hb none) (by cases v.ownBlock <;> simp), h.ne, h.wb, h.bq, h.ql, h.vl, Nat.le_trans h.lw hb.size⟩

theorem Lg.only {g : Nat} (h : Lg w wr pc B L q v en e0 e1 e2 N xs) (hg : wr.grownBy w' (some g)) (hL : L ≤ g) : Lg w w' pc B L q v en e0 e1 e2 N xs :=
  ⟨h.cur.only hg (by have := h.wb; have := h.bq; have := h.ql; omega), h.lng.grown hg (by have := h.ql; intro e; injection e with e; omega),
    h.own.kept hg (.inr (by intro e; have := h.vl g e; omega)), h.ne, h.wb, h.bq, h.ql, h.vl, Nat.le_trans h.lw hg.size⟩

theorem Lg.put {i : Nat} {u : Value} {v' : Value} {en' : Bool} (h : Lg w wr pc B L q v en e0 e1 e2 N xs) (hi : (i = 1 ∧ v' = v ∧ u = .bool en')) :
    Lg w (wr.setCell ⟨q, i, none⟩ u) pc B L q v en' e0 e1 e2 N xs := by
  obtain ⟨rfl, rfl, rfl⟩ := hi
  have hg : wr.grownBy (wr.setCell ⟨q, 1, none⟩ (.bool en')) (some q) := only_setCell (only_refl _ _) (.inl rfl) _
  obtain ⟨cur, hc, h5, k0, k1, k2, k3, k4⟩ := h.lng
  refine ⟨h.cur.only hg (by have := h.wb; have := h.bq; omega), ⟨cur.setIfInBounds 1 (.bool en'), hc.put 1 _, by simpa using h5, ?_, ?_, ?_, ?_, ?_⟩, h.own.kept hg (.inr h.ne), h.ne, h.wb, h.bq, h.ql, h.vl, Nat.le_trans h.lw hg.size⟩
  · rw [Array.getElem?_setIfInBounds_ne (by omega)]; exact k0
  · rw [Array.getElem?_setIfInBounds_self_of_lt (by omega)]
  · rw [Array.getElem?_setIfInBounds_ne (by omega)]; exact k2
  · rw [Array.getElem?_setIfInBounds_ne (by omega)]; exact k3
  · rw [Array.getElem?_setIfInBounds_ne (by omega)]; exact k4

theorem Lg.append {w1 : World} {v1 : Value} {N2 : Nat} {ys : List Int} (h : Lg w wr pc B L q v en e0 e1 e2 N xs) (ho : w1.ownsRow B 5 1 v1 (N + N2) (b8 xs ++ b8 ys)) (hg : wr.grownBy w1 v.ownBlock) :
    Lg w (w1.setCell ⟨q, 0, none⟩ v1) pc B w1.heap.size q v1 en e0 e1 e2 (N + N2) (xs ++ ys) := by
  have hL := h.lng.grown hg (fun e => h.ne e.symm)
  obtain ⟨cur, hc, h5, k0, k1, k2, k3, k4⟩ := hL
  have hne := own_ne58 ho hc
  have hg2 : w1.grownBy (w1.setCell ⟨q, 0, none⟩ v1) (some q) := only_setCell (only_refl _ _) (.inl rfl) _
  have hwb := h.wb
  have hbq := h.bq
  have hC : Cur w w1 pc := ⟨h.cur.box.grown hg (by intro e; have := h.own.lt _ e.symm; omega), h.cur.b.grown hg h.cur.b.size (fun k hk => by have := h.own.lt _ hk; omega)⟩
  refine ⟨hC.only hg2 (by omega), ⟨cur.setIfInBounds 0 v1, hc.put 0 _, by simpa using h5, ?_, ?_, ?_, ?_, ?_⟩, ?_, hne, h.wb, h.bq, hc.lt, fun k hk => (ho.lt k hk).2, hg2.size⟩
  · rw [Array.getElem?_setIfInBounds_self_of_lt (by omega)]
  · rw [Array.getElem?_setIfInBounds_ne (by omega)]; exact k1
  · rw [Array.getElem?_setIfInBounds_ne (by omega)]; exact k2
  · rw [Array.getElem?_setIfInBounds_ne (by omega)]; exact k3
  · rw [Array.getElem?_setIfInBounds_ne (by omega)]; exact k4
  · have := ho.kept hg2 (.inr hne)
    simpa [b8, List.map_append] using this

theorem Lg.cells (h : Lg w wr pc B L q v en e0 e1 e2 N xs) : (wr.cell? ⟨q, 0, none⟩ = some v ∧ wr.cell? ⟨q, 1, none⟩ = some (.bool en) ∧ wr.cell? ⟨q, 2, none⟩ = some (.int .i64 e0)) ∧ (wr.frozen? ⟨q, 0, none⟩ = false ∧ wr.frozen? ⟨q, 1, none⟩ = false) := by
  obtain ⟨cur, hc, h5, k0, k1, k2, k3, k4⟩ := h.lng
  exact ⟨⟨(hc.cell 0).trans k0, (hc.cell 1).trans k1, (hc.cell 2).trans k2⟩, hc.free 0, hc.free 1⟩

/-- The row's stream, for the driver. -/
theorem Lg.in1 {g : Nat} (h : Lg w wr pc B L q v en e0 e1 e2 N xs) (hL : L ≤ g) (hl : xs.length = N) (h3 : N ≤ 3000) : ∃ X C, v = .slice X N C ∧ In1 wr g q 0 X N C en xs := by
  have hc := h.cells
  have hql := h.ql
  have hlw := h.lw
  rcases h.own.2 with ⟨h1, h2⟩ | ⟨xb, cap, cur, h1, hb, hh, hn, hm, hs, ht⟩
  · subst h1 h2
    exact ⟨none, 0, rfl, by omega, by omega, hc.1.1, hc.1.2.1, Nat.le_refl _, by unfold maxLen; omega, hl, by omega, .inl rfl⟩
  · subst h1
    have hxl := h.vl xb rfl
    refine ⟨_, cap, rfl, by omega, by omega, hc.1.1, hc.1.2.1, hn, hm, hl, h3, .inr ⟨xb, 0, rfl, by omega, by omega, fun i hi => ?_⟩⟩
    have := h.own.cellAt i (by omega)
    rw [Nat.zero_add, this, List.getElem?_map, List.getElem?_eq_getElem (by omega), List.getD_eq_getElem?_getD, List.getElem?_eq_getElem (by omega)]
    rfl
end

/-- The first of the rows of bytes that are handed in, if there is one. -/
def Mr (w : World) (M : Option Addr) (nm : Nat) : Prop :=
  nm = 0 ∨ ∃ b o X C ys, M = some ⟨b, o, none⟩ ∧ b < w.heap.size ∧ w.cell? ⟨b, o, none⟩ = some (.slice X (List.length ys) C) ∧ ys.length ≤ C ∧ C ≤ maxLen ∧ (X = none → ys.length = 0 ∧ C = 0) ∧ Rd w X ys.length ys

/-- The first of the marks that are handed in, if there is one. -/
def Mk (w : World) (M : Option Addr) (nm : Nat) : Prop := nm = 0 ∨ ∃ b o u, M = some ⟨b, o, none⟩ ∧ b < w.heap.size ∧ w.cell? ⟨b, o, none⟩ = some (.bool u)

theorem Mr.below {w w' : World} {M : Option Addr} {nm : Nat} (h : Mr w M nm) (hb : Below w.heap.size w w') : Mr w' M nm := by
  rcases h with h | ⟨b, o, X, C, ys, e, hl, hc, h1, h2, h3, h4⟩
  · exact .inl h
  · exact .inr ⟨b, o, X, C, ys, e, Nat.lt_of_lt_of_le hl hb.size, (hb.cell (p := ⟨b, o, none⟩) hl).trans hc, h1, h2, h3, h4.below hb⟩

theorem Mk.below {w w' : World} {M : Option Addr} {nm : Nat} (h : Mk w M nm) (hb : Below w.heap.size w w') : Mk w' M nm := by
  rcases h with h | ⟨b, o, u, e, hl, hc⟩
  · exact .inl h
  · exact .inr ⟨b, o, u, e, Nat.lt_of_lt_of_le hl hb.size, (hb.cell (p := ⟨b, o, none⟩) hl).trans hc⟩

section
variable {H : Type} {enc : TypeId × Value → H} {W : World}

theorem open_more {c : Value} {fuel : Nat} {y : DataW H × List MemPlace} (h : DataW.trod enc Try.prog W 0 (fun _ => true) true fuel 52 [c] = some y) :
    ∃ (M : Option Addr) (n cap : Nat), c = .slice M n cap ∧ n ≤ cap ∧ cap ≤ maxLen ∧ Mr W M n := by
  have k22 : Try.prog.cellsOf 22 = 1 := by kernel_rfl
  rcases open_slice Try.underlying52 h with ⟨hcs, _⟩ | ⟨a, len, cap, m, n, D, Pl, hcs, _, hl, hm, hmm, _, hi⟩
  · exact ⟨none, 0, 0, by simpa using hcs, by omega, by unfold maxLen; omega, .inl rfl⟩
  · rw [if_pos rfl] at hmm
    rw [k22] at hi
    refine ⟨some a, len, cap, by simpa using hcs, hl, hm, ?_⟩
    by_cases h0 : len = 0
    · exact .inl h0
    · obtain ⟨cs', hc, ht⟩ := hi 0 (by omega)
      obtain ⟨_, hlen, hat⟩ := World.cells?_some hc
      match cs', hlen with
      | [c0], _ =>
        obtain ⟨A, n', cap', ys, rfl, h1, h2, rfl, h4, h5⟩ := open_u8 ht
        have hz := hat 0 (by omega)
        have hspot : a.spot = none := by
          have := World.cell?_spot hz
          simpa [Addr.add] using this
        obtain ⟨b, o, sp⟩ := a
        simp only at hspot
        subst hspot
        rw [add_at, add_at] at hz
        simp only [Nat.zero_mul, Nat.add_zero] at hz
        exact .inr ⟨b, o, A, cap', ys, rfl, World.block_lt_of_cell? _ _ hz, hz, h1, h2, h5, h4⟩

theorem open_marks {c : Value} {fuel : Nat} {y : DataW H × List MemPlace} (h : DataW.trod enc Try.prog W 0 (fun _ => true) true fuel 53 [c] = some y) :
    ∃ (M : Option Addr) (n cap : Nat), c = .slice M n cap ∧ n ≤ cap ∧ cap ≤ maxLen ∧ Mk W M n := by
  have k4 : Try.prog.cellsOf 4 = 1 := by kernel_rfl
  rcases open_slice Try.underlying53 h with ⟨hcs, _⟩ | ⟨a, len, cap, m, n, D, Pl, hcs, _, hl, hm, hmm, _, hi⟩
  · exact ⟨none, 0, 0, by simpa using hcs, by omega, by unfold maxLen; omega, .inl rfl⟩
  · rw [if_pos rfl] at hmm
    rw [k4] at hi
    refine ⟨some a, len, cap, by simpa using hcs, hl, hm, ?_⟩
    by_cases h0 : len = 0
    · exact .inl h0
    · obtain ⟨cs', hc, ht⟩ := hi 0 (by omega)
      obtain ⟨_, hlen, hat⟩ := World.cells?_some hc
      match cs', hlen with
      | [c0], _ =>
        obtain ⟨u, hu, _⟩ := DataW.trod_bool Try.underlying4 ht
        have hz := hat 0 (by omega)
        have hspot : a.spot = none := by
          have := World.cell?_spot hz
          simpa [Addr.add] using this
        obtain ⟨b, o, sp⟩ := a
        simp only at hspot
        subst hspot
        rw [add_at, add_at] at hz
        simp only [Nat.zero_mul, Nat.add_zero] at hz
        simp only [List.cons.injEq, and_true] at hu
        subst hu
        exact .inr ⟨b, o, u, rfl, World.block_lt_of_cell? _ _ hz, hz⟩
end

end Go.Proofs.Ytfbmhejpndgbmaa
