/-
  What a law is handed, opened: parameters by value, streams, cuts; and the library's table out of the world's shape. No condition.
-/
import Derived.Test.YtfbmhejpndgbmaaEnv
import Derived.ProofKit
import Derived.OpenShut
import Derived.HandedShaped
import Derived.Deep.Slices
import Derived.Deep.Fields
import Derived.Lib.SmallJoins
namespace Go.Proofs.Ytfbmhejpndgbmaa
open Go.ChangeShapes Go.WideShapes Go.ChangeAt Go.RowKit Go.Deep Go.Joins

theorem cells5 : Try.prog.cellsOf 5 = 1 := by kernel_rfl
theorem cells3 : Try.prog.cellsOf 3 = 1 := by kernel_rfl
theorem cells58 : Try.prog.cellsOf 58 = 5 := by kernel_rfl
theorem cells24 : Try.prog.cellsOf 24 = 4 := by kernel_rfl

/-- The greatest uint64. -/
def top64 : Int := 18446744073709551615

theorem u64_nat {n : Int} (h : IntKind.u64.has n) : ∃ t : Nat, n = (t : Int) ∧ (t : Int) ≤ top64 := by
  have h1 : 0 ≤ n ∧ n ≤ 18446744073709551615 := by simpa [IntKind.has, IntKind.min, IntKind.max, IntKind.signed, IntKind.bits] using h
  exact ⟨n.toNat, by omega, by unfold top64; omega⟩

theorem cell_u64 {P : Program} {u : TypeId} (hu : P.underlying u = some (.int .u64)) {w : World} {v : Value} (h : Cell.ok P w .any 0 u v) : ∃ t : Nat, v = .int .u64 (t : Int) ∧ (t : Int) ≤ top64 := by
  unfold Cell.ok at h
  rw [hu] at h
  cases v
  case int k n =>
    obtain ⟨h1, h2⟩ := h
    subst h1
    obtain ⟨t, e, ht⟩ := u64_nat h2
    exact ⟨t, by rw [e], ht⟩
  all_goals exact h.elim

theorem le_top64 {t : Nat} (h : (t : Int) ≤ top64) : t ≤ 18446744073709551615 := by unfold top64 at h; omega

theorem row_shaped {P : Program} {w : World} {g n : Nat} {t u : TypeId} {zero : Array Value} (h : w.ShapedOpen P) (hg : g < P.globals.size)
    (h0 : ((begin P (fun _ _ => 0) default).world.heap[g]?).bind Obj.row? = some (zero, t)) (hz : zero.size = n)
    (hb : P.buildable t = true) (hc : P.cellTypes P.depth t = some (List.replicate n u)) (hu : P.underlying u = some (.int .u64)) :
    g < w.heap.size ∧ ∀ k, k < n → ∃ t : Nat, w.cell? ⟨g, k, none⟩ = some (.int .u64 (t : Int)) ∧ (t : Int) ≤ top64 := by
  obtain ⟨cs, hh, hs, hr⟩ := h.1 g zero t hg h0
  obtain ⟨ts, hts, _, hall⟩ := hr hb
  rw [hc] at hts
  cases hts
  have hsz : cs.size = n := by rw [hs, hz]
  refine ⟨(Array.getElem?_eq_some_iff.1 hh).1, fun k hk => ?_⟩
  have hk' : k < cs.size := by omega
  obtain ⟨u', hu', hok⟩ := hall k cs[k] (by simp [hk'])
  have hu2 : u' = u := by
    rw [List.length_replicate, Nat.mod_eq_of_lt hk, List.getElem?_replicate, if_pos hk] at hu'
    exact (Option.some.inj hu').symm
  rw [hu2] at hok
  have hcell : w.cell? ⟨g, k, none⟩ = some cs[k] := by simp [World.cell?, hh, hk']
  rw [hcell]
  obtain ⟨t, hn, ht⟩ := cell_u64 hu hok
  exact ⟨t, by rw [hn], ht⟩

theorem zero_tab : ((begin Try.prog (fun _ _ => 0) default).world.heap[1]?).bind Obj.row? = some (Array.replicate 20 (.int .u64 0), 165) := by kernel_rfl
theorem globals4 : Try.prog.globals.size = 4 := by kernel_rfl
theorem build165 : Try.prog.buildable 165 = true := by kernel_rfl
theorem cells165 : Try.prog.cellTypes Try.prog.depth 165 = some (List.replicate 20 120) := by kernel_rfl

/-- THE LIBRARY's TABLE: whatever numbers it holds, it holds twenty. -/
theorem tab_shaped {w : World} (h : w.ShapedOpen Try.prog) : ∃ T, Tab w T := by
  obtain ⟨hlt, key⟩ := row_shaped h (by rw [globals4]; omega) zero_tab (by simp) build165 cells165 Try.underlying120
  refine ⟨fun k => if hk : k < 20 then Classical.choose (key k hk) else 0, hlt, fun k hk => ?_⟩
  have e : (if hk : k < 20 then Classical.choose (key k hk) else 0) = Classical.choose (key k hk) := dif_pos hk
  show w.cell? ⟨1, k, none⟩ = some (.int .u64 (((if hk : k < 20 then Classical.choose (key k hk) else 0 : Nat)) : Int)) ∧ (if hk : k < 20 then Classical.choose (key k hk) else 0) ≤ 18446744073709551615
  rw [e]
  exact ⟨(Classical.choose_spec (key k hk)).1, le_top64 (Classical.choose_spec (key k hk)).2⟩

section
variable {H : Type} {enc : TypeId × Value → H} {W : World}

theorem getD_take (zs : List Int) (n i : Nat) (h : i < n) : (zs.take n).getD i 0 = zs.getD i 0 := by
  rw [List.getD_eq_getElem?_getD, List.getD_eq_getElem?_getD, List.getElem?_take, if_pos h]

/-- Bytes. -/
theorem open_u8 {c : Value} {fuel : Nat} {y : DataW H × List MemPlace} (h : DataW.trod enc Try.prog W 0 (fun _ => true) true fuel 22 [c] = some y) :
    ∃ (A : Option Addr) (n cap : Nat) (xs : List Int), c = .slice A n cap ∧ n ≤ cap ∧ cap ≤ maxLen ∧ xs.length = n ∧
      (n = 0 ∨ ∃ b o, A = some ⟨b, o, none⟩ ∧ b < W.heap.size ∧ ∀ i, i < n → W.cell? ⟨b, o + i, none⟩ = some (.int .u8 (xs.getD i 0))) ∧ (A = none → n = 0 ∧ cap = 0) := by
  rcases open_ints Try.underlying22 Try.underlying5 cells5 h with ⟨hcs, _⟩ | ⟨a, len, cap, zs, hcs, _, hl, hm, hz, _, hc, _⟩
  · exact ⟨none, 0, 0, [], by simpa using hcs, by omega, by unfold maxLen; omega, rfl, .inl rfl, fun _ => ⟨rfl, rfl⟩⟩
  · rw [if_pos rfl] at hz
    refine ⟨some a, len, cap, zs.take len, by simpa using hcs, hl, hm, by rw [List.length_take]; omega, ?_, fun h => by cases h⟩
    by_cases h0 : len = 0
    · exact .inl h0
    · obtain ⟨b, o, rfl, hc'⟩ := ints_at hc (by omega)
      refine .inr ⟨b, o, rfl, World.block_lt_of_cell? _ _ (hc' 0 (by omega)), fun i hi => ?_⟩
      rw [getD_take zs len i hi]
      exact hc' i (by omega)

/-- Integers. -/
theorem open_i64 {c : Value} {fuel : Nat} {y : DataW H × List MemPlace} (h : DataW.trod enc Try.prog W 0 (fun _ => true) true fuel 26 [c] = some y) :
    ∃ (A : Option Addr) (n cap : Nat) (z : Nat → Int), c = .slice A n cap ∧ n ≤ cap ∧ cap ≤ maxLen ∧ Zs W A n z := by
  rcases open_ints Try.underlying26 Try.underlying3 cells3 h with ⟨hcs, _⟩ | ⟨a, len, cap, zs, hcs, _, hl, hm, hz, _, hc, hw⟩
  · exact ⟨none, 0, 0, fun _ => 0, by simpa using hcs, by omega, by unfold maxLen; omega, .inl rfl⟩
  · rw [if_pos rfl] at hz
    refine ⟨some a, len, cap, fun i => zs.getD i 0, by simpa using hcs, hl, hm, ?_⟩
    by_cases h0 : len = 0
    · exact .inl h0
    · obtain ⟨b, o, rfl, hc'⟩ := ints_at hc (by omega)
      refine .inr ⟨b, o, rfl, World.block_lt_of_cell? _ _ (hc' 0 (by omega)), fun i hi => ⟨hc' i (by omega), ?_⟩⟩
      have hb := bounds_i64 (hw (zs.getD i 0) (by rw [List.getD_eq_getElem?_getD, List.getElem?_eq_getElem (by omega)]; exact List.getElem_mem _))
      exact hb

/-- A stream's five cells. -/
theorem open_stream {cs : List Value} {fuel : Nat} {y : DataW H × List MemPlace} (hl : cs.length = 5) (h : DataW.trod enc Try.prog W 0 (fun _ => true) true fuel 58 cs = some y) :
    ∃ (A : Option Addr) (n cap : Nat) (xs : List Int) (en : Bool) (e0 e1 e2 : Int), cs = [.slice A n cap, .bool en, .int .i64 e0, .int .i64 e1, .int .i64 e2] ∧ n ≤ cap ∧ cap ≤ maxLen ∧ xs.length = n ∧
      (n = 0 ∨ ∃ b o, A = some ⟨b, o, none⟩ ∧ b < W.heap.size ∧ ∀ i, i < n → W.cell? ⟨b, o + i, none⟩ = some (.int .u8 (xs.getD i 0))) ∧ (A = none → n = 0 ∧ cap = 0) := by
  match cs, hl with
  | [c0, c1, c2, c3, c4], _ =>
    obtain ⟨ys, m, _, _, _, hys, hf⟩ := DataW.trod_struct Try.underlying58 h
    have k22 : Try.prog.cellsOf 22 = 1 := by kernel_rfl
    have k4 : Try.prog.cellsOf 4 = 1 := by kernel_rfl
    have k56 : Try.prog.cellsOf 56 = 3 := by kernel_rfl
    have k32 : Try.prog.cellsOf 32 = 1 := by kernel_rfl
    match ys, hys with
    | [y0, y1, y2], _ =>
      have g0 : DataW.trod enc Try.prog W 0 (fun _ => true) true m 22 [c0] = some y0 := by simpa [k22] using hf 0 _ rfl
      have g1 : DataW.trod enc Try.prog W 0 (fun _ => true) true m 4 [c1] = some y1 := by simpa [k4] using hf 1 _ rfl
      have g2 : DataW.trod enc Try.prog W 0 (fun _ => true) true m 56 [c2, c3, c4] = some y2 := by simpa [k56] using hf 2 _ rfl
      obtain ⟨A, n, cap, xs, rfl, h1, h2, h3, h4, h5⟩ := open_u8 g0
      obtain ⟨en, hen, _⟩ := DataW.trod_bool Try.underlying4 g1
      obtain ⟨zs, m2, _, _, _, hzs, hf2⟩ := DataW.trod_struct Try.underlying56 g2
      match zs, hzs with
      | [z0, z1, z2], _ =>
        have q0 : DataW.trod enc Try.prog W 0 (fun _ => true) true m2 32 [c2] = some z0 := by simpa [k32] using hf2 0 _ rfl
        have q1 : DataW.trod enc Try.prog W 0 (fun _ => true) true m2 3 [c3] = some z1 := by simpa [cells3] using hf2 1 _ rfl
        have q2 : DataW.trod enc Try.prog W 0 (fun _ => true) true m2 3 [c4] = some z2 := by simpa [cells3] using hf2 2 _ rfl
        obtain ⟨e0, he0, _⟩ := DataW.trod_int Try.underlying32 q0
        obtain ⟨e1, he1, _⟩ := DataW.trod_int Try.underlying3 q1
        obtain ⟨e2, he2, _⟩ := DataW.trod_int Try.underlying3 q2
        simp only [List.cons.injEq, and_true] at hen he0 he1 he2
        subst hen he0 he1 he2
        exact ⟨A, n, cap, xs, en, e0, e1, e2, rfl, h1, h2, h3, h4, h5⟩

/-- What else a stream bears: its error's three numbers. -/
def StrE (w : World) (S : Option Addr) (ns : Nat) (X : Nat → Option Addr) (C : Nat → Nat) (E0 E1 E2 : Nat → Int) : Prop :=
  ns = 0 ∨ ∃ b o, S = some ⟨b, o, none⟩ ∧ b < w.heap.size ∧ ∀ k, k < ns →
    w.cell? ⟨b, o + k * 5 + 2, none⟩ = some (.int .i64 (E0 k)) ∧ w.cell? ⟨b, o + k * 5 + 3, none⟩ = some (.int .i64 (E1 k)) ∧ w.cell? ⟨b, o + k * 5 + 4, none⟩ = some (.int .i64 (E2 k)) ∧ (X k = none → C k = 0)

/-- Streams. -/
theorem open_streams {c : Value} {fuel : Nat} {y : DataW H × List MemPlace} (h : DataW.trod enc Try.prog W 0 (fun _ => true) true fuel 25 [c] = some y) :
    ∃ (S : Option Addr) (ns cs : Nat) (X : Nat → Option Addr) (N C : Nat → Nat) (en : Nat → Bool) (xs : Nat → List Int) (E0 E1 E2 : Nat → Int), c = .slice S ns cs ∧ ns ≤ cs ∧ cs ≤ maxLen ∧ Str W S ns X N C en xs ∧ StrE W S ns X C E0 E1 E2 := by
  rcases open_slice Try.underlying25 h with ⟨hcs, _⟩ | ⟨a, len, cap, m, n, D, Pl, hcs, _, hl, hm, hmm, _, hi⟩
  · exact ⟨none, 0, 0, fun _ => none, fun _ => 0, fun _ => 0, fun _ => false, fun _ => [], fun _ => 0, fun _ => 0, fun _ => 0, by simpa using hcs, by omega, by unfold maxLen; omega, .inl rfl, .inl rfl⟩
  · rw [if_pos rfl] at hmm
    rw [cells58] at hi
    have key : ∀ k : Fin len, ∃ (x : Option Addr × Nat × Nat × Bool × List Int × Int × Int × Int),
        (∀ j u, [Value.slice x.1 x.2.1 x.2.2.1, .bool x.2.2.2.1, .int .i64 x.2.2.2.2.2.1, .int .i64 x.2.2.2.2.2.2.1, .int .i64 x.2.2.2.2.2.2.2][j]? = some u → W.cell? ((a.add (k.val * 5)).add j) = some u) ∧ x.2.1 ≤ x.2.2.1 ∧ x.2.2.1 ≤ maxLen ∧ x.2.2.2.2.1.length = x.2.1 ∧
          (x.2.1 = 0 ∨ ∃ b o, x.1 = some ⟨b, o, none⟩ ∧ b < W.heap.size ∧ ∀ i, i < x.2.1 → W.cell? ⟨b, o + i, none⟩ = some (.int .u8 (x.2.2.2.2.1.getD i 0))) ∧ (x.1 = none → x.2.1 = 0 ∧ x.2.2.1 = 0) := by
      intro k
      obtain ⟨cs', hc, ht⟩ := hi k.val (by have := k.isLt; omega)
      obtain ⟨_, hlen, hat⟩ := World.cells?_some hc
      obtain ⟨A, n', cap', xs, en, e0, e1, e2, rfl, h1, h2, h3, h4, h5⟩ := open_stream hlen ht
      exact ⟨(A, n', cap', en, xs, e0, e1, e2), fun j u hj => by
        have hj5 : j < 5 := by
          have := (List.getElem?_eq_some_iff.1 hj).1
          simpa using this
        rw [hat j hj5]
        exact hj, h1, h2, h3, h4, h5⟩
    have hF := Classical.axiomOfChoice key
    obtain ⟨F, hF⟩ := hF
    by_cases h0 : len = 0
    · subst h0
      exact ⟨some a, 0, cap, fun _ => none, fun _ => 0, fun _ => 0, fun _ => false, fun _ => [], fun _ => 0, fun _ => 0, fun _ => 0, by simpa using hcs, by omega, hm, .inl rfl, .inl rfl⟩
    · have hs0 := (hF ⟨0, by omega⟩).1 0 _ rfl
      have hspot : a.spot = none := by
        have := World.cell?_spot hs0
        simpa [Addr.add] using this
      obtain ⟨b, o, sp⟩ := a
      simp only at hspot
      subst hspot
      let G : Nat → Option Addr × Nat × Nat × Bool × List Int × Int × Int × Int := fun k => if hk : k < len then F ⟨k, hk⟩ else (none, 0, 0, false, [], 0, 0, 0)
      have hG : ∀ k (hk : k < len), G k = F ⟨k, hk⟩ := fun k hk => dif_pos hk
      have hbl : b < W.heap.size := by
        have := World.block_lt_of_cell? _ _ hs0
        simpa [add_off] using this
      refine ⟨some ⟨b, o, none⟩, len, cap, fun k => (G k).1, fun k => (G k).2.1, fun k => (G k).2.2.1, fun k => (G k).2.2.2.1, fun k => (G k).2.2.2.2.1, fun k => (G k).2.2.2.2.2.1, fun k => (G k).2.2.2.2.2.2.1, fun k => (G k).2.2.2.2.2.2.2, by simpa using hcs, hl, hm,
        .inr ⟨b, o, rfl, hbl, fun k hk => ?_⟩, .inr ⟨b, o, rfl, hbl, fun k hk => ?_⟩⟩
      · dsimp only
        rw [hG k hk]
        obtain ⟨hc, h1, h2, h3, h4, _⟩ := hF ⟨k, hk⟩
        have a0 := hc 0 _ rfl
        have a1 := hc 1 _ rfl
        rw [add_off, add_off] at a0 a1
        exact ⟨a0, a1, h1, h2, h3, h4⟩
      · dsimp only
        rw [hG k hk]
        obtain ⟨hc, _, _, _, _, h5⟩ := hF ⟨k, hk⟩
        have a2 := hc 2 _ rfl
        have a3 := hc 3 _ rfl
        have a4 := hc 4 _ rfl
        rw [add_off, add_off] at a2 a3 a4
        exact ⟨a2, a3, a4, fun h => (h5 h).2⟩

set_option maxRecDepth 100000 in
/-- Parameters by value. -/
theorem open_par {v : Value} {d : DataW H} {ps : List MemPlace} {b0 : Nat} (hv : Value.okWide Try.prog W .any b0 24 v) (h : DataW.Trod enc Try.prog W 0 (fun _ => true) true 24 v d ps) :
    ∃ (k n : Int) (A B : Option Addr) (la ca lb cb : Nat) (f : Nat → Int), v = par k n A la ca B lb cb ∧ la ≤ maxLen ∧ lb ≤ maxLen ∧ Bs W A la f := by
  obtain ⟨c0, c1, c2, c3, y0, y1, y2, y3, m, rfl, _, _, h0, h1, h2, h3⟩ := open_agg4 Try.underlying24 (by kernel_rfl) cells24 hv h
  obtain ⟨k, e0, _⟩ := DataW.trod_int Try.underlying3 h0
  obtain ⟨n, e1, _⟩ := DataW.trod_int Try.underlying3 h1
  obtain ⟨A, la, ca, xs, rfl, p1, p2, _, p4, _⟩ := open_u8 h2
  obtain ⟨B, lb, cb, ys, rfl, q1, q2, _, _⟩ := open_u8 h3
  simp only [List.cons.injEq, and_true] at e0 e1
  subst e0 e1
  exact ⟨k, n, A, B, la, ca, lb, cb, fun i => xs.getD i 0, rfl, by omega, by omega, p4⟩
end

end Go.Proofs.Ytfbmhejpndgbmaa
