/-
  Contracts of Copy at one stream, and of Begins. Conditions: the stream's five cells and its bytes are known.
-/
import Derived.Test.YtfbmhejpndgbmaaTell
import Derived.Test.YtfbmhejpndgbmaaNew
import Derived.Lib.ItoaWalk
import Derived.Deep.DeepMust
import Derived.Laws.AppendOwnNone
namespace Go.Proofs.Ytfbmhejpndgbmaa
open Go.RowKit

theorem begins_ok (a b : ByteArray) (h : a = b ∨ a = ⟨#[]⟩) (w : World) :
    Calls Try.prog 20 #[.string a, .string b] w (fun e w' => e = .returned (.bool true) ∧ ∃ n, w' = w.drewN n) := by
  rcases h with rfl | rfl
  all_goals
    go_enter Try.func20, Try.ntmps20
    go_wp2
    go_ret
    exact ⟨rfl, 0, rfl⟩

/-- A row of streams of the call's own: its one stream's five cells. -/
def Lng (w : World) (q : Nat) (v : Value) (en : Bool) (e0 e1 e2 : Int) : Prop :=
  ∃ cur, Has w q 58 cur ∧ 5 ≤ cur.size ∧ cur[0]? = some v ∧ cur[1]? = some (.bool en) ∧ cur[2]? = some (.int .i64 e0) ∧ cur[3]? = some (.int .i64 e1) ∧ cur[4]? = some (.int .i64 e2)

theorem info58 : (Try.prog.info? 58).map (fun i => (i.zero, i.size, i.bytes)) = some (some (.agg #[.slice none 0 0, .bool false, .int .i64 0, .int .i64 0, .int .i64 0]), 5, 56) := by kernel_rfl

theorem lng_of_own {w : World} {base : Nat} {v3 v : Value} {en : Bool} {e0 e1 e2 : Int} (h : w.ownsRow base 58 5 v3 1 [v, .bool en, .int .i64 e0, .int .i64 e1, .int .i64 e2]) :
    ∃ q cap, v3 = .slice (some ⟨q, 0, none⟩) 1 cap ∧ base ≤ q ∧ Lng w q v en e0 e1 e2 := by
  rcases h.2 with ⟨_, h2⟩ | ⟨q, cap, cur, h1, hb, hh, hn, _, hs, ht⟩
  · omega
  · have key : ∀ i, i < 5 → cur[i]? = [v, Value.bool en, .int .i64 e0, .int .i64 e1, .int .i64 e2][i]? := fun i hi => by
      rw [← ht, List.getElem?_take, if_pos (by omega), Array.getElem?_toList]
    exact ⟨q, cap, h1, hb, cur, hh, by omega, key 0 (by omega), key 1 (by omega), key 2 (by omega), key 3 (by omega), key 4 (by omega)⟩

theorem own_ne58 {w : World} {base n q : Nat} {v : Value} {ys : List Value} {cur : Array Value} (h : w.ownsRow base 5 1 v n ys) (hL : Has w q 58 cur) : v.ownBlock ≠ some q := by
  rcases h.2 with ⟨h1, _⟩ | ⟨g, cap, cur', h1, _, hh, _⟩
  · rw [h1]; simp [Value.ownBlock]
  · rw [h1]
    intro e
    have e' : g = q := by simpa [Value.ownBlock] using e
    subst e'
    unfold Has at hL
    rw [hL] at hh
    injection hh with hh
    injection hh with _ h58
    exact absurd h58 (by decide)

/-- Bytes as cells. -/
abbrev b8 (xs : List Int) : List Value := xs.map fun x => Value.int .u8 x

theorem add_at (b o j : Nat) : (⟨b, o, none⟩ : Addr).add j = ⟨b, o + j, none⟩ := by
  unfold Addr.add
  split <;> simp_all

/-- Bytes that can be read from X on. -/
def Rd (w : World) (X : Option Addr) (N : Nat) (xs : List Int) : Prop :=
  N = 0 ∨ ∃ xb xo, X = some ⟨xb, xo, none⟩ ∧ xb < w.heap.size ∧ ∀ i, i < N → w.cell? ⟨xb, xo + i, none⟩ = some (.int .u8 (xs.getD i 0))

theorem Rd.below {w w' : World} {X : Option Addr} {N : Nat} {xs : List Int} (h : Rd w X N xs) (hb : Below w.heap.size w w') : Rd w' X N xs := by
  rcases h with h | ⟨xb, xo, e, hl, hc⟩
  · exact .inl h
  · exact .inr ⟨xb, xo, e, Nat.lt_of_lt_of_le hl hb.size, fun i hi => (hb.cell (p := ⟨xb, xo + i, none⟩) hl).trans (hc i hi)⟩

theorem b8_cells {w : World} {ad : Addr} {N : Nat} {xs : List Int} (hl : xs.length = N) (h : Rd w (some ad) N xs) : ∀ j u, (b8 xs)[j]? = some u → w.cell? (ad.add j) = some u := by
  intro j u hj
  have hjl : j < N := by
    have := (List.getElem?_eq_some_iff.1 hj).1
    simpa [hl] using this
  rcases h with h | ⟨xb, xo, e, _, hc⟩
  · omega
  · injection e with e
    rw [e, add_at, hc j hjl, ← hj, List.getElem?_map, List.getElem?_eq_getElem (by omega), List.getD_eq_getElem?_getD, List.getElem?_eq_getElem (by omega)]
    rfl

/-- append of bytes, nil or not, to bytes of the call's own. -/
theorem wpList_append_bytes {w : World} {ops : Array Oper} {rest : List Oper} {o : Oper} {a : Act} {Q : Exit → Act → World → Prop} (hgd : o.guard = none) (s x : Operand)
    (ho : o.op = .call { callee := .builtin .append, args := #[s, x], argTypes := #[22, 22] }) (base : Nat) (v : Value) (n : Nat) (ys : List Value) (hs : a.eval s = v) (hown : w.ownsRow base 5 1 v n ys)
    (X : Option Addr) (N C : Nat) (xs : List Int) (hx : a.eval x = .slice X N C) (hl : xs.length = N) (h0 : X = none → N = 0 ∧ C = 0) (hr : Rd w X N xs) (h63 : n + N ≤ 4000) (hbase : base ≤ w.heap.size)
    (h : ∀ v' w', w'.ownsRow base 5 1 v' (n + N) (ys ++ b8 xs) → w.grownBy w' v.ownBlock → wpList Try.prog ops Q rest (a.put o.dst v') w') : wpList Try.prog ops Q (o :: rest) a w := by
  obtain ⟨i0, hi0, hq0, hq1, hq2⟩ := info_parts info5
  cases X with
  | none =>
    obtain ⟨rfl, rfl⟩ := h0 rfl
    obtain rfl : xs = [] := List.eq_nil_of_length_eq_zero hl
    exact wpList_append_own_none hgd s x 22 ho base 5 i0 1 Try.underlying22 hi0 v n ys hs hown hx (h v w (by simpa using hown) (World.grownBy.refl _ _))
  | some ad =>
    exact wpList_append_own w hgd s x 22 ho base 5 i0 (.int .u8 0) 1 1 Try.underlying22 hi0 hq0 hq1 hq2 rfl (by decide) v n ys hs hown ad N C (b8 xs) hx (by simp [hl]) (b8_cells hl hr)
      (by intro u hu; simp at hu; obtain ⟨_, _, rfl⟩ := hu; rfl) (by unfold maxLen; omega) (by omega) hbase (fun v' w' h1 h2 _ => h v' w' h1 h2)

theorem own_slice {w : World} {base e size n : Nat} {v : Value} {ys : List Value} (h : w.ownsRow base e size v n ys) : ∃ A c, v = .slice A n c := by
  rcases h.2 with ⟨h1, h2⟩ | ⟨g, cap, cur, h1, _⟩
  · exact ⟨none, 0, by rw [h1, h2]⟩
  · exact ⟨_, _, h1⟩

/-- What Copy comes to at one stream. -/
def CopyEnd (w : World) (N : Nat) (en : Bool) (xs : List Int) (e0 e1 e2 : Int) (e : Ending) (w' : World) : Prop :=
  ∃ q cap v, e = .returned (.slice (some ⟨q, 0, none⟩) 1 cap) ∧ w.heap.size ≤ q ∧ Below w.heap.size w w' ∧ Lng w' q v en e0 e1 e2 ∧ w'.ownsRow w.heap.size 5 1 v N (b8 xs) ∧ v.ownBlock ≠ some q

/-- Between two rounds. -/
def CopyAt (w : World) (N : Nat) (en : Bool) (xs : List Int) (e0 e1 e2 : Int) (j : Nat) (o i : Value) (wr : World) : Prop :=
  (j = 1 ∧ o = .slice none 0 0 ∧ i = .int .i64 0 ∧ wr = w) ∨
  (j = 0 ∧ i = .int .i64 1 ∧ ∃ q cap v, o = .slice (some ⟨q, 0, none⟩) 1 cap ∧ w.heap.size ≤ q ∧ Below w.heap.size w wr ∧ Lng wr q v en e0 e1 e2 ∧ wr.ownsRow w.heap.size 5 1 v N (b8 xs) ∧ v.ownBlock ≠ some q)

set_option maxRecDepth 100000 in
set_option maxHeartbeats 1000000 in
theorem copy_one (sb so cs N C : Nat) (X : Option Addr) (en : Bool) (xs : List Int) (e0 e1 e2 : Int) (w : World) (hsb : sb < w.heap.size)
    (h0 : w.cell? ⟨sb, so, none⟩ = some (.slice X N C)) (h1 : w.cell? ⟨sb, so + 1, none⟩ = some (.bool en)) (h2 : w.cell? ⟨sb, so + 2, none⟩ = some (.int .i64 e0))
    (h3 : w.cell? ⟨sb, so + 3, none⟩ = some (.int .i64 e1)) (h4 : w.cell? ⟨sb, so + 4, none⟩ = some (.int .i64 e2)) (hx0 : X = none → N = 0 ∧ C = 0) (hlen : xs.length = N) (hN : N ≤ 2000)
    (hx : Rd w X N xs) :
    Calls Try.prog 19 #[.slice (some ⟨sb, so, none⟩) 1 cs] w (CopyEnd w N en xs e0 e1 e2) := by
  go_enter Try.func19, Try.ntmps19
  go_wp2
  go_loopg [3, 4] 1 (fun j o i wr => CopyAt w N en xs e0 e1 e2 j o i wr)
  case atStart => exact .inl ⟨rfl, rfl, rfl, rfl⟩
  case round =>
    rcases hrel with ⟨rfl, rfl, rfl, rfl⟩ | ⟨rfl, rfl, q, cap, v, rfl, hq1, hq2, hq3, hq4, hq5⟩
    · have HX := Lib.hid hx
      clear hx
      go_upto_region 6 with fail
      have hl0 : wr.heap.size < (wr.alloc (.cells #[.slice X N C, .bool en, .int .i64 e0, .int .i64 e1, .int .i64 e2] 58)).heap.size := by simp
      have B0 := box_below wr (.cells #[.slice X N C, .bool en, .int .i64 e0, .int .i64 e1, .int .i64 e2] 58)
      have K0 := Has.made wr 58 #[.slice X N C, .bool en, .int .i64 e0, .int .i64 e1, .int .i64 e2]
      go_name_world W1 hW1
      rw [hW1] at hl0 B0 K0
      have cc := fun i => K0.cell i
      have ff := fun i => K0.free i
      have HX1 := Lib.hid (HX.out.below B0)
      have hown0 : (W1.alloc (.cells #[] 5)).ownsRow wr.heap.size 5 1 (.slice (some ⟨W1.heap.size, 0, none⟩) 0 0) 0 [] := World.ownsRow_made W1 #[] 0 (by omega) (by unfold maxLen; omega) rfl
      have HO0 := Lib.hid hown0
      clear hown0
      have HX2 := Lib.hid (HX1.out.below (box_below W1 (.cells #[] 5)))
      go_upto_region 7 with (at_builtin; go_must (refine wpList_append_bytes rfl (.tmp 16) (.tmp 18) rfl wr.heap.size (.slice (some ⟨W1.heap.size, 0, none⟩) 0 0) 0 [] rfl HO0.out X N C xs rfl hlen hx0 HX2.out (by omega) (by simp; omega) ?_); intro v1 w1 hown1 hg1; obtain ⟨VA, VC, rfl⟩ := own_slice hown1; rw [Nat.zero_add, List.nil_append] at hown1; have B1 := (B0.trans ((box_below W1 (.cells #[] 5)).mono (Nat.le_of_lt hl0))).grown hg1 (by simp; omega) (fun q hq => by simp [Value.ownBlock] at hq; omega); have K1 := (K0.alloc (.cells #[] 5)).grown hg1 (by simp [Value.ownBlock]; omega); have cc1 := fun i => K1.cell i; have ff1 := fun i => K1.free i; clear cc ff; have HB1 := Lib.hid B1; have HO1 := Lib.hid hown1; clear hown1 hg1 B1)
      have NE1 := own_ne58 HO1.out K1
      have K2 := K1.put 0 (.slice VA N VC)
      have G2 : w1.grownBy (w1.setCell ⟨wr.heap.size, 0, none⟩ (.slice VA N VC)) (some wr.heap.size) := only_setCell (only_refl _ _) (.inl rfl) _
      have O2 := HO1.out.kept G2 (.inr NE1)
      have B2 := HB1.out.grown G2 (Nat.le_of_lt K1.lt) (fun q hq => by injection hq with hq; omega)
      clear HO1 HB1 K1 cc1 ff1 G2 HX HX1 HX2 HO0 B0 K0 hW1 hl0
      go_name_world W2 hW2
      rw [hW2] at K2 O2 B2
      have cc2 := fun i => K2.cell i
      obtain ⟨i0, hi0, hq0, hq1, hq2⟩ := info_parts info58
      have HO2 := Lib.hid O2
      have HB2 := Lib.hid B2
      have HK2 := Lib.hid K2
      have HS := K2.lt
      have hcells : ∀ j u, [Value.slice VA N VC, .bool en, .int .i64 e0, .int .i64 e1, .int .i64 e2][j]? = some u → (W2.alloc (.cells #[.slice VA N VC, .bool en, .int .i64 e0, .int .i64 e1, .int .i64 e2] 58)).cell? ((⟨W2.heap.size, 0, none⟩ : Addr).add j) = some u := by
        intro j u hj
        rw [add_at, (Has.made W2 58 #[.slice VA N VC, .bool en, .int .i64 e0, .int .i64 e1, .int .i64 e2]).cell, Nat.zero_add]
        simpa using hj
      have HC := Lib.hid hcells
      clear O2 B2 K2 hcells hW2
      go_wp2_with (at_builtin; go_must (refine wpList_append_own _ rfl (.tmp 21) (.tmp 23) 25 rfl wr.heap.size 58 i0 _ 5 56 Try.underlying25 hi0 hq0 hq1 hq2 rfl (by decide) (.slice none 0 0) 0 [] rfl (World.ownsRow_nil _ _ _ _) ⟨W2.heap.size, 0, none⟩ 1 1 [.slice VA N VC, .bool en, .int .i64 e0, .int .i64 e1, .int .i64 e2] rfl rfl HC.out (by intro u hu; simp at hu; rcases hu with rfl | rfl | rfl | rfl | rfl <;> rfl) (by unfold maxLen; omega) (by omega) (by simp; omega) ?_); intro v3 w3 hown3 hg3 _; rw [Nat.zero_add, List.nil_append] at hown3; obtain ⟨q, cap, rfl, hq, hL⟩ := lng_of_own hown3; have HL3 := Lib.hid hL; have HG3 := Lib.hid hg3; clear hL hg3 hown3)
      have O3 := (HO2.out.alloc (.cells #[.slice VA N VC, .bool en, .int .i64 e0, .int .i64 e1, .int .i64 e2] 58)).kept HG3.out (by cases VA <;> simp [Value.ownBlock])
      have B3 := (HB2.out.trans ((box_below W2 (.cells #[.slice VA N VC, .bool en, .int .i64 e0, .int .i64 e1, .int .i64 e2] 58)).mono (Nat.le_of_lt HS))).grown HG3.out (by simp; omega) (fun q hq => by simp [Value.ownBlock] at hq)
      obtain ⟨cur, hcur, hrest⟩ := HL3.out
      go_roundg 0
      case measure => omega
      case rel => exact .inr ⟨rfl, by go_num, q, cap, _, rfl, hq, B3, ⟨cur, hcur, hrest⟩, O3, own_ne58 O3 hcur⟩
    · have HE : Hid (CopyEnd w N en xs e0 e1 e2 (.returned (.slice (some ⟨q, 0, none⟩) 1 cap)) wr) := Lib.hid ⟨q, cap, v, rfl, hq1, hq2, hq3, hq4, hq5⟩
      clear hq1 hq2 hq3 hq4 hq5
      go_wp2_with fail
      go_ret
      exact HE.out

end Go.Proofs.Ytfbmhejpndgbmaa
