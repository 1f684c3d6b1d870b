/-
  Contract of the driver over a machine that counts: what was told, taken, and wanted. Conditions: the machine's block, the one stream and its bytes, the cuts and the library's table can be read.
-/
import Derived.Test.YtfbmhejpndgbmaaMach
import Derived.Test.YtfbmhejpndgbmaaPut
import Derived.Test.YtfbmhejpndgbmaaCutEq
import Derived.Deep.DeepMust
namespace Go.Proofs.Ytfbmhejpndgbmaa
open Go.RowKit

theorem m_need (a : Addr) (w : World) : (method 271 70 (.pointer (some a)) "Need").run Try.prog w = .ok (90, .pointer (some a)) w := by kernel_rfl
theorem m_feed (a : Addr) (w : World) : (method 271 70 (.pointer (some a)) "Feed").run Try.prog w = .ok (87, .pointer (some a)) w := by kernel_rfl
theorem m_end (a : Addr) (w : World) : (method 271 70 (.pointer (some a)) "End").run Try.prog w = .ok (86, .pointer (some a)) w := by kernel_rfl
theorem m_held (a : Addr) (w : World) : (method 271 70 (.pointer (some a)) "Held").run Try.prog w = .ok (88, .pointer (some a)) w := by kernel_rfl

/-- The record as it is laid, and the four marks. -/
abbrev z12 : Array Value := #[.string ⟨#[]⟩, .string ⟨#[]⟩, .string ⟨#[]⟩, .string ⟨#[]⟩, .int .i64 0, .int .i64 0, .int .i64 0, .int .i64 0, .int .i64 0, .int .i64 0, .int .i64 0, .bool false]
abbrev f4 (b : Bool) : Array Value := #[.bool b, .bool false, .bool false, .bool false]

/-- The driver's three blocks and the machine's; of what was there before only the machine's may have turned. -/
structure St (w wr : World) (gr gg gt gm : Nat) (G F M : Array Value) : Prop where
  hr : Has wr gr 39 z12
  hg : Has wr gg 39 G
  ht : Has wr gt 75 F
  hm : Has wr gm 74 M
  ho : w.grownBy wr (some gm)
  o0 : w.heap.size ≤ gr
  o1 : gr < gg
  o2 : gg < gt
  o3 : gm < w.heap.size

section
variable {w wr w' : World} {gr gg gt gm : Nat} {G F M : Array Value}

theorem St.drew (h : St w wr gr gg gt gm G F M) : St w wr.drew gr gg gt gm G F M :=
  ⟨h.hr, h.hg, h.ht, h.hm, only_drew h.ho, h.o0, h.o1, h.o2, h.o3⟩
theorem St.drewN (h : St w wr gr gg gt gm G F M) (n : Nat) : St w (wr.drewN n) gr gg gt gm G F M :=
  ⟨h.hr, h.hg, h.ht, h.hm, only_drewN h.ho n, h.o0, h.o1, h.o2, h.o3⟩
theorem St.below (h : St w wr gr gg gt gm G F M) (hb : Below wr.heap.size wr w') : St w w' gr gg gt gm G F M :=
  ⟨h.hr.below hb h.hr.lt, h.hg.below hb h.hg.lt, h.ht.below hb h.ht.lt, h.hm.below hb h.hm.lt, only_below h.ho hb, h.o0, h.o1, h.o2, h.o3⟩
theorem St.set_g (h : St w wr gr gg gt gm G F M) (i : Nat) (v : Value) : St w (wr.setCell ⟨gg, i, none⟩ v) gr gg gt gm (G.setIfInBounds i v) F M :=
  ⟨h.hr.other (p := ⟨gg, i, none⟩) (by have := h.o1; show gr ≠ gg; omega) v, h.hg.put i v, h.ht.other (p := ⟨gg, i, none⟩) (by have := h.o2; show gt ≠ gg; omega) v,
    h.hm.other (p := ⟨gg, i, none⟩) (by have := h.o0; have := h.o1; have := h.o3; show gm ≠ gg; omega) v, only_setCell h.ho (.inr (by have := h.o0; have := h.o1; show w.heap.size ≤ gg; omega)) v, h.o0, h.o1, h.o2, h.o3⟩
theorem St.set_t (h : St w wr gr gg gt gm G F M) (i : Nat) (v : Value) : St w (wr.setCell ⟨gt, i, none⟩ v) gr gg gt gm G (F.setIfInBounds i v) M :=
  ⟨h.hr.other (p := ⟨gt, i, none⟩) (by have := h.o1; have := h.o2; show gr ≠ gt; omega) v, h.hg.other (p := ⟨gt, i, none⟩) (by have := h.o2; show gg ≠ gt; omega) v, h.ht.put i v,
    h.hm.other (p := ⟨gt, i, none⟩) (by have := h.o0; have := h.o1; have := h.o2; have := h.o3; show gm ≠ gt; omega) v, only_setCell h.ho (.inr (by have := h.o0; have := h.o1; have := h.o2; show w.heap.size ≤ gt; omega)) v, h.o0, h.o1, h.o2, h.o3⟩
theorem St.by_m {M' : Array Value} (h : St w wr gr gg gt gm G F M) (hg : wr.grownBy w' (some gm)) (hm : Has w' gm 74 M') : St w w' gr gg gt gm G F M' :=
  ⟨h.hr.grown hg (by have := h.o0; have := h.o3; intro e; injection e with e; omega), h.hg.grown hg (by have := h.o0; have := h.o1; have := h.o3; intro e; injection e with e; omega),
    h.ht.grown hg (by have := h.o0; have := h.o1; have := h.o2; have := h.o3; intro e; injection e with e; omega), hm, only_trans h.ho hg, h.o0, h.o1, h.o2, h.o3⟩
theorem St.by_g {G' : Array Value} (h : St w wr gr gg gt gm G F M) (hg : wr.grownBy w' (some gg)) (hn : Has w' gg 39 G') : St w w' gr gg gt gm G' F M :=
  ⟨h.hr.grown hg (by have := h.o1; intro e; injection e with e; omega), hn,
    h.ht.grown hg (by have := h.o2; intro e; injection e with e; omega), h.hm.grown hg (by have := h.o0; have := h.o1; have := h.o3; intro e; injection e with e; omega),
    ⟨hg.os.trans h.ho.os, hg.tape.trans h.ho.tape, hg.output.trans h.ho.output, Nat.le_trans h.ho.size hg.size, fun i hi hne => (hg.block i (Nat.lt_of_lt_of_le hi h.ho.size) (by have := h.o0; have := h.o1; intro e; injection e with e; omega)).trans (h.ho.block i hi hne)⟩, h.o0, h.o1, h.o2, h.o3⟩
/-- A block that was there before, and is not the machine's, reads as it did. -/
theorem St.old (h : St w wr gr gg gt gm G F M) {p : Addr} (hp : p.block < w.heap.size) (hne : p.block ≠ gm) : wr.cell? p = w.cell? p :=
  World.cell?_of_block (h.ho.block p.block hp (by intro e; injection e with e; exact hne e))
end

/-- The one stream: its bytes, and whether it has ended. -/
structure In1 (w : World) (gm sb so : Nat) (X : Option Addr) (N C : Nat) (en : Bool) (xs : List Int) : Prop where
  lt : sb < w.heap.size
  ne : sb ≠ gm
  bytes : w.cell? ⟨sb, so, none⟩ = some (.slice X N C)
  ended : w.cell? ⟨sb, so + 1, none⟩ = some (.bool en)
  nc : N ≤ C
  cm : C ≤ maxLen
  len : xs.length = N
  n2 : N ≤ 3000
  cells : N = 0 ∨ ∃ xb xo, X = some ⟨xb, xo, none⟩ ∧ xb < w.heap.size ∧ xb ≠ gm ∧ ∀ i, i < N → w.cell? ⟨xb, xo + i, none⟩ = some (.int .u8 (xs.getD i 0))

/-- The cuts. -/
def Cuts (w : World) (gm : Nat) (Y : Option Addr) (m : Nat) (z : Nat → Int) : Prop :=
  m = 0 ∨ ∃ b o, Y = some ⟨b, o, none⟩ ∧ b < w.heap.size ∧ b ≠ gm ∧ ∀ k, k < m → w.cell? ⟨b, o + k, none⟩ = some (.int .i64 (z k)) ∧ -9223372036854775808 ≤ z k ∧ z k ≤ 9223372036854775807

theorem Cuts.at_ {w wr : World} {gr gg gt gm : Nat} {G F M : Array Value} {Y : Option Addr} {m : Nat} {z : Nat → Int} (h : Cuts w gm Y m z) (hs : St w wr gr gg gt gm G F M) : Zs wr Y m z := by
  rcases h with h | ⟨b, o, e, hlt, hne, hc⟩
  · exact .inl h
  · exact .inr ⟨b, o, e, Nat.lt_of_lt_of_le hlt hs.ho.size, fun k hk => ⟨(hs.old (p := ⟨b, o + k, none⟩) hlt hne).trans (hc k hk).1, (hc k hk).2⟩⟩

/-- What is told, as text. -/
def outT (T : Nat → Nat) (l a : Nat) : ByteArray := ⟨((lineT T l a).data.toList ++ [10]).toArray⟩

/-- Between two rounds: k bytes were taken, in i rounds, and so many rounds may come; or it has ended. -/
def Between (w : World) (T : Nat → Nat) (gr gg gt gm N : Nat) (en : Bool) (xs : List Int) (j : Nat) (v : Value) (wr : World) : Prop :=
  (∃ i k, v = .int .i64 (i : Nat) ∧ i ≤ k ∧ k ≤ N ∧ j = N - k + 2 ∧ St w wr gr gg gt gm (got ⟨#[]⟩ 0 0 k) (f4 false) (mach false (nls (xs.take k)) k)) ∨
  (∃ i, v = .int .i64 (i : Nat) ∧ i ≤ N + 1 ∧ j = 1 ∧ en = true ∧ St w wr gr gg gt gm (got (outT T (nls xs) N) (-1) 0 N) (f4 true) (mach true (nls xs) N))

/-- What a drive over a machine that counts comes to. -/
def DriveEnd (w : World) (T : Nat → Nat) (gm N : Nat) (en : Bool) (xs : List Int) (e : Ending) (w' : World) : Prop :=
  w.grownBy w' (some gm) ∧
    ((en = true ∧ e = .returned (.agg (got (outT T (nls xs) N) (-1) 0 N)) ∧ Has w' gm 74 (mach true (nls xs) N)) ∨
     (en = false ∧ e = .returned (.agg (got ⟨#[]⟩ 0 0 N)) ∧ Has w' gm 74 (mach false (nls xs) N)))

theorem nls_split (xs : List Int) (k t : Nat) (h : k ≤ t) : nls (xs.take t) = nls (xs.take k) + nls ((xs.drop k).take (t - k)) := by
  have e : xs.take t = xs.take k ++ (xs.drop k).take (t - k) := by
    rw [← List.take_add, show k + (t - k) = t by omega]
  rw [e]
  simp [nls, Lib.countByte, Lib.bytesOf]

theorem add_off (b o j : Nat) : (⟨b, o, none⟩ : Addr).add j = ⟨b, o + j, none⟩ := by
  unfold Addr.add
  split <;> simp_all

theorem row_of_own {w1 : World} {base : Nat} (xs : List Int) (k t N ab ac : Nat) (hN : xs.length = N) (h1 : k < t) (h2 : t ≤ N)
    (h : w1.ownsRow base 5 1 (.slice (some ⟨ab, 0, none⟩) (t - k) ac) (t - k) ((List.range (t - k)).map fun j => Value.int .u8 (xs.getD (k + j) 0))) : Row8 w1 ab 0 (t - k) ((xs.drop k).take (t - k)) := by
  refine ⟨by simp; omega, (h.lt ab rfl).2, fun i hi => ?_⟩
  have hc := h.cells (g := ab) rfl i (.int .u8 (xs.getD (k + i) 0)) (by simp [hi])
  rw [Lib.add_plain] at hc
  rw [hc]
  congr 2
  simp [hi]

theorem Row8.set_ {w : World} {b n : Nat} {xs : List Int} (h : Row8 w b 0 n xs) {g i : Nat} {v : Value} (hne : b ≠ g) : Row8 (w.setCell ⟨g, i, none⟩ v) b 0 n xs :=
  ⟨h.1, by simpa [World.setCell] using h.2.1, fun j hj => (World.cell?_setCell_other _ _ _ _ (by intro e; injection e with e; exact hne e.symm)).trans (h.2.2 j hj)⟩

theorem own_ne {w1 : World} {base n ab ac gg : Nat} {v1 : Value} {xs : List Value} (h : w1.ownsRow base 5 1 v1 n xs) (hv : v1 = .slice (some ⟨ab, 0, none⟩) n ac) (hg : gg < base) : ab ≠ gg := by
  have := (h.lt ab (by rw [hv]; rfl)).1
  omega

theorem St.tab {w wr : World} {T : Nat → Nat} {gr gg gt gm : Nat} {G F M : Array Value} (h : St w wr gr gg gt gm G F M) (hT : Tab w T) (hne : 1 ≠ gm) : Tab wr T :=
  ⟨Nat.lt_of_lt_of_le hT.1 h.ho.size, fun k hk => ⟨(h.old (p := ⟨1, k, none⟩) hT.1 hne).trans (hT.2 k hk).1, (hT.2 k hk).2⟩⟩

theorem line_len (s : ByteArray) : (s.data.toList ++ [10]).length = s.size + 1 := by
  rw [List.length_append, Array.length_toList]; rfl

theorem lineT_le' (T : Nat → Nat) (l a : Nat) : (lineT T l a).size + 1 ≤ 1000 := by
  have h1 := (decT_length T l).2
  have h2 := (decT_length T a).2
  rw [lineT, lineOf_size]
  omega

theorem line_cells {w : World} {base b c : Nat} {s : ByteArray} (h : w.ownsRow base 5 1 (.slice (some ⟨b, 0, none⟩) (s.size + 1) c) (s.size + 1) (Lib.strCells s ++ [.int .u8 10])) :
    ∀ j (hj : j < (s.data.toList ++ [10]).length), w.cell? ⟨b, j, none⟩ = some (by8 (s.data.toList ++ [10])[j]) := by
  intro j hj
  have e : Lib.strCells s ++ [.int .u8 10] = (s.data.toList ++ [10]).map by8 := by
    rw [List.map_append]
    rfl
  have hc := h.cells (g := b) rfl j (by8 (s.data.toList ++ [10])[j]) (by rw [e, List.getElem?_map, List.getElem?_eq_getElem hj]; rfl)
  rwa [Lib.add_plain, Nat.zero_add] at hc

theorem set_r {w wr : World} {gr gg gt gm : Nat} {G F M cs : Array Value} (h : St w wr gr gg gt gm G F M) : w.grownBy (wr.setRow gr cs) (some gm) ∧ Has (wr.setRow gr cs) gm 74 M := by
  have h0 := h.o0
  have h3 := h.o3
  refine ⟨⟨h.ho.os, h.ho.tape, h.ho.output, by rw [setRow_size]; exact h.ho.size, fun i hi hne => ?_⟩, ?_⟩
  · rw [setRow_other _ _ _ _ (by omega)]
    exact h.ho.block i hi hne
  · show (wr.setRow gr cs).heap[gm]? = _
    rw [setRow_other _ _ _ _ (by omega)]
    exact h.hm

theorem drive_end_open {w wr : World} {T : Nat → Nat} {gr gg gt gm N : Nat} {G F : Array Value} {xs : List Int} (h : St w wr gr gg gt gm G F (mach false (nls (xs.take N)) N)) (hx : xs.take N = xs) :
    DriveEnd w T gm N false xs (.returned (.agg (got ⟨#[]⟩ 0 0 N))) (wr.setRow gr (got ⟨#[]⟩ 0 0 N)) := by
  rw [hx] at h
  exact ⟨(set_r h).1, .inr ⟨rfl, rfl, (set_r h).2⟩⟩

theorem drive_end_over {w wr : World} {T : Nat → Nat} {gr gg gt gm N : Nat} {G F : Array Value} {xs : List Int} (h : St w wr gr gg gt gm G F (mach true (nls xs) N)) :
    DriveEnd w T gm N true xs (.returned (.agg (got (outT T (nls xs) N) (-1) 0 N))) (wr.setRow gr (got (outT T (nls xs) N) (-1) 0 N)) :=
  ⟨(set_r h).1, .inl ⟨rfl, rfl, (set_r h).2⟩⟩

theorem Calls.quiet_of_left {P : Program} {f : FuncId} {args : Array Value} {w : World} {n : Nat} {v : Value}
    (h : Calls P f args (w.drewN n) fun e w' => e = .returned v ∧ w.drewN n = w') : Calls P f args (w.drewN n) fun e w'' => e = .returned v ∧ ∃ m, w'' = w.drewN m :=
  h.mono fun _ _ ⟨he, hm⟩ => ⟨he, n, hm.symm⟩

set_option maxRecDepth 100000 in
set_option maxHeartbeats 2000000 in
theorem drive_count (gm sb so N C m c cs : Nat) (X Y : Option Addr) (en : Bool) (xs : List Int) (z : Nat → Int) (T : Nat → Nat) (w : World) (h : Has w gm 74 (mach false 0 0)) (hT : Tab w T)
    (hI : In1 w gm sb so X N C en xs) (hZ : Cuts w gm Y m z) (hm : m ≤ 3000) :
    Calls Try.prog 14 #[.iface 70 (.pointer (some ⟨gm, 0, none⟩)), .slice (some ⟨sb, so, none⟩) 1 cs, .slice Y m c] w (DriveEnd w T gm N en xs) := by
  have m1 := m_need
  have m2 := m_feed
  have m3 := m_end
  have m4 := m_held
  have hgm := h.lt
  go_enter Try.func14, Try.ntmps14
  go_wp2_with (go_at_call 90; refine (need_open gm 0 0 _ (h.alloc _)).mono ?_; rintro e w1 ⟨rfl, rfl⟩)
  have hst : St w (((w.alloc (.cells z12 39)).alloc (.cells z12 39)).alloc (.cells (f4 false) 75)) w.heap.size (w.heap.size + 1) (w.heap.size + 1 + 1) gm z12 (f4 false) (mach false 0 0) := by
    refine ⟨((Has.made w 39 z12).alloc _).alloc _, ?_, ?_, ((h.alloc _).alloc _).alloc _, only_alloc (only_alloc (only_alloc (only_refl _ _) _) _) _, Nat.le_refl _, by omega, by omega, hgm⟩
    · have := (Has.made (w.alloc (.cells z12 39)) 39 z12).alloc (.cells (f4 false) 75)
      simpa using this
    · have := Has.made ((w.alloc (.cells z12 39)).alloc (.cells z12 39)) 75 (f4 false)
      simpa using this
  have HS := Lib.hid hst
  have HI := Lib.hid hI
  have HZ := Lib.hid hZ
  have HT := Lib.hid hT
  have HNE := Lib.hid (tab_ne hT h)
  clear hst h hI hZ hT
  go_name_world W0 hW0
  have HS0 : Hid (St w W0 w.heap.size (w.heap.size + 1) (w.heap.size + 1 + 1) gm z12 (f4 false) (mach false 0 0)) := by rw [← hW0]; exact HS.out
  clear hW0 HS
  generalize hgt : w.heap.size + 1 + 1 = gt at HS0 ⊢
  generalize hgg : w.heap.size + 1 = gg at HS0 ⊢
  generalize hgr : w.heap.size = gr at HS0 ⊢
  clear hgt hgg hgr
  go_loopg [9] (N + 2) (fun j v wr => Between w T gr gg gt gm N en xs j v wr)
  case atStart => exact .inl ⟨0, 0, rfl, by omega, by omega, by omega, by simpa [nls, Lib.countByte, Lib.bytesOf] using HS0.out⟩
  case round =>
    rcases hrel with ⟨i, k, rfl, hik, hkN, hj, hst⟩ | ⟨i, rfl, hi, hj, hen, hst⟩
    · have HJ := Lib.hid hj
      have H := Lib.hid hst
      have cg := fun i => hst.hg.cell i
      have fg := fun i => hst.hg.free i
      have hn2 := HI.out.n2
      have hnc := HI.out.nc
      have hcm := HI.out.cm
      unfold maxLen at hcm
      have cs0 : wr.cell? ⟨sb, so, none⟩ = some (.slice X N C) := (hst.old (p := ⟨sb, so, none⟩) HI.out.lt HI.out.ne).trans HI.out.bytes
      have cs1 : wr.cell? ⟨sb, so + 1, none⟩ = some (.bool en) := (hst.old (p := ⟨sb, so + 1, none⟩) HI.out.lt HI.out.ne).trans HI.out.ended
      clear hj hst
      by_cases hlt : k < N
      · have hd : ((i : Int) < 100000) := by omega
        have hv1 := (cutN_bd m z i).1
        have hv2 := (cutN_bd m z i).2
        have HC := Lib.hid (fun W hW => cut_eq Y m c z i W hW hm (by omega))
        have HZ1 := Lib.hid (HZ.out.at_ H.out)
        generalize cutN m z i = v at hv1 hv2 HC
        go_upto_region 18 with fail
        go_quiet ((go_at_call 26; exact Calls.quiet_of_left (HC.out _ HZ1.out)))
        go_upto_region 19 with fail
        obtain ⟨t, ht, ht1, ht2, ht3⟩ : ∃ t : Nat, min (N : Int) ((k : Int) + (v : Int)) = (t : Int) ∧ k < t ∧ t ≤ N ∧ t ≤ k + 32 := ⟨min N (k + v), by omega, by omega, by omega, by omega⟩
        rw [ht]
        have HS1 := Lib.hid (H.out.drewN nq)
        clear ht cs0 cs1 cg fg H hv1 hv2 HC HZ1
        go_name_world W1 hW1
        have H1 : Hid (St w W1 gr gg gt gm (got ⟨#[]⟩ 0 0 k) (f4 false) (mach false (nls (xs.take k)) k)) := by rw [← hW1]; exact HS1.out
        clear hW1 HS1
        obtain ⟨xb, xo, rfl, hxl, hxn, hxc⟩ : ∃ xb xo, X = some ⟨xb, xo, none⟩ ∧ xb < w.heap.size ∧ xb ≠ gm ∧ ∀ i, i < N → W1.cell? ⟨xb, xo + i, none⟩ = some (.int .u8 (xs.getD i 0)) := by
          rcases HI.out.cells with h0 | ⟨xb, xo, e, hl, hn, hc⟩
          · omega
          · exact ⟨xb, xo, e, hl, hn, fun i hi => (H1.out.old (p := ⟨xb, xo + i, none⟩) hl hn).trans (hc i hi)⟩
        have cg := fun i => H1.out.hg.cell i
        have fg := fun i => H1.out.hg.free i
        have hz1 : gt < W1.heap.size := H1.out.ht.lt
        have hz0 : gg < W1.heap.size := H1.out.hg.lt
        have hkC : ¬ C = k := by omega
        obtain ⟨i0, hi0, hq0, hq1, hq2⟩ := info_parts info5
        have HX := Lib.hid hxc
        clear hxc
        have hown0 : (W1.alloc (.cells #[] 5)).ownsRow W1.heap.size 5 1 (.slice (some ⟨W1.heap.size, 0, none⟩) 0 0) 0 [] := World.ownsRow_made W1 #[] 0 (Nat.le_refl _) (by unfold maxLen; omega) rfl
        have HO0 := Lib.hid hown0
        clear hown0
        have hnews : ∀ j u, ((List.range (t - k)).map fun j => Value.int .u8 (xs.getD (k + j) 0))[j]? = some u → (W1.alloc (.cells #[] 5)).cell? ((⟨xb, xo + k, none⟩ : Addr).add j) = some u := by
          intro j u hj
          have hjl : j < t - k := by
            have := (List.getElem?_eq_some_iff.1 hj).1
            simpa using this
          rw [List.getElem?_map, List.getElem?_range hjl] at hj
          simp only [Option.map_some, Option.some.injEq] at hj
          subst hj
          rw [add_off, World.cell?_alloc_lt _ _ _ (by have := H1.out.ho.size; show xb < W1.heap.size; omega), Nat.add_assoc]
          exact HX.out (k + j) (by omega)
        have HNW := Lib.hid hnews
        clear hnews
        go_upto_region 20 with (at_builtin; go_must (refine wpList_append_own _ rfl (.tmp 93) (.tmp 100) _ rfl W1.heap.size 5 i0 (.int .u8 0) 1 1 Try.underlying22 hi0 hq0 hq1 hq2 rfl (by decide) (.slice (some ⟨W1.heap.size, 0, none⟩) 0 0) 0 [] rfl HO0.out ⟨xb, xo + k, none⟩ (t - k) (C - k) ((List.range (t - k)).map fun j => Value.int .u8 (xs.getD (k + j) 0)) rfl (by simp) HNW.out (by intro u hu; simp at hu; obtain ⟨_, _, rfl⟩ := hu; rfl) (by unfold maxLen; omega) (by omega) (by simp) ?_); intro v1 w1 hown1 hg1 _)
        have hb1 : Below W1.heap.size W1 w1 := ((Below.refl _ _).alloc (Nat.le_refl _) _).grown hg1 (by simp) (fun q hq => by simp [Value.ownBlock] at hq; omega)
        have H2 := Lib.hid (H1.out.below hb1)
        rw [Nat.zero_add, List.nil_append] at hown1
        obtain ⟨ab, ac, hv⟩ := own_at hown1 (by omega)
        have hrow : Row8 w1 ab 0 (t - k) ((xs.drop k).take (t - k)) := row_of_own xs k t N ab ac HI.out.len ht1 ht2 (by rw [← hv]; exact hown1)
        rw [hv]
        have HR := Lib.hid hrow
        have hz2 : gt < w1.heap.size := H2.out.ht.lt
        have HG0 := Lib.hid (H2.out.set_g 7 (.int .i64 (t : Int)))
        have hab : ab < w1.heap.size := hrow.2.1
        have hnl := nls_le (xs.take k)
        have hnk : (xs.take k).length ≤ k := List.length_take_le _ _
        have HR1 := Lib.hid (hrow.set_ (v := .int .i64 (t : Int)) (i := 7) (g := gg) (own_ne hown1 hv H1.out.hg.lt))
        have cg1 := fun i => H2.out.hg.cell i
        have fg1 := fun i => H2.out.hg.free i
        clear hrow hv hown1 hg1 hb1 cg fg HX HO0 HNW hq0 hq1 hq2 hi0
        go_wp2_with fail
        refine (feed_open gm (nls (xs.take k)) k _ ab 0 (t - k) ac ((xs.drop k).take (t - k)) (by omega) (by omega) (by omega) (by omega) HG0.out.hm HR1.out).mono ?_
        rintro e w3 ⟨rfl, hm3, hg3⟩
        have H3 : Hid (St w w3 gr gg gt gm (got ⟨#[]⟩ 0 0 t) (f4 false) (mach false (nls (xs.take t)) t)) := by
          have := HG0.out.by_m hg3 hm3
          rw [nls_split xs k t (by omega)]
          have e2 : ((k : Int) + ((t - k : Nat) : Int)) = (t : Int) := by omega
          rw [e2] at this
          have e3 : ((nls (xs.take k) + nls ((xs.drop k).take (t - k)) : Nat) : Int) = (nls (xs.take k) : Int) + (nls ((xs.drop k).take (t - k)) : Int) := by omega
          rw [e3]
          exact this
        clear hm3 hg3 HG0 HR HR1 cg1 fg1
        go_wp2_with fail
        refine (put_none gg ⟨#[]⟩ 0 0 t _ H3.out.hg).mono ?_
        rintro e w4 ⟨rfl, hm4, hg4⟩
        have H4 := Lib.hid (H3.out.by_g hg4 hm4)
        clear hm4 hg4 H3 H2 H1
        have cg4 := fun i => H4.out.hg.cell i
        have fg4 := fun i => H4.out.hg.free i
        have H5 := Lib.hid (((H4.out.set_g 6 (.int .i64 0)).set_g 4 (.int .i64 0)).drew)
        have HM := Lib.hid ((H4.out.set_g 6 (.int .i64 0)).drew.hm)
        go_upto_region 27 with fail
        go_region_with ((go_at_call 88; refine (held_any gm _).mono ?_; rintro e w5 ⟨rfl, rfl⟩))
        all_goals
          go_wp2_with (go_at_call 90; refine (need_open gm _ _ _ HM.out).mono ?_; rintro e w6 ⟨rfl, rfl⟩)
          go_roundg (N - t + 2)
          case measure => have := HJ.out; omega
          case rel => exact .inl ⟨i + 1, t, by go_num, by omega, ht2, rfl, H5.out⟩
      · have hkk : N = k := by omega
        subst hkk
        have hd : ((i : Int) < 100000) := by omega
        clear hlt
        have htk : xs.take N = xs := List.take_of_length_le (by have := HI.out.len; omega)
        have HTK := Lib.hid htk
        clear htk
        cases en
        · go_upto_region 29 with fail
          go_step
          refine wpList_load_row rfl 39 (.tmp 7) rfl gg (by kernel_rfl) 39 (got ⟨#[]⟩ 0 0 N) (0, 0) _ H.out.hg Try.underlying39 rfl (by kernel_rfl) ?_
          refine wpList_store_row rfl 39 (.tmp 6) (.tmp 147) rfl gr (got ⟨#[]⟩ 0 0 N) (by kernel_rfl) (by kernel_rfl) 39 z12 H.out.hr (by kernel_rfl) rfl (by kernel_rfl) ?_
          refine wpList_nil ?_
          generalize hF : Act.put _ _ _ = F
          have hp : F.tmps.getD 6 undef = .pointer (some ⟨gr, 0, none⟩) := by rw [← hF]; kernel_rfl
          have hdf : F.defers = [] := by rw [← hF]; kernel_rfl
          clear hF
          go_step
          go_step
          go_step
          refine bodyPost_ret (results_cell_row rfl _ _ gr 39 (got ⟨#[]⟩ 0 0 N) (0, 0) _ hp (setRow_heap _ _ z12 _ _ _ H.out.hr) Try.underlying39 rfl (by kernel_rfl)) hdf ?_
          exact drive_end_open H.out HTK.out
        · have cg := fun i => H.out.hg.cell i
          have ct := fun i => H.out.ht.cell i
          have ft := fun i => H.out.ht.free i
          have H1 := Lib.hid (H.out.set_t 0 (.bool true))
          have HT1 := Lib.hid (H1.out.tab HT.out HNE.out)
          have HL := Lib.hid (nls_le xs)
          have HN := Lib.hid HI.out.len
          go_wp2_with fail
          refine (end_open T gm (nls xs) N _ (by have := HL.out; have := HN.out; omega) hn2 HT1.out (by have := H1.out.hm; rw [HTK.out] at this; exact this)).mono ?_
          rintro e w3 ⟨q, b, cc, rfl, hq1, hq2, hq3, hq4, hq5⟩
          have H2 := Lib.hid (H1.out.by_m hq5 hq4)
          have HQ := Lib.hid hq2
          have HO := Lib.hid hq3
          clear hq1 hq2 hq3 hq4 hq5 cg ct ft
          go_wp2_with fail
          refine (put_one gg q b cc ((lineT T (nls xs) N).data.toList ++ [10]) 0 0 N _ H2.out.hg (by rw [line_len]; exact HQ.out) (by simp) (by rw [line_len]; exact lineT_le' T (nls xs) N) (line_cells HO.out)).mono ?_
          rintro e w4 ⟨rfl, hm4, hg4⟩
          have H4 := Lib.hid (H2.out.by_g hg4 hm4)
          clear hm4 hg4 H2 H1 HQ HO
          have cg4 := fun i => H4.out.hg.cell i
          have fg4 := fun i => H4.out.hg.free i
          have H5 := Lib.hid (((H4.out.set_g 6 (.int .i64 0)).set_g 4 (.int .i64 (-1))).drew)
          have HM := Lib.hid ((H4.out.set_g 6 (.int .i64 0)).drew.hm)
          go_upto_region 27 with fail
          go_region_with ((go_at_call 88; refine (held_any gm _).mono ?_; rintro e w5 ⟨rfl, rfl⟩))
          all_goals
            go_wp2_with (go_at_call 90; refine (need_over gm _ _ _ HM.out).mono ?_; rintro e w6 ⟨rfl, rfl⟩)
            go_roundg 1
            case measure => have := HJ.out; omega
            case rel => exact .inr ⟨i + 1, by go_num, by omega, rfl, rfl, H5.out⟩
    · subst hen
      have H := Lib.hid hst
      have hn2 := HI.out.n2
      have cg := fun i => hst.hg.cell i
      have hd : ((i : Int) < 100000) := by omega
      clear hst
      go_upto_region 29 with fail
      go_step
      refine wpList_load_row rfl 39 (.tmp 7) rfl gg (by kernel_rfl) 39 (got (outT T (nls xs) N) (-1) 0 N) (0, 0) _ H.out.hg Try.underlying39 rfl (by kernel_rfl) ?_
      refine wpList_store_row rfl 39 (.tmp 6) (.tmp 147) rfl gr (got (outT T (nls xs) N) (-1) 0 N) (by kernel_rfl) (by kernel_rfl) 39 z12 H.out.hr (by kernel_rfl) rfl (by kernel_rfl) ?_
      refine wpList_nil ?_
      generalize hF : Act.put _ _ _ = F
      have hp : F.tmps.getD 6 undef = .pointer (some ⟨gr, 0, none⟩) := by rw [← hF]; kernel_rfl
      have hdf : F.defers = [] := by rw [← hF]; kernel_rfl
      clear hF
      go_step
      go_step
      go_step
      refine bodyPost_ret (results_cell_row rfl _ _ gr 39 (got (outT T (nls xs) N) (-1) 0 N) (0, 0) _ hp (setRow_heap _ _ z12 _ _ _ H.out.hr) Try.underlying39 rfl (by kernel_rfl)) hdf ?_
      exact drive_end_over H.out

end Go.Proofs.Ytfbmhejpndgbmaa
