/-
  Contracts of the methods of a machine that counts: what it wants, what it holds, bytes, the end. Conditions: the machine's block is known; one to 32 bytes that can be read; the library's table can be read.
-/
import Derived.Test.YtfbmhejpndgbmaaNew
import Derived.Test.YtfbmhejpndgbmaaTell
import Derived.Test.YtfbmhejpndgbmaaFmt
namespace Go.Proofs.Ytfbmhejpndgbmaa
open Go.RowKit Go.Lib

section
variable (g : Nat) (l a : Int) (w : World)

theorem need_open (h : Has w g 74 (mach false l a)) : Calls Try.prog 90 #[.pointer (some ⟨g, 0, none⟩)] w fun e w' => e = .returned (.int .i64 0) ∧ w = w' := by
  have hc := fun i => h.cell i
  clear h
  go_enter Try.func90, Try.ntmps90
  go_wp2
  go_ret
  exact ⟨rfl, rfl⟩

theorem need_over (h : Has w g 74 (mach true l a)) : Calls Try.prog 90 #[.pointer (some ⟨g, 0, none⟩)] w fun e w' => e = .returned (.int .i64 (-1)) ∧ w = w' := by
  have hc := fun i => h.cell i
  clear h
  go_enter Try.func90, Try.ntmps90
  go_wp2
  go_ret
  exact ⟨rfl, rfl⟩

theorem held_any : Calls Try.prog 88 #[.pointer (some ⟨g, 0, none⟩)] w fun e w' => e = .returned (.int .i64 0) ∧ w = w' := by
  go_enter Try.func88, Try.ntmps88
  go_wp2
  go_ret
  exact ⟨rfl, rfl⟩

theorem ends_open (h : Has w g 74 (mach false l a)) : Calls Try.prog 92 #[.pointer (some ⟨g, 0, none⟩), .int .i64 0] w fun e w' => e = .returned (.int .i64 0) ∧ w = w' := by
  have hc := fun i => h.cell i
  clear h
  go_enter Try.func92, Try.ntmps92
  go_wp2
  go_ret
  exact ⟨rfl, rfl⟩

theorem takes_open (A : Option Addr) (n c : Nat) (h1 : 1 ≤ n) (h2 : n ≤ 32) (h : Has w g 74 (mach false l a)) :
    Calls Try.prog 95 #[.pointer (some ⟨g, 0, none⟩), .int .i64 0, .slice A n c] w fun e w' => e = .returned (.int .i64 0) ∧ w = w' := by
  have hb : ((n : Int) == 0) = false := by simp; omega
  have H := Lib.hid h
  clear h
  go_enter Try.func95, Try.ntmps95
  go_wp2_with fail
  refine (ends_open g l a _ H.out).mono ?_
  rintro e w1 ⟨rfl, rfl⟩
  go_wp2_with fail
  go_ret
  exact ⟨rfl, rfl⟩

/-- n bytes lie from block b's cell o on. -/
def Row8 (w : World) (b o n : Nat) (xs : List Int) : Prop := xs.length = n ∧ b < w.heap.size ∧ ∀ i, i < n → w.cell? ⟨b, o + i, none⟩ = some (.int .u8 (xs.getD i 0))

theorem Row8.below {w w' : World} {b o n : Nat} {xs : List Int} (h : Row8 w b o n xs) (hb : Below w.heap.size w w') : Row8 w' b o n xs :=
  ⟨h.1, Nat.lt_of_lt_of_le h.2.1 hb.size, fun i hi => (hb.cell (p := ⟨b, o + i, none⟩) h.2.1).trans (h.2.2 i hi)⟩

/-- How many of the bytes are 10. -/
def nls (xs : List Int) : Nat := Lib.countByte (Lib.bytesOf xs) 10

theorem nls_le (xs : List Int) : nls xs ≤ xs.length := by
  have := List.count_le_length (a := (10 : UInt8)) (l := Lib.bytesOf xs)
  simpa [nls, Lib.countByte, Lib.bytesOf] using this

/-- Behind a call of the machine's: nothing was told, so many more lines and bytes; only the machine's block has turned. -/
def FeedEnd (g : Nat) (l a : Int) (w : World) (e : Ending) (w' : World) : Prop :=
  e = .returned (.tuple #[.slice none 0 0, .int .i64 0]) ∧ Has w' g 74 (mach false l a) ∧ w.grownBy w' (some g)

theorem count_new (b o n c : Nat) (xs : List Int) (hx : Row8 w b o n xs) :
    Calls Try.prog 96 #[.slice (some ⟨b, o, none⟩) n c, .slice (some ⟨w.heap.size, 0, none⟩) 1 1] (w.alloc (.cells #[.int .u8 10] 5)).drew fun e w' => e = .returned (.int .i64 (nls xs)) ∧ (w.alloc (.cells #[.int .u8 10] 5)).drew = w' := by
  have hx' := hx.below (box_below w (.cells #[.int .u8 10] 5))
  refine (Try.bytes_Count_one b o n c _ 0 1 xs 10 (w.alloc (.cells #[.int .u8 10] 5)).drew hx'.1 hx'.2.2 ?_).mono ?_
  · exact (Has.made w 5 #[.int .u8 10]).drew.cell 0
  · rintro e w' ⟨rfl, rfl⟩
    exact ⟨rfl, rfl⟩

theorem feed_close (l' a' : Int) (o : Obj) (h : Has w g 74 (mach false l a)) :
    FeedEnd g l' a' w (.returned (.tuple #[.slice none 0 0, .int .i64 0])) (((w.setCell ⟨g, 3, none⟩ (.int .i64 l')).setCell ⟨g, 4, none⟩ (.int .i64 a')).alloc o).drew := by
  have h1 := put1 h 3 (.int .i64 l')
  have h2 := put1 h1.2 4 (.int .i64 a')
  exact ⟨rfl, (h2.2.alloc o).drew, only_drew (only_alloc (only_trans h1.1 h2.1) o)⟩

set_option maxHeartbeats 400000 in
theorem feed_open (b o n c : Nat) (xs : List Int) (h1 : 1 ≤ n) (h2 : n ≤ 32) (hl : 0 ≤ l ∧ l ≤ 3000) (ha : 0 ≤ a ∧ a ≤ 3000) (h : Has w g 74 (mach false l a)) (hx : Row8 w b o n xs) :
    Calls Try.prog 87 #[.pointer (some ⟨g, 0, none⟩), .int .i64 0, .slice (some ⟨b, o, none⟩) n c] w (FeedEnd g (l + nls xs) (a + n) w) := by
  obtain ⟨hl0, hl1⟩ := hl
  obtain ⟨ha0, ha1⟩ := ha
  have hc := fun i => h.cell i
  have hf := fun i => h.free i
  have hg := h.lt
  have hn0 : 0 ≤ (nls xs : Int) := by omega
  have hn1 : (nls xs : Int) ≤ 32 := by have := nls_le xs; have := hx.1; omega
  have H := Lib.hid h
  have HX := Lib.hid hx
  clear h hx
  go_enter Try.func87, Try.ntmps87
  go_wp2_with fail
  refine (takes_open g l a _ _ _ _ h1 h2 H.out).mono ?_
  rintro e w1 ⟨rfl, rfl⟩
  go_upto_region 4 with fail
  go_region_with ((go_at_call 96; refine (count_new w b o n c xs HX.out).mono ?_; rintro e w' ⟨rfl, rfl⟩))
  all_goals
    go_wp2_with fail
    go_ret2
    exact feed_close g l a _ _ _ _ H.out
end

theorem stop_any (g : Nat) (l a : Int) (w : World) (h : Has w g 74 (mach false l a)) :
    Calls Try.prog 91 #[.pointer (some ⟨g, 0, none⟩)] w fun e w' => e = .returned (.tuple #[]) ∧ w.setCell ⟨g, 2, none⟩ (.bool true) = w' := by
  have hc := fun i => h.cell i
  have hf := fun i => h.free i
  clear h
  go_enter Try.func91, Try.ntmps91
  go_wp2
  go_end0
  exact ⟨rfl, rfl⟩

/-- The line that is told. -/
def lineOf (x y : List UInt8) : ByteArray := (⟨x.toArray⟩ ++ ⟨#[32]⟩) ++ ⟨y.toArray⟩
def lineT (T : Nat → Nat) (l a : Nat) : ByteArray := lineOf (decT T l) (decT T a)

theorem lineOf_size (x y : List UInt8) : (lineOf x y).size = x.length + 1 + y.length := by
  unfold lineOf
  rw [ByteArray.size_append, ByteArray.size_append]
  rfl

theorem Tab.drew {w : World} {T : Nat → Nat} (h : Tab w T) : Tab w.drew T := h

/-- Behind the end: one piece of output at port 0; the machine is over; of what was there only its block has turned. -/
def EndAt (s : ByteArray) (g : Nat) (l a : Nat) (w : World) (e : Ending) (w' : World) : Prop :=
  ∃ q b c, e = .returned (.tuple #[.slice (some ⟨q, 0, none⟩) 1 1, .int .i64 0]) ∧ w.heap.size ≤ q ∧ Has w' q 91 #[.int .i64 0, .slice (some ⟨b, 0, none⟩) (s.size + 1) c] ∧
    w'.ownsRow w.heap.size 5 1 (.slice (some ⟨b, 0, none⟩) (s.size + 1) c) (s.size + 1) (strCells s ++ [.int .u8 10]) ∧
    Has w' g 74 (mach true l a) ∧ w.grownBy w' (some g)

theorem own_lower {w : World} {base base' : Nat} {v : Value} {n : Nat} {xs : List Value} (h : w.ownsRow base 5 1 v n xs) (hb : base' ≤ base) : w.ownsRow base' 5 1 v n xs := by
  obtain ⟨h1, h2⟩ := h
  refine ⟨h1, ?_⟩
  rcases h2 with h2 | ⟨g, cap, cur, hv, hg, r⟩
  · exact .inl h2
  · exact .inr ⟨g, cap, cur, hv, by omega, r⟩

theorem end_close {w w' w1 w2 w3 : World} {o : Obj} {g q b c : Nat} {l a : Nat} (s : ByteArray) (hP : w.grownBy w' (some g)) (hH : Has w' g 74 (mach true l a))
    (h1 : Below w'.drew.heap.size w'.drew w1) (h2 : Below w1.heap.size w1 w2) (h3 : Below (w2.alloc o).heap.size (w2.alloc o) w3) (hq : (w2.alloc o).heap.size ≤ q)
    (hh : Has w3 q 91 #[.int .i64 0, .slice (some ⟨b, 0, none⟩) (s.size + 1) c])
    (ho : w3.ownsRow (w2.alloc o).heap.size 5 1 (.slice (some ⟨b, 0, none⟩) (s.size + 1) c) (s.size + 1) (strCells s ++ [.int .u8 10])) :
    EndAt s g l a w (.returned (.tuple #[.slice (some ⟨q, 0, none⟩) 1 1, .int .i64 0])) w3 := by
  have z0 := hP.size
  have z1 : w'.heap.size ≤ w1.heap.size := h1.size
  have z2 := h2.size
  have z3 : (w2.alloc o).heap.size = w2.heap.size + 1 := by simp
  have k2 : Below w'.heap.size w' w2 := (show Below w'.heap.size w' w1 from ⟨h1.os, h1.tape, h1.output, h1.size, h1.block⟩).trans (h2.mono z1)
  have k3 : Below w'.heap.size w' w3 := (k2.alloc (by omega) o).trans (h3.mono (by omega))
  exact ⟨q, b, c, rfl, by omega, hh, own_lower ho (by omega), hH.below k3 hH.lt, only_below hP k3⟩

theorem tab_ne {w : World} {T : Nat → Nat} {g : Nat} {v : Bool} {l a : Int} (hT : Tab w T) (h : Has w g 74 (mach v l a)) : 1 ≠ g := by
  intro e
  subst e
  have h0 := (hT.2 0 (by omega)).1
  rw [h.cell 0] at h0
  simp at h0

theorem Tab.set_ {w : World} {T : Nat → Nat} (hT : Tab w T) {g : Nat} (hg : 1 ≠ g) (i : Nat) (v : Value) : Tab (w.setCell ⟨g, i, none⟩ v) T :=
  ⟨by simpa [World.setCell] using hT.1, fun k hk => ⟨(World.cell?_setCell_other _ _ _ _ (by intro e; injection e with e; exact hg e.symm)).trans (hT.2 k hk).1, (hT.2 k hk).2⟩⟩

set_option maxRecDepth 100000 in
set_option maxHeartbeats 800000 in
theorem end_open (T : Nat → Nat) (g l a : Nat) (w : World) (hl : l ≤ 3000) (ha : a ≤ 3000) (hT : Tab w T) (h : Has w g 74 (mach false l a)) :
    Calls Try.prog 86 #[.pointer (some ⟨g, 0, none⟩), .int .i64 0] w (EndAt (lineT T l a) g l a w) := by
  have hc := fun i => h.cell i
  have hf := fun i => h.free i
  have H := Lib.hid h
  have HT := Lib.hid (hT.set_ (tab_ne hT h) 2 (.bool true))
  have hp := put1 h 2 (.bool true)
  have HP := Lib.hid hp
  clear h hT hp
  go_enter Try.func86, Try.ntmps86
  go_wp2_with fail
  refine (ends_open g l a _ H.out).mono ?_
  rintro e w1 ⟨rfl, rfl⟩
  go_upto_region 5 with (go_at_call 91; refine (stop_any g l a _ H.out).mono ?_; rintro e w' ⟨rfl, hw⟩)
  have hT1 : Tab w' T := by rw [← hw]; exact HT.out
  have hP1 : w.grownBy w' (some g) := by rw [← hw]; exact HP.out.1
  have hH1 : Has w' g 74 (mach true l a) := by rw [← hw]; exact HP.out.2
  clear hw hc hf HT HP H
  have hc := fun i => hH1.cell i
  have hgl := hH1.lt
  have HT := Lib.hid hT1
  have HP := Lib.hid hP1
  have HH := Lib.hid hH1
  clear hT1 hP1 hH1
  have hx := (decT_length T l).2
  have hy := (decT_length T a).2
  have I1 := Lib.hid (fun W => itoa_any T l hl W)
  have I2 := Lib.hid (fun W => itoa_any T a ha W)
  generalize hX : decT T l = x at hx I1
  generalize hY : decT T a = y at hy I2
  have HX := Lib.hid hX
  have HY := Lib.hid hY
  clear hX hY
  go_region_with (first
    | (go_at_call_of 94 (Value.int IntKind.i64 (l : Int)); refine (I1.out _ (HT.out.drew)).mono ?_; rintro e w1 ⟨rfl, hb⟩; have hc1 := (fun i => (HH.out.drew.below hb hgl).cell i); have HB1 := Lib.hid hb; clear hb)
    | (go_at_call_of 94 (Value.int IntKind.i64 (a : Int)); refine (I2.out _ (HT.out.drew.below HB1.out)).mono ?_; rintro e w2 ⟨rfl, hb⟩;  have HB2 := Lib.hid hb; clear hb)
    | (go_at_call 93; refine (tell_one _ (lineOf x y) _ (by rw [lineOf_size]; omega) (Has.cell (Has.made _ _ _) 0)).mono ?_; rintro e w3 ⟨q, b, c, rfl, hq, hh, ho, hb⟩; have HQ := Lib.hid hq; have HHQ := Lib.hid hh; have HO := Lib.hid ho; have HB3 := Lib.hid hb; clear hq hh ho hb))
  all_goals
    have hend : EndAt (lineT T l a) g l a w (.returned (.tuple #[.slice (some ⟨q, 0, none⟩) 1 1, .int .i64 0])) w3 := by
      rw [lineT, HX.out, HY.out]
      exact end_close (lineOf x y) HP.out HH.out HB1.out HB2.out HB3.out HQ.out HHQ.out HO.out
    have HE := Lib.hid hend
    clear hend
    go_wp2_with fail
    go_ret2
    exact HE.out

end Go.Proofs.Ytfbmhejpndgbmaa
