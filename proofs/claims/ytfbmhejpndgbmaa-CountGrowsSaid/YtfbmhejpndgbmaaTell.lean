/-
  Contracts of line.Join at one line and of filter.Tell at one line: the bytes of the line, and its end. Condition: a line of at most 1000 bytes.
-/
import Derived.Test.YtfbmhejpndgbmaaWords
import Derived.Lib.AppendStr
import Derived.Deep.DeepMust
namespace Go.Proofs.Ytfbmhejpndgbmaa
open Go.RowKit Go.Lib

theorem info5 : (Try.prog.info? 5).map (fun i => (i.zero, i.size, i.bytes)) = some (some (.int .u8 0), 1, 1) := by kernel_rfl

/-- Behind that many rounds. -/
def JoinAt (w : World) (s : ByteArray) (k : Nat) (b : Value) (wr : World) : Prop :=
  (k = 0 ∧ b = .slice none 0 0 ∧ wr = w) ∨ (k = 1 ∧ wr.ownsRow w.heap.size 5 1 b (s.size + 1) (strCells s ++ [.int .u8 10]) ∧ Below w.heap.size w wr)

/-- The bytes of the line, and its end, in a row of the call's own. -/
def JoinEnd (w : World) (s : ByteArray) (e : Ending) (w' : World) : Prop :=
  ∃ b c, e = .returned (.slice (some ⟨b, 0, none⟩) (s.size + 1) c) ∧ w'.ownsRow w.heap.size 5 1 (.slice (some ⟨b, 0, none⟩) (s.size + 1) c) (s.size + 1) (strCells s ++ [.int .u8 10]) ∧ Below w.heap.size w w'

theorem own_at {w : World} {base : Nat} {v : Value} {n : Nat} {xs : List Value} (h : w.ownsRow base 5 1 v n xs) (hn : 0 < n) : ∃ b c, v = .slice (some ⟨b, 0, none⟩) n c := by
  rcases h.2 with ⟨_, h0⟩ | ⟨g, cap, cur, hv, _⟩
  · omega
  · exact ⟨g, cap, hv⟩

set_option maxRecDepth 100000 in
set_option maxHeartbeats 400000 in
theorem join_one (g : Nat) (s : ByteArray) (w : World) (hs : s.size ≤ 1000) (hc : w.cell? ⟨g, 0, none⟩ = some (.string s)) :
    Calls Try.prog 98 #[.slice (some ⟨g, 0, none⟩) 1 1] w (JoinEnd w s) := by
  obtain ⟨i0, hi, hz0, hz1, hz2⟩ := info_parts info5
  have Hw := Lib.hid hc
  go_enter Try.func98, Try.ntmps98
  go_wp2
  go_loopw [3, 8] (fun b i wr => ∃ k : Nat, k ≤ 1 ∧ i = .int .i64 k ∧ JoinAt w s k b wr) (fun _ i _ => 1 - (intOf i).toNat)
  case atStart => exact ⟨0, by omega, rfl, .inl ⟨rfl, rfl, rfl⟩⟩
  case round =>
    obtain ⟨k, hk, rfl, h⟩ := hrel
    rcases h with ⟨rfl, rfl, rfl⟩ | ⟨rfl, hown, hb⟩
    · go_wp2_with (first
        | (at_builtin; refine wpList_append_own_string _ rfl (.tmp 12) (.tmp 13) _ _ rfl wr.heap.size 5 i0 Try.underlying22 Try.underlying9 hi hz0 hz1 hz2 (.slice none 0 0) 0 [] rfl (World.ownsRow_nil _ _ _ _) s rfl (by unfold maxLen; omega) (by omega) (Nat.le_refl _) ?_; intro v1 w1 hown1 hg1 _)
        | (at_builtin; refine wpList_append_own _ rfl (.tmp 14) (.tmp 15) _ rfl wr.heap.size 5 i0 (.int .u8 0) 1 1 Try.underlying22 hi hz0 hz1 hz2 rfl (by decide) v1 (0 + s.size) ([] ++ strCells s) rfl (hown1.alloc _) ⟨w1.heap.size, 0, none⟩ 1 1 [.int .u8 10] rfl rfl (cell_one_new _ _ _) (by intro u hu; simp at hu; subst hu; rfl) (by unfold maxLen; omega) (by omega) (by simp; exact Nat.le_succ_of_le hg1.size) ?_; intro v2 w2 hown2 hg2 _))
      have hb1 : Below wr.heap.size wr w1 := (Below.refl _ _).grown hg1 (Nat.le_refl _) (by simp [Value.ownBlock])
      have hb2 : Below wr.heap.size wr w2 := (hb1.alloc hb1.size _).grown hg2 (by simp; exact Nat.le_succ_of_le hg1.size) (fun k hk => (hown1.lt k hk).1)
      have H2 : JoinAt wr s 1 v2 w2 := .inr ⟨rfl, by simpa using hown2, hb2⟩
      clear hown1 hown2 hg1 hg2 hb1 hb2
      go_roundw
      case rel => exact ⟨1, by omega, rfl, H2⟩
      case measure => simp [intOf]
    · obtain ⟨b, c, rfl⟩ := own_at hown (by omega)
      have HO := Lib.hid hown
      have HB := Lib.hid hb
      clear hown hb
      go_wp2
      go_ret
      exact ⟨b, c, rfl, HO.out, HB.out⟩

/-- One piece of output: port 0, the bytes of the line and its end; all in blocks of the call's own. -/
def TellEnd (w : World) (s : ByteArray) (e : Ending) (w' : World) : Prop :=
  ∃ g b c, e = .returned (.slice (some ⟨g, 0, none⟩) 1 1) ∧ w.heap.size ≤ g ∧ Has w' g 91 #[.int .i64 0, .slice (some ⟨b, 0, none⟩) (s.size + 1) c] ∧
    w'.ownsRow w.heap.size 5 1 (.slice (some ⟨b, 0, none⟩) (s.size + 1) c) (s.size + 1) (strCells s ++ [.int .u8 10]) ∧ Below w.heap.size w w'

set_option maxHeartbeats 400000 in
theorem tell_one (g : Nat) (s : ByteArray) (w : World) (hs : s.size ≤ 1000) (hc : w.cell? ⟨g, 0, none⟩ = some (.string s)) :
    Calls Try.prog 93 #[.int .i64 0, .slice (some ⟨g, 0, none⟩) 1 1] w (TellEnd w s) := by
  have Hc := Lib.hid hc
  clear hc
  go_enter Try.func93, Try.ntmps93
  go_wp2_with fail
  refine (join_one g s _ hs Hc.out).mono ?_
  rintro e w1 ⟨b, c, rfl, hown, hb⟩
  have HO := Lib.hid hown
  have HB := Lib.hid hb
  clear hown hb
  go_wp2_with fail
  go_ret
  exact ⟨_, b, c, rfl, HB.out.size, Has.made _ _ _, HO.out.alloc _, HB.out.alloc HB.out.size _⟩

end Go.Proofs.Ytfbmhejpndgbmaa
