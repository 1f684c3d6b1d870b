/-
  Contracts of the reference's small functions on parameters: within, one, has, unlike. No condition but that the bytes handed in can be read.
-/
import Derived.Test.YtfbmhejpndgbmaaWords
namespace Go.Proofs.Ytfbmhejpndgbmaa
open Go.RowKit

/-- n bytes can be read from A on. -/
def Bs (w : World) (A : Option Addr) (n : Nat) (f : Nat → Int) : Prop :=
  n = 0 ∨ ∃ b o, A = some ⟨b, o, none⟩ ∧ b < w.heap.size ∧ ∀ k, k < n → w.cell? ⟨b, o + k, none⟩ = some (.int .u8 (f k))

theorem Bs.below {w w' : World} {A : Option Addr} {n : Nat} {f : Nat → Int} (h : Bs w A n f) (hb : Below w.heap.size w w') : Bs w' A n f := by
  rcases h with h | ⟨b, o, e, hlt, hc⟩
  · exact .inl h
  · exact .inr ⟨b, o, e, Nat.lt_of_lt_of_le hlt hb.size, fun k hk => (hb.cell (p := ⟨b, o + k, none⟩) hlt).trans (hc k hk)⟩

/-- Some bool, and the world is as it was. -/
def SomeB (w : World) (e : Ending) (w' : World) : Prop := ∃ b, e = .returned (.bool b) ∧ w = w'
theorem SomeB.mk (b : Bool) (w : World) : SomeB w (.returned (.bool b)) w := ⟨b, rfl, rfl⟩

theorem within_any (n a b : Int) (w : World) :
    Calls Try.prog 35 #[.int .i64 n, .int .i64 a, .int .i64 b] w fun e w' => e = .returned (.bool (decide (a ≤ n) && decide (n ≤ b))) ∧ w = w' := by
  by_cases h : a ≤ n
  · go_enter Try.func35, Try.ntmps35
    go_wp2
    go_ret
    exact ⟨by simp [h], rfl⟩
  · have h' : n < a := by omega
    go_enter Try.func35, Try.ntmps35
    go_wp2
    go_ret
    exact ⟨by rw [decide_eq_false (show ¬ a ≤ n by omega)]; rfl, rfl⟩

set_option maxHeartbeats 400000 in
theorem has_any (A : Option Addr) (n c : Nat) (x : Int) (f : Nat → Int) (w : World) (hA : Bs w A n f) (hn : n ≤ maxLen) :
    Calls Try.prog 36 #[.slice A n c, .int .u8 x] w (SomeB w) := by
  unfold maxLen at hn
  rcases hA with rfl | ⟨b, o, rfl, hlt, hc⟩
  · go_enter Try.func36, Try.ntmps36
    go_wp2
    go_loop [5] (fun i => i = .int .i64 0) (fun _ => 0)
    case atStart => rfl
    case round =>
      subst hrel
      go_wp2
      go_ret
      exact SomeB.mk _ _
  · go_enter Try.func36, Try.ntmps36
    go_wp2
    go_loop [5] (fun i => ∃ k : Nat, k ≤ n ∧ i = .int .i64 k) (fun i => n - (intOf i).toNat)
    case atStart => exact ⟨0, Nat.zero_le _, rfl⟩
    case round =>
      obtain ⟨k, hk, rfl⟩ := hrel
      by_cases hlt' : k < n
      · have hcell := hc k hlt'
        clear hc
        by_cases hx : f k = x
        · have hb : (f k == x) = true := by simp [hx]
          clear hx
          go_wp2
          go_ret
          exact SomeB.mk _ _
        · have hb : (f k == x) = false := by simp [hx]
          clear hx
          go_wp2
          go_round
          case rel => exact ⟨k + 1, by omega, by go_num⟩
          case measure => simp [intOf]; omega
      · go_wp2
        go_ret
        exact SomeB.mk _ _

/-- Some bool, and the world is as it was but for draws. -/
def SomeBd (w : World) (e : Ending) (w' : World) : Prop := ∃ b n, e = .returned (.bool b) ∧ w' = w.drewN n
theorem SomeBd.mk (b : Bool) (w : World) (n : Nat) : SomeBd w (.returned (.bool b)) (w.drewN n) := ⟨b, n, rfl, rfl⟩

set_option maxHeartbeats 400000 in
theorem unlike_any (A : Option Addr) (n c : Nat) (f : Nat → Int) (w : World) (hA : Bs w A n f) (hn : n ≤ maxLen) :
    Calls Try.prog 37 #[.slice A n c] w (SomeBd w) := by
  unfold maxLen at hn
  rcases hA with rfl | ⟨b, o, rfl, hlt, hc⟩
  · go_enter Try.func37, Try.ntmps37
    go_wp2
    go_loop [3] (fun i => i = .int .i64 0) (fun _ => 0)
    case atStart => rfl
    case round =>
      subst hrel
      go_wp2
      go_ret
      exact SomeBd.mk _ _ 0
  · go_enter Try.func37, Try.ntmps37
    go_wp2
    go_loopw [3, 4] (fun i _ wr => ∃ k m : Nat, k ≤ n ∧ i = .int .i64 k ∧ wr = w.drewN m) (fun i _ _ => n - (intOf i).toNat)
    case atStart => exact ⟨0, 0, Nat.zero_le _, rfl, rfl⟩
    case round =>
      obtain ⟨k, m, hk, rfl, rfl⟩ := hrel
      by_cases hlt' : k < n
      · have hcell := hc k hlt'
        go_wp2
        go_loopw [4] (fun i wr => ∃ j m : Nat, j ≤ k ∧ i = .int .i64 j ∧ wr = w.drewN m) (fun i _ => k - (intOf i).toNat)
        case atStart => exact ⟨0, m, Nat.zero_le _, rfl, rfl⟩
        case round =>
          obtain ⟨j, m, hj, rfl, rfl⟩ := hrel
          by_cases hjk : j < k
          · have hcell2 := hc j (by omega)
            clear hc
            by_cases hx : f j = f k
            · have hb : (f j == f k) = true := by simp [hx]
              clear hx
              go_wp2
              go_quiet (fail)
              go_wp2
              go_ret
              exact ⟨_, m + nq, rfl, by rw [World.drewN_drewN]⟩
            · have hb : (f j == f k) = false := by simp [hx]
              clear hx
              go_wp2
              go_quiet (fail)
              go_wp2
              go_roundw
              case rel => exact ⟨j + 1, _, by omega, by go_num, rfl⟩
              case measure => simp [intOf]; omega
          · clear hc
            go_wp2
            go_roundw
            case rel => exact ⟨k + 1, _, by omega, by go_num, rfl⟩
            case measure => simp [intOf]; omega
      · clear hc
        go_wp2
        go_ret
        exact SomeBd.mk _ _ _

theorem one_any (A : Option Addr) (n c : Nat) (f : Nat → Int) (w : World) (hA : Bs w A n f) :
    Calls Try.prog 38 #[.slice A n c] w (SomeB w) := by
  rcases hA with rfl | ⟨b, o, rfl, hlt, hc⟩
  · go_enter Try.func38, Try.ntmps38
    go_wp2
    go_ret
    exact SomeB.mk _ _
  · by_cases h1 : n = 1
    · subst h1
      have hcell := hc 0 (by omega)
      rw [Nat.add_zero] at hcell
      clear hc
      go_enter Try.func38, Try.ntmps38
      go_wp2
      go_ret
      exact SomeB.mk _ _
    · have hb : ((n : Int) == 1) = false := by simp; omega
      clear hc
      go_enter Try.func38, Try.ntmps38
      go_wp2
      go_ret
      exact SomeB.mk _ _

end Go.Proofs.Ytfbmhejpndgbmaa
