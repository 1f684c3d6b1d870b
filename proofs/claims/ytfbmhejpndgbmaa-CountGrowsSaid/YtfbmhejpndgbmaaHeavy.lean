/-
  Contracts of the law's heavy (whether more is handed in than is gone through) and of cut (a number from 1 to 32). Conditions: the streams and the cuts can be read.
-/
import Derived.Test.YtfbmhejpndgbmaaFit
namespace Go.Proofs.Ytfbmhejpndgbmaa
open Go.RowKit

/-- ns streams can be read from S on: the slices of their bytes. -/
def Sts (w : World) (S : Option Addr) (ns : Nat) (X : Nat → Option Addr) (N C : Nat → Nat) : Prop :=
  ns = 0 ∨ ∃ b o, S = some ⟨b, o, none⟩ ∧ b < w.heap.size ∧ ∀ k, k < ns → w.cell? ⟨b, o + k * 5, none⟩ = some (.slice (X k) (N k) (C k)) ∧ N k ≤ maxLen

theorem Sts.below {w w' : World} {S : Option Addr} {ns : Nat} {X : Nat → Option Addr} {N C : Nat → Nat} (h : Sts w S ns X N C) (hb : Below w.heap.size w w') : Sts w' S ns X N C := by
  rcases h with h | ⟨b, o, e, hlt, hc⟩
  · exact .inl h
  · exact .inr ⟨b, o, e, Nat.lt_of_lt_of_le hlt hb.size, fun k hk => ⟨(hb.cell (p := ⟨b, o + k * 5, none⟩) hlt).trans (hc k hk).1, (hc k hk).2⟩⟩

/-- nc slices of integers can be read from block b's cell o on. -/
def Cts (w : World) (b o nc : Nat) (Y : Nat → Option Addr) (M D : Nat → Nat) : Prop :=
  b < w.heap.size ∧ ∀ k, k < nc → w.cell? ⟨b, o + k, none⟩ = some (.slice (Y k) (M k) (D k)) ∧ M k ≤ maxLen

theorem Cts.below {w w' : World} {b o nc : Nat} {Y : Nat → Option Addr} {M D : Nat → Nat} (h : Cts w b o nc Y M D) (hb : Below w.heap.size w w') : Cts w' b o nc Y M D :=
  ⟨Nat.lt_of_lt_of_le h.1 hb.size, fun k hk => ⟨(hb.cell (p := ⟨b, o + k, none⟩) h.1).trans (h.2 k hk).1, (h.2 k hk).2⟩⟩

/-- What it means that no more is handed in than is gone through. -/
def Light (la lb ns nc : Nat) (N M : Nat → Nat) : Prop := la ≤ 1000 ∧ lb ≤ 1000 ∧ ns ≤ 8 ∧ (∀ k, k < ns → N k ≤ 2000) ∧ (∀ k, k < nc → M k ≤ 3000)

def HeavyEnd (la lb ns nc : Nat) (N M : Nat → Nat) (w : World) (e : Ending) (w' : World) : Prop :=
  ∃ b, e = .returned (.bool b) ∧ Below w.heap.size w w' ∧ (b = false → Light la lb ns nc N M)

theorem HeavyEnd.yes {la lb ns nc : Nat} {N M : Nat → Nat} {w w' : World} (h : Below w.heap.size w w') : HeavyEnd la lb ns nc N M w (.returned (.bool true)) w' := ⟨true, rfl, h, by simp⟩
theorem HeavyEnd.no {la lb ns nc : Nat} {N M : Nat → Nat} {w w' : World} (h : Below w.heap.size w w') (hl : Light la lb ns nc N M) : HeavyEnd la lb ns nc N M w (.returned (.bool false)) w' := ⟨false, rfl, h, fun _ => hl⟩

/-- The first k are no longer than m. -/
def UpTo (N : Nat → Nat) (m k : Nat) : Prop := ∀ j, j < k → N j ≤ m
theorem UpTo.zero (N : Nat → Nat) (m : Nat) : UpTo N m 0 := fun j h => absurd h (by omega)
theorem UpTo.succ {N : Nat → Nat} {m k : Nat} (h : UpTo N m k) (hk : N k ≤ m) : UpTo N m (k + 1) := fun j hj => by
  by_cases e : j = k
  · rw [e]; exact hk
  · exact h j (by omega)

set_option maxRecDepth 100000 in
set_option maxHeartbeats 1000000 in
theorem heavy_any (k n : Int) (A B : Option Addr) (la ca lb cb : Nat) (S : Option Addr) (ns cs : Nat) (X : Nat → Option Addr) (N C : Nat → Nat) (b o nc cc : Nat) (Y : Nat → Option Addr) (M D : Nat → Nat) (w : World)
    (hS : Sts w S ns X N C) (hns : ns ≤ maxLen) (hC : Cts w b o nc Y M D) (hnc : nc ≤ maxLen) :
    Calls Try.prog 9 #[par k n A la ca B lb cb, .slice S ns cs, .slice (some ⟨b, o, none⟩) nc cc] w (HeavyEnd la lb ns nc N M w) := by
  have hS' := hS.below (box_below w (.cells #[.int .i64 k, .int .i64 n, .slice A la ca, .slice B lb cb] 24))
  have hC' := hC.below (box_below w (.cells #[.int .i64 k, .int .i64 n, .slice A la ca, .slice B lb cb] 24))
  have HC := Lib.hid hC'
  unfold maxLen at hns hnc
  clear hS hC hC'
  by_cases h1 : 1000 < la
  · go_enter Try.func9, Try.ntmps9
    go_wp2
    go_ret
    exact HeavyEnd.yes (box_below _ _)
  by_cases h2 : 1000 < lb
  · go_enter Try.func9, Try.ntmps9
    go_wp2
    go_ret
    exact HeavyEnd.yes (box_below _ _)
  by_cases h3 : 8 < ns
  · go_enter Try.func9, Try.ntmps9
    go_wp2
    go_ret
    exact HeavyEnd.yes (box_below _ _)
  have h1' : la ≤ 1000 := by omega
  have h2' : lb ≤ 1000 := by omega
  have h3' : ns ≤ 8 := by omega
  clear h1 h2 h3
  have HS := Lib.hid hS'
  clear hS'
  go_enter Try.func9, Try.ntmps9
  go_wp2
  go_loop [7] (fun i => ∃ j : Nat, j ≤ ns ∧ i = .int .i64 j ∧ UpTo N 2000 j) (fun i => ns - (intOf i).toNat)
  case atStart => exact ⟨0, by omega, rfl, UpTo.zero _ _⟩
  case round =>
    obtain ⟨j, hj, rfl, hu⟩ := hrel
    by_cases hjn : j < ns
    · rcases HS.out with h0 | ⟨sb, so, rfl, hlt, hc⟩
      · omega
      have hcell := (hc j hjn).1
      have hb := (hc j hjn).2
      unfold maxLen at hb
      clear hc
      by_cases hl : 2000 < N j
      · go_wp2
        go_ret
        exact HeavyEnd.yes (box_below _ _)
      · have hl' : N j ≤ 2000 := by omega
        go_wp2
        go_round
        case rel => exact ⟨j + 1, by omega, by go_num, hu.succ hl'⟩
        case measure => simp [intOf]; omega
    · have HU : Hid (UpTo N 2000 ns) := by have e : j = ns := by omega
                                           rw [← e]; exact hu
      clear hu
      go_wp2
      go_loop [8] (fun i => ∃ q : Nat, q ≤ nc ∧ i = .int .i64 q ∧ UpTo M 3000 q) (fun i => nc - (intOf i).toNat)
      case atStart => exact ⟨0, by omega, rfl, UpTo.zero _ _⟩
      case round =>
        obtain ⟨q, hq, rfl, hv⟩ := hrel
        by_cases hqn : q < nc
        · have hcell := (HC.out.2 q hqn).1
          have hb := (HC.out.2 q hqn).2
          unfold maxLen at hb
          by_cases hl : 3000 < M q
          · go_wp2
            go_ret
            exact HeavyEnd.yes (box_below _ _)
          · have hl' : M q ≤ 3000 := by omega
            go_wp2
            go_round
            case rel => exact ⟨q + 1, by omega, by go_num, hv.succ hl'⟩
            case measure => simp [intOf]; omega
        · have HV : Hid (UpTo M 3000 nc) := by have e : q = nc := by omega
                                               rw [← e]; exact hv
          clear hv
          go_wp2
          go_ret
          exact HeavyEnd.no (box_below _ _) ⟨h1', h2', h3', HU.out, HV.out⟩

end Go.Proofs.Ytfbmhejpndgbmaa
