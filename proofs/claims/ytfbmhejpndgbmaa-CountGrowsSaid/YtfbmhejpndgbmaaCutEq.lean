/-
  Contract of the driver's cut, exactly: the number that it answers. Condition: the numbers handed in can be read.
-/
import Derived.Test.YtfbmhejpndgbmaaCut
namespace Go.Proofs.Ytfbmhejpndgbmaa
open Go.RowKit

/-- How many bytes go at once, the n-th time. -/
def cutN (m : Nat) (g : Nat → Int) (n : Nat) : Nat := if m = 0 then 32 else ((g (n % m)).tmod 32).natAbs + 1

theorem cutN_bd (m : Nat) (g : Nat → Int) (n : Nat) : 1 ≤ cutN m g n ∧ cutN m g n ≤ 32 := by
  unfold cutN
  split
  · omega
  · have h1 := Int.lt_tmod_of_pos (g (n % m)) (b := 32) (by omega)
    have h2 := Int.tmod_lt_of_pos (g (n % m)) (b := 32) (by omega)
    omega

theorem cut_eq (Y : Option Addr) (m c : Nat) (g : Nat → Int) (n : Nat) (w : World) (hZ : Zs w Y m g) (hm : m ≤ 3000) (hn : n ≤ 100000) :
    Calls Try.prog 26 #[.slice Y m c, .int .i64 n] w fun e w' => e = .returned (.int .i64 (cutN m g n)) ∧ w = w' := by
  rcases hZ with rfl | ⟨b, o, rfl, hlt, hc⟩
  · go_enter Try.func26, Try.ntmps26
    go_wp2
    go_ret
    exact ⟨rfl, rfl⟩
  · by_cases h0 : m = 0
    · subst h0
      clear hc
      go_enter Try.func26, Try.ntmps26
      go_wp2
      go_ret
      exact ⟨rfl, rfl⟩
    · have hb : ((m : Int) == 0) = false := by simp; omega
      have hml : n % m < m := Nat.mod_lt _ (by omega)
      obtain ⟨hcell, hlo, hhi⟩ := hc (n % m) hml
      clear hc
      have hpos : 1 ≤ m := by omega
      have hv : cutN m g n = ((g (n % m)).tmod 32).natAbs + 1 := by unfold cutN; rw [if_neg h0]
      have HV := Lib.hid hv
      generalize cutN m g n = v at HV ⊢
      generalize g (n % m) = z at hcell hlo hhi HV
      clear h0 hv
      by_cases hneg : z.tmod 32 < 0
      · have h1 : -31 ≤ z.tmod 32 := by have := Int.lt_tmod_of_pos z (b := 32) (by omega); omega
        go_enter Try.func26, Try.ntmps26
        go_wp2
        go_ret
        exact ⟨ret_int (by rw [HV.out]; omega), rfl⟩
      · have h1 : z.tmod 32 ≤ 31 := by have := Int.tmod_lt_of_pos z (b := 32) (by omega); omega
        have h2 : 0 ≤ z.tmod 32 := by omega
        go_enter Try.func26, Try.ntmps26
        go_wp2
        go_ret
        exact ⟨ret_int (by rw [HV.out]; omega), rfl⟩

end Go.Proofs.Ytfbmhejpndgbmaa
