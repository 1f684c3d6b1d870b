/-
  Contract of the driver's cut: a number from 1 to 32. Condition: the numbers handed in can be read.
-/
import Derived.Test.YtfbmhejpndgbmaaHeavy
namespace Go.Proofs.Ytfbmhejpndgbmaa
open Go.RowKit

/-- m integers can be read from Y on. -/
def Zs (w : World) (Y : Option Addr) (m : Nat) (g : Nat → Int) : Prop :=
  m = 0 ∨ ∃ b o, Y = some ⟨b, o, none⟩ ∧ b < w.heap.size ∧ ∀ k, k < m → w.cell? ⟨b, o + k, none⟩ = some (.int .i64 (g k)) ∧ -9223372036854775808 ≤ g k ∧ g k ≤ 9223372036854775807

theorem Zs.below {w w' : World} {Y : Option Addr} {m : Nat} {g : Nat → Int} (h : Zs w Y m g) (hb : Below w.heap.size w w') : Zs w' Y m g := by
  rcases h with h | ⟨b, o, e, hlt, hc⟩
  · exact .inl h
  · exact .inr ⟨b, o, e, Nat.lt_of_lt_of_le hlt hb.size, fun k hk => ⟨(hb.cell (p := ⟨b, o + k, none⟩) hlt).trans (hc k hk).1, (hc k hk).2⟩⟩

/-- A number from 1 to 32; the world is as it was. -/
def CutEnd (w : World) (e : Ending) (w' : World) : Prop := ∃ v : Nat, 1 ≤ v ∧ v ≤ 32 ∧ e = .returned (.int .i64 v) ∧ w = w'
theorem CutEnd.mk {v : Int} (w : World) (h1 : 1 ≤ v) (h2 : v ≤ 32) : CutEnd w (.returned (.int .i64 v)) w := ⟨v.toNat, by omega, by omega, by rw [show ((v.toNat : Nat) : Int) = v by omega], rfl⟩

theorem cut_any (Y : Option Addr) (m c : Nat) (g : Nat → Int) (n : Nat) (w : World) (hZ : Zs w Y m g) (hm : m ≤ 3000) (hn : n ≤ 100000) :
    Calls Try.prog 26 #[.slice Y m c, .int .i64 n] w (CutEnd w) := by
  rcases hZ with rfl | ⟨b, o, rfl, hlt, hc⟩
  · go_enter Try.func26, Try.ntmps26
    go_wp2
    go_ret
    exact CutEnd.mk _ (by omega) (by omega)
  · by_cases h0 : m = 0
    · subst h0
      clear hc
      go_enter Try.func26, Try.ntmps26
      go_wp2
      go_ret
      exact CutEnd.mk _ (by omega) (by omega)
    · have hb : ((m : Int) == 0) = false := by simp; omega
      have hml : n % m < m := Nat.mod_lt _ (by omega)
      obtain ⟨hcell, hlo, hhi⟩ := hc (n % m) hml
      clear hc
      have hpos : 1 ≤ m := by omega
      generalize g (n % m) = z at hcell hlo hhi
      clear h0
      by_cases hneg : z.tmod 32 < 0
      · have h1 : -31 ≤ z.tmod 32 := by have := Int.lt_tmod_of_pos z (b := 32) (by omega); omega
        go_enter Try.func26, Try.ntmps26
        go_wp2
        go_ret
        exact CutEnd.mk _ (by omega) (by omega)
      · have h1 : z.tmod 32 ≤ 31 := by have := Int.tmod_lt_of_pos z (b := 32) (by omega); omega
        have h2 : 0 ≤ z.tmod 32 := by omega
        go_enter Try.func26, Try.ntmps26
        go_wp2
        go_ret
        exact CutEnd.mk _ (by omega) (by omega)

end Go.Proofs.Ytfbmhejpndgbmaa
