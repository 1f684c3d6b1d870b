/-
  Contracts of the reference's holds, Check, Arity and of the law's fit: whatever the parameters, they answer; of the kind 9 just what. No condition but that the bytes handed in can be read.
-/
import Derived.Test.YtfbmhejpndgbmaaRow
namespace Go.Proofs.Ytfbmhejpndgbmaa
open Go.RowKit

/-- Some int; nothing that was there has turned. -/
def SomeIb (w : World) (e : Ending) (w' : World) : Prop := ∃ v : Int, e = .returned (.int .i64 v) ∧ Below w.heap.size w w'
theorem SomeIb.mk {w w' : World} (v : Int) (h : Below w.heap.size w w') : SomeIb w (.returned (.int .i64 v)) w' := ⟨v, rfl, h⟩

section
variable (k n : Int) (A B : Option Addr) (la ca lb cb : Nat) (f : Nat → Int) (w : World)

theorem row_upto (hA : Bs w A la f) (hla : la ≤ maxLen) (h1 : 1 ≤ k) (h2 : k ≤ 16) : Calls Try.prog 33 #[par k n A la ca B lb cb] w (SomeBb w) := by
  have h : k = 1 ∨ k = 2 ∨ k = 3 ∨ k = 4 ∨ k = 5 ∨ k = 6 ∨ k = 7 ∨ k = 8 ∨ k = 9 ∨ k = 10 ∨ k = 11 ∨ k = 12 ∨ k = 13 ∨ k = 14 ∨ k = 15 ∨ k = 16 := by omega
  rcases h with rfl | rfl | rfl | rfl | rfl | rfl | rfl | rfl | rfl | rfl | rfl | rfl | rfl | rfl | rfl | rfl
  · exact row_1 n A B la ca lb cb f w hA hla
  · exact row_2 n A B la ca lb cb f w hA hla
  · exact row_3 n A B la ca lb cb f w hA hla
  · exact row_4 n A B la ca lb cb f w hA hla
  · exact row_5 n A B la ca lb cb f w hA hla
  · exact row_6 n A B la ca lb cb f w hA hla
  · exact row_7 n A B la ca lb cb f w hA hla
  · exact row_8 n A B la ca lb cb f w hA hla
  · exact row_9 n A B la ca lb cb f w hA hla
  · exact row_10 n A B la ca lb cb f w hA hla
  · exact row_11 n A B la ca lb cb f w hA hla
  · exact row_12 n A B la ca lb cb f w hA hla
  · exact row_13 n A B la ca lb cb f w hA hla
  · exact row_14 n A B la ca lb cb f w hA hla
  · exact row_15 n A B la ca lb cb f w hA hla
  · exact row_16 n A B la ca lb cb f w hA hla

set_option maxHeartbeats 400000 in
set_option maxRecDepth 100000 in
theorem holds_any (h1 : 1 ≤ k) (h2 : k ≤ 16) : Calls Try.prog 30 #[par k n A la ca B lb cb] w (SomeIb w) := by
  have h : k = 1 ∨ k = 2 ∨ k = 3 ∨ k = 4 ∨ k = 5 ∨ k = 6 ∨ k = 7 ∨ k = 8 ∨ k = 9 ∨ k = 10 ∨ k = 11 ∨ k = 12 ∨ k = 13 ∨ k = 14 ∨ k = 15 ∨ k = 16 := by omega
  clear h1 h2
  rcases h with rfl | rfl | rfl | rfl | rfl | rfl | rfl | rfl | rfl | rfl | rfl | rfl | rfl | rfl | rfl | rfl <;> (
    go_enter Try.func30, Try.ntmps30
    go_wp2
    all_goals go_ret
    all_goals exact SomeIb.mk _ ((Below.refl _ _).alloc (Nat.le_refl _) _))

theorem holds_9 : Calls Try.prog 30 #[par 9 n A la ca B lb cb] w fun e w' => e = .returned (.int .i64 0) ∧ Below w.heap.size w w' := by
  go_enter Try.func30, Try.ntmps30
  go_wp2
  go_ret
  exact ⟨rfl, (Below.refl _ _).alloc (Nat.le_refl _) _⟩

set_option maxRecDepth 100000 in
theorem row_9_yes (ha : (la : Int) = 0) (hb : (lb : Int) = 0) : Calls Try.prog 33 #[par 9 0 A la ca B lb cb] w fun e w' => e = .returned (.bool true) ∧ Below w.heap.size w w' := by
  have h1 : ((la : Int) == 0) = true := by simp; omega
  have h2 : ((lb : Int) == 0) = true := by simp; omega
  clear ha hb
  go_enter Try.func33, Try.ntmps33
  go_wp2
  go_ret
  exact ⟨rfl, (Below.refl _ _).alloc (Nat.le_refl _) _⟩

set_option maxRecDepth 100000 in
theorem row_9_no (h : ¬ (n = 0 ∧ (la : Int) = 0 ∧ (lb : Int) = 0)) : Calls Try.prog 33 #[par 9 n A la ca B lb cb] w fun e w' => e = .returned (.bool false) ∧ Below w.heap.size w w' := by
  by_cases ha : (la : Int) = 0
  · have h1 : ((la : Int) == 0) = true := by simp; omega
    by_cases hb : (lb : Int) = 0
    · have h2 : ((lb : Int) == 0) = true := by simp; omega
      have h3 : (n == 0) = false := by simp; omega
      clear ha hb h
      go_enter Try.func33, Try.ntmps33
      go_wp2
      go_ret
      exact ⟨rfl, (Below.refl _ _).alloc (Nat.le_refl _) _⟩
    · have h2 : ((lb : Int) == 0) = false := by simp; omega
      clear ha hb h
      go_enter Try.func33, Try.ntmps33
      go_wp2
      go_ret
      exact ⟨rfl, (Below.refl _ _).alloc (Nat.le_refl _) _⟩
  · have h1 : ((la : Int) == 0) = false := by simp; omega
    clear ha h
    go_enter Try.func33, Try.ntmps33
    go_wp2
    go_ret
    exact ⟨rfl, (Below.refl _ _).alloc (Nat.le_refl _) _⟩

end
end Go.Proofs.Ytfbmhejpndgbmaa
