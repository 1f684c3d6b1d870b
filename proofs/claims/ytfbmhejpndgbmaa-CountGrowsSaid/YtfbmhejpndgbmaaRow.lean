/-
  Contracts of the reference's row, holds, Check, Arity and of the law's fit: whatever the parameters, they answer; of the kind 9 just what. No condition but that the bytes handed in can be read.
-/
import Derived.Test.YtfbmhejpndgbmaaLeaf
namespace Go.Proofs.Ytfbmhejpndgbmaa
open Go.RowKit

/-- Parameters by value. -/
abbrev par (k n : Int) (A : Option Addr) (la ca : Nat) (B : Option Addr) (lb cb : Nat) : Value :=
  .agg #[.int .i64 k, .int .i64 n, .slice A la ca, .slice B lb cb]

/-- Some bool; nothing that was there has turned. -/
def SomeBb (w : World) (e : Ending) (w' : World) : Prop := ∃ b, e = .returned (.bool b) ∧ Below w.heap.size w w'
theorem SomeBb.mk {w w' : World} (b : Bool) (h : Below w.heap.size w w') : SomeBb w (.returned (.bool b)) w' := ⟨b, rfl, h⟩

section
variable (n : Int) (A B : Option Addr) (la ca lb cb : Nat) (f : Nat → Int) (w : World) (hA : Bs w A la f) (hla : la ≤ maxLen)
include hA hla

set_option maxRecDepth 100000 in
set_option maxHeartbeats 400000 in
theorem row_1 : Calls Try.prog 33 #[par 1 n A la ca B lb cb] w (SomeBb w) := by
  have HA2 := Lib.hid (fun (o : Obj) => hA.below ((Below.refl _ _).alloc (Nat.le_refl _) o))
  have Hm := hla
  clear hA
  unfold maxLen at hla
  have h1 : ((la : Int) == 0) = true ∨ ((la : Int) == 0) = false := by cases ((la : Int) == 0) <;> simp
  have h2 : ((lb : Int) == 0) = true ∨ ((lb : Int) == 0) = false := by cases ((lb : Int) == 0) <;> simp
  rcases h1 with h1 | h1 <;> rcases h2 with h2 | h2
  all_goals
    go_enter Try.func33, Try.ntmps33
    go_wp2_with (first
    | (go_at_call 35; refine (within_any _ _ _ _).mono ?_; rintro e w' ⟨rfl, rfl⟩)
    | (go_at_call 36; refine (has_any _ _ _ _ _ _ (HA2.out _) Hm).mono ?_; rintro e w' ⟨b, rfl, rfl⟩)
    | (go_at_call 37; refine (unlike_any _ _ _ _ _ (HA2.out _) Hm).mono ?_; rintro e w' ⟨b, m, rfl, rfl⟩)
    | (go_at_call 38; refine (one_any _ _ _ _ _ (HA2.out _)).mono ?_; rintro e w' ⟨b, rfl, rfl⟩))
    all_goals go_ret
    all_goals exact SomeBb.mk _ (by first | exact (Below.refl _ _).alloc (Nat.le_refl _) _ | exact belowDrewN ((Below.refl _ _).alloc (Nat.le_refl _) _) _)

set_option maxRecDepth 100000 in
set_option maxHeartbeats 400000 in
theorem row_2 : Calls Try.prog 33 #[par 2 n A la ca B lb cb] w (SomeBb w) := by
  have HA2 := Lib.hid (fun (o : Obj) => hA.below ((Below.refl _ _).alloc (Nat.le_refl _) o))
  have Hm := hla
  clear hA
  unfold maxLen at hla
  have h1 : ((la : Int) == 0) = true ∨ ((la : Int) == 0) = false := by cases ((la : Int) == 0) <;> simp
  have h2 : ((lb : Int) == 0) = true ∨ ((lb : Int) == 0) = false := by cases ((lb : Int) == 0) <;> simp
  rcases h1 with h1 | h1 <;> rcases h2 with h2 | h2
  all_goals
    go_enter Try.func33, Try.ntmps33
    go_wp2_with (first
    | (go_at_call 35; refine (within_any _ _ _ _).mono ?_; rintro e w' ⟨rfl, rfl⟩)
    | (go_at_call 36; refine (has_any _ _ _ _ _ _ (HA2.out _) Hm).mono ?_; rintro e w' ⟨b, rfl, rfl⟩)
    | (go_at_call 37; refine (unlike_any _ _ _ _ _ (HA2.out _) Hm).mono ?_; rintro e w' ⟨b, m, rfl, rfl⟩)
    | (go_at_call 38; refine (one_any _ _ _ _ _ (HA2.out _)).mono ?_; rintro e w' ⟨b, rfl, rfl⟩))
    all_goals go_ret
    all_goals exact SomeBb.mk _ (by first | exact (Below.refl _ _).alloc (Nat.le_refl _) _ | exact belowDrewN ((Below.refl _ _).alloc (Nat.le_refl _) _) _)

set_option maxRecDepth 100000 in
set_option maxHeartbeats 400000 in
theorem row_3 : Calls Try.prog 33 #[par 3 n A la ca B lb cb] w (SomeBb w) := by
  have HA2 := Lib.hid (fun (o : Obj) => hA.below ((Below.refl _ _).alloc (Nat.le_refl _) o))
  have Hm := hla
  clear hA
  unfold maxLen at hla
  have h1 : ((la : Int) == 0) = true ∨ ((la : Int) == 0) = false := by cases ((la : Int) == 0) <;> simp
  have h2 : ((lb : Int) == 0) = true ∨ ((lb : Int) == 0) = false := by cases ((lb : Int) == 0) <;> simp
  rcases h1 with h1 | h1 <;> rcases h2 with h2 | h2
  all_goals
    go_enter Try.func33, Try.ntmps33
    go_wp2_with (first
    | (go_at_call 35; refine (within_any _ _ _ _).mono ?_; rintro e w' ⟨rfl, rfl⟩)
    | (go_at_call 36; refine (has_any _ _ _ _ _ _ (HA2.out _) Hm).mono ?_; rintro e w' ⟨b, rfl, rfl⟩)
    | (go_at_call 37; refine (unlike_any _ _ _ _ _ (HA2.out _) Hm).mono ?_; rintro e w' ⟨b, m, rfl, rfl⟩)
    | (go_at_call 38; refine (one_any _ _ _ _ _ (HA2.out _)).mono ?_; rintro e w' ⟨b, rfl, rfl⟩))
    all_goals go_ret
    all_goals exact SomeBb.mk _ (by first | exact (Below.refl _ _).alloc (Nat.le_refl _) _ | exact belowDrewN ((Below.refl _ _).alloc (Nat.le_refl _) _) _)

set_option maxRecDepth 100000 in
set_option maxHeartbeats 400000 in
theorem row_4 : Calls Try.prog 33 #[par 4 n A la ca B lb cb] w (SomeBb w) := by
  have HA2 := Lib.hid (fun (o : Obj) => hA.below ((Below.refl _ _).alloc (Nat.le_refl _) o))
  have Hm := hla
  clear hA
  unfold maxLen at hla
  have h1 : ((la : Int) == 0) = true ∨ ((la : Int) == 0) = false := by cases ((la : Int) == 0) <;> simp
  have h2 : ((lb : Int) == 0) = true ∨ ((lb : Int) == 0) = false := by cases ((lb : Int) == 0) <;> simp
  rcases h1 with h1 | h1 <;> rcases h2 with h2 | h2
  all_goals
    go_enter Try.func33, Try.ntmps33
    go_wp2_with (first
    | (go_at_call 35; refine (within_any _ _ _ _).mono ?_; rintro e w' ⟨rfl, rfl⟩)
    | (go_at_call 36; refine (has_any _ _ _ _ _ _ (HA2.out _) Hm).mono ?_; rintro e w' ⟨b, rfl, rfl⟩)
    | (go_at_call 37; refine (unlike_any _ _ _ _ _ (HA2.out _) Hm).mono ?_; rintro e w' ⟨b, m, rfl, rfl⟩)
    | (go_at_call 38; refine (one_any _ _ _ _ _ (HA2.out _)).mono ?_; rintro e w' ⟨b, rfl, rfl⟩))
    all_goals go_ret
    all_goals exact SomeBb.mk _ (by first | exact (Below.refl _ _).alloc (Nat.le_refl _) _ | exact belowDrewN ((Below.refl _ _).alloc (Nat.le_refl _) _) _)

set_option maxRecDepth 100000 in
set_option maxHeartbeats 400000 in
theorem row_5 : Calls Try.prog 33 #[par 5 n A la ca B lb cb] w (SomeBb w) := by
  have HA2 := Lib.hid (fun (o : Obj) => hA.below ((Below.refl _ _).alloc (Nat.le_refl _) o))
  have Hm := hla
  clear hA
  unfold maxLen at hla
  have h1 : ((la : Int) == 0) = true ∨ ((la : Int) == 0) = false := by cases ((la : Int) == 0) <;> simp
  have h2 : ((lb : Int) == 0) = true ∨ ((lb : Int) == 0) = false := by cases ((lb : Int) == 0) <;> simp
  rcases h1 with h1 | h1 <;> rcases h2 with h2 | h2
  all_goals
    go_enter Try.func33, Try.ntmps33
    go_wp2_with (first
    | (go_at_call 35; refine (within_any _ _ _ _).mono ?_; rintro e w' ⟨rfl, rfl⟩)
    | (go_at_call 36; refine (has_any _ _ _ _ _ _ (HA2.out _) Hm).mono ?_; rintro e w' ⟨b, rfl, rfl⟩)
    | (go_at_call 37; refine (unlike_any _ _ _ _ _ (HA2.out _) Hm).mono ?_; rintro e w' ⟨b, m, rfl, rfl⟩)
    | (go_at_call 38; refine (one_any _ _ _ _ _ (HA2.out _)).mono ?_; rintro e w' ⟨b, rfl, rfl⟩))
    all_goals go_ret
    all_goals exact SomeBb.mk _ (by first | exact (Below.refl _ _).alloc (Nat.le_refl _) _ | exact belowDrewN ((Below.refl _ _).alloc (Nat.le_refl _) _) _)

set_option maxRecDepth 100000 in
set_option maxHeartbeats 400000 in
theorem row_6 : Calls Try.prog 33 #[par 6 n A la ca B lb cb] w (SomeBb w) := by
  have HA2 := Lib.hid (fun (o : Obj) => hA.below ((Below.refl _ _).alloc (Nat.le_refl _) o))
  have Hm := hla
  clear hA
  unfold maxLen at hla
  have h1 : ((la : Int) == 0) = true ∨ ((la : Int) == 0) = false := by cases ((la : Int) == 0) <;> simp
  have h2 : ((lb : Int) == 0) = true ∨ ((lb : Int) == 0) = false := by cases ((lb : Int) == 0) <;> simp
  rcases h1 with h1 | h1 <;> rcases h2 with h2 | h2
  all_goals
    go_enter Try.func33, Try.ntmps33
    go_wp2_with (first
    | (go_at_call 35; refine (within_any _ _ _ _).mono ?_; rintro e w' ⟨rfl, rfl⟩)
    | (go_at_call 36; refine (has_any _ _ _ _ _ _ (HA2.out _) Hm).mono ?_; rintro e w' ⟨b, rfl, rfl⟩)
    | (go_at_call 37; refine (unlike_any _ _ _ _ _ (HA2.out _) Hm).mono ?_; rintro e w' ⟨b, m, rfl, rfl⟩)
    | (go_at_call 38; refine (one_any _ _ _ _ _ (HA2.out _)).mono ?_; rintro e w' ⟨b, rfl, rfl⟩))
    all_goals go_ret
    all_goals exact SomeBb.mk _ (by first | exact (Below.refl _ _).alloc (Nat.le_refl _) _ | exact belowDrewN ((Below.refl _ _).alloc (Nat.le_refl _) _) _)

set_option maxRecDepth 100000 in
set_option maxHeartbeats 400000 in
theorem row_7 : Calls Try.prog 33 #[par 7 n A la ca B lb cb] w (SomeBb w) := by
  have HA2 := Lib.hid (fun (o : Obj) => hA.below ((Below.refl _ _).alloc (Nat.le_refl _) o))
  have Hm := hla
  clear hA
  unfold maxLen at hla
  have h1 : ((la : Int) == 0) = true ∨ ((la : Int) == 0) = false := by cases ((la : Int) == 0) <;> simp
  have h2 : ((lb : Int) == 0) = true ∨ ((lb : Int) == 0) = false := by cases ((lb : Int) == 0) <;> simp
  rcases h1 with h1 | h1 <;> rcases h2 with h2 | h2
  all_goals
    go_enter Try.func33, Try.ntmps33
    go_wp2_with (first
    | (go_at_call 35; refine (within_any _ _ _ _).mono ?_; rintro e w' ⟨rfl, rfl⟩)
    | (go_at_call 36; refine (has_any _ _ _ _ _ _ (HA2.out _) Hm).mono ?_; rintro e w' ⟨b, rfl, rfl⟩)
    | (go_at_call 37; refine (unlike_any _ _ _ _ _ (HA2.out _) Hm).mono ?_; rintro e w' ⟨b, m, rfl, rfl⟩)
    | (go_at_call 38; refine (one_any _ _ _ _ _ (HA2.out _)).mono ?_; rintro e w' ⟨b, rfl, rfl⟩))
    all_goals go_ret
    all_goals exact SomeBb.mk _ (by first | exact (Below.refl _ _).alloc (Nat.le_refl _) _ | exact belowDrewN ((Below.refl _ _).alloc (Nat.le_refl _) _) _)

set_option maxRecDepth 100000 in
set_option maxHeartbeats 400000 in
theorem row_8 : Calls Try.prog 33 #[par 8 n A la ca B lb cb] w (SomeBb w) := by
  have HA2 := Lib.hid (fun (o : Obj) => hA.below ((Below.refl _ _).alloc (Nat.le_refl _) o))
  have Hm := hla
  clear hA
  unfold maxLen at hla
  have h1 : ((la : Int) == 0) = true ∨ ((la : Int) == 0) = false := by cases ((la : Int) == 0) <;> simp
  have h2 : ((lb : Int) == 0) = true ∨ ((lb : Int) == 0) = false := by cases ((lb : Int) == 0) <;> simp
  rcases h1 with h1 | h1 <;> rcases h2 with h2 | h2
  all_goals
    go_enter Try.func33, Try.ntmps33
    go_wp2_with (first
    | (go_at_call 35; refine (within_any _ _ _ _).mono ?_; rintro e w' ⟨rfl, rfl⟩)
    | (go_at_call 36; refine (has_any _ _ _ _ _ _ (HA2.out _) Hm).mono ?_; rintro e w' ⟨b, rfl, rfl⟩)
    | (go_at_call 37; refine (unlike_any _ _ _ _ _ (HA2.out _) Hm).mono ?_; rintro e w' ⟨b, m, rfl, rfl⟩)
    | (go_at_call 38; refine (one_any _ _ _ _ _ (HA2.out _)).mono ?_; rintro e w' ⟨b, rfl, rfl⟩))
    all_goals go_ret
    all_goals exact SomeBb.mk _ (by first | exact (Below.refl _ _).alloc (Nat.le_refl _) _ | exact belowDrewN ((Below.refl _ _).alloc (Nat.le_refl _) _) _)

set_option maxRecDepth 100000 in
set_option maxHeartbeats 400000 in
theorem row_9 : Calls Try.prog 33 #[par 9 n A la ca B lb cb] w (SomeBb w) := by
  have HA2 := Lib.hid (fun (o : Obj) => hA.below ((Below.refl _ _).alloc (Nat.le_refl _) o))
  have Hm := hla
  clear hA
  unfold maxLen at hla
  have h1 : ((la : Int) == 0) = true ∨ ((la : Int) == 0) = false := by cases ((la : Int) == 0) <;> simp
  have h2 : ((lb : Int) == 0) = true ∨ ((lb : Int) == 0) = false := by cases ((lb : Int) == 0) <;> simp
  rcases h1 with h1 | h1 <;> rcases h2 with h2 | h2
  all_goals
    go_enter Try.func33, Try.ntmps33
    go_wp2_with (first
    | (go_at_call 35; refine (within_any _ _ _ _).mono ?_; rintro e w' ⟨rfl, rfl⟩)
    | (go_at_call 36; refine (has_any _ _ _ _ _ _ (HA2.out _) Hm).mono ?_; rintro e w' ⟨b, rfl, rfl⟩)
    | (go_at_call 37; refine (unlike_any _ _ _ _ _ (HA2.out _) Hm).mono ?_; rintro e w' ⟨b, m, rfl, rfl⟩)
    | (go_at_call 38; refine (one_any _ _ _ _ _ (HA2.out _)).mono ?_; rintro e w' ⟨b, rfl, rfl⟩))
    all_goals go_ret
    all_goals exact SomeBb.mk _ (by first | exact (Below.refl _ _).alloc (Nat.le_refl _) _ | exact belowDrewN ((Below.refl _ _).alloc (Nat.le_refl _) _) _)

set_option maxRecDepth 100000 in
set_option maxHeartbeats 400000 in
theorem row_10 : Calls Try.prog 33 #[par 10 n A la ca B lb cb] w (SomeBb w) := by
  have HA2 := Lib.hid (fun (o : Obj) => hA.below ((Below.refl _ _).alloc (Nat.le_refl _) o))
  have Hm := hla
  clear hA
  unfold maxLen at hla
  have h1 : ((la : Int) == 0) = true ∨ ((la : Int) == 0) = false := by cases ((la : Int) == 0) <;> simp
  have h2 : ((lb : Int) == 0) = true ∨ ((lb : Int) == 0) = false := by cases ((lb : Int) == 0) <;> simp
  rcases h1 with h1 | h1 <;> rcases h2 with h2 | h2
  all_goals
    go_enter Try.func33, Try.ntmps33
    go_wp2_with (first
    | (go_at_call 35; refine (within_any _ _ _ _).mono ?_; rintro e w' ⟨rfl, rfl⟩)
    | (go_at_call 36; refine (has_any _ _ _ _ _ _ (HA2.out _) Hm).mono ?_; rintro e w' ⟨b, rfl, rfl⟩)
    | (go_at_call 37; refine (unlike_any _ _ _ _ _ (HA2.out _) Hm).mono ?_; rintro e w' ⟨b, m, rfl, rfl⟩)
    | (go_at_call 38; refine (one_any _ _ _ _ _ (HA2.out _)).mono ?_; rintro e w' ⟨b, rfl, rfl⟩))
    all_goals go_ret
    all_goals exact SomeBb.mk _ (by first | exact (Below.refl _ _).alloc (Nat.le_refl _) _ | exact belowDrewN ((Below.refl _ _).alloc (Nat.le_refl _) _) _)

set_option maxRecDepth 100000 in
set_option maxHeartbeats 400000 in
theorem row_11 : Calls Try.prog 33 #[par 11 n A la ca B lb cb] w (SomeBb w) := by
  have HA2 := Lib.hid (fun (o : Obj) => hA.below ((Below.refl _ _).alloc (Nat.le_refl _) o))
  have Hm := hla
  clear hA
  unfold maxLen at hla
  have h1 : ((la : Int) == 0) = true ∨ ((la : Int) == 0) = false := by cases ((la : Int) == 0) <;> simp
  have h2 : ((lb : Int) == 0) = true ∨ ((lb : Int) == 0) = false := by cases ((lb : Int) == 0) <;> simp
  rcases h1 with h1 | h1 <;> rcases h2 with h2 | h2
  all_goals
    go_enter Try.func33, Try.ntmps33
    go_wp2_with (first
    | (go_at_call 35; refine (within_any _ _ _ _).mono ?_; rintro e w' ⟨rfl, rfl⟩)
    | (go_at_call 36; refine (has_any _ _ _ _ _ _ (HA2.out _) Hm).mono ?_; rintro e w' ⟨b, rfl, rfl⟩)
    | (go_at_call 37; refine (unlike_any _ _ _ _ _ (HA2.out _) Hm).mono ?_; rintro e w' ⟨b, m, rfl, rfl⟩)
    | (go_at_call 38; refine (one_any _ _ _ _ _ (HA2.out _)).mono ?_; rintro e w' ⟨b, rfl, rfl⟩))
    all_goals go_ret
    all_goals exact SomeBb.mk _ (by first | exact (Below.refl _ _).alloc (Nat.le_refl _) _ | exact belowDrewN ((Below.refl _ _).alloc (Nat.le_refl _) _) _)

set_option maxRecDepth 100000 in
set_option maxHeartbeats 400000 in
theorem row_12 : Calls Try.prog 33 #[par 12 n A la ca B lb cb] w (SomeBb w) := by
  have HA2 := Lib.hid (fun (o : Obj) => hA.below ((Below.refl _ _).alloc (Nat.le_refl _) o))
  have Hm := hla
  clear hA
  unfold maxLen at hla
  have h1 : ((la : Int) == 0) = true ∨ ((la : Int) == 0) = false := by cases ((la : Int) == 0) <;> simp
  have h2 : ((lb : Int) == 0) = true ∨ ((lb : Int) == 0) = false := by cases ((lb : Int) == 0) <;> simp
  rcases h1 with h1 | h1 <;> rcases h2 with h2 | h2
  all_goals
    go_enter Try.func33, Try.ntmps33
    go_wp2_with (first
    | (go_at_call 35; refine (within_any _ _ _ _).mono ?_; rintro e w' ⟨rfl, rfl⟩)
    | (go_at_call 36; refine (has_any _ _ _ _ _ _ (HA2.out _) Hm).mono ?_; rintro e w' ⟨b, rfl, rfl⟩)
    | (go_at_call 37; refine (unlike_any _ _ _ _ _ (HA2.out _) Hm).mono ?_; rintro e w' ⟨b, m, rfl, rfl⟩)
    | (go_at_call 38; refine (one_any _ _ _ _ _ (HA2.out _)).mono ?_; rintro e w' ⟨b, rfl, rfl⟩))
    all_goals go_ret
    all_goals exact SomeBb.mk _ (by first | exact (Below.refl _ _).alloc (Nat.le_refl _) _ | exact belowDrewN ((Below.refl _ _).alloc (Nat.le_refl _) _) _)

set_option maxRecDepth 100000 in
set_option maxHeartbeats 400000 in
theorem row_13 : Calls Try.prog 33 #[par 13 n A la ca B lb cb] w (SomeBb w) := by
  have HA2 := Lib.hid (fun (o : Obj) => hA.below ((Below.refl _ _).alloc (Nat.le_refl _) o))
  have Hm := hla
  clear hA
  unfold maxLen at hla
  have h1 : ((la : Int) == 0) = true ∨ ((la : Int) == 0) = false := by cases ((la : Int) == 0) <;> simp
  have h2 : ((lb : Int) == 0) = true ∨ ((lb : Int) == 0) = false := by cases ((lb : Int) == 0) <;> simp
  rcases h1 with h1 | h1 <;> rcases h2 with h2 | h2
  all_goals
    go_enter Try.func33, Try.ntmps33
    go_wp2_with (first
    | (go_at_call 35; refine (within_any _ _ _ _).mono ?_; rintro e w' ⟨rfl, rfl⟩)
    | (go_at_call 36; refine (has_any _ _ _ _ _ _ (HA2.out _) Hm).mono ?_; rintro e w' ⟨b, rfl, rfl⟩)
    | (go_at_call 37; refine (unlike_any _ _ _ _ _ (HA2.out _) Hm).mono ?_; rintro e w' ⟨b, m, rfl, rfl⟩)
    | (go_at_call 38; refine (one_any _ _ _ _ _ (HA2.out _)).mono ?_; rintro e w' ⟨b, rfl, rfl⟩))
    all_goals go_ret
    all_goals exact SomeBb.mk _ (by first | exact (Below.refl _ _).alloc (Nat.le_refl _) _ | exact belowDrewN ((Below.refl _ _).alloc (Nat.le_refl _) _) _)

set_option maxRecDepth 100000 in
set_option maxHeartbeats 400000 in
theorem row_14 : Calls Try.prog 33 #[par 14 n A la ca B lb cb] w (SomeBb w) := by
  have HA2 := Lib.hid (fun (o : Obj) => hA.below ((Below.refl _ _).alloc (Nat.le_refl _) o))
  have Hm := hla
  clear hA
  unfold maxLen at hla
  have h1 : ((la : Int) == 0) = true ∨ ((la : Int) == 0) = false := by cases ((la : Int) == 0) <;> simp
  have h2 : ((lb : Int) == 0) = true ∨ ((lb : Int) == 0) = false := by cases ((lb : Int) == 0) <;> simp
  rcases h1 with h1 | h1 <;> rcases h2 with h2 | h2
  all_goals
    go_enter Try.func33, Try.ntmps33
    go_wp2_with (first
    | (go_at_call 35; refine (within_any _ _ _ _).mono ?_; rintro e w' ⟨rfl, rfl⟩)
    | (go_at_call 36; refine (has_any _ _ _ _ _ _ (HA2.out _) Hm).mono ?_; rintro e w' ⟨b, rfl, rfl⟩)
    | (go_at_call 37; refine (unlike_any _ _ _ _ _ (HA2.out _) Hm).mono ?_; rintro e w' ⟨b, m, rfl, rfl⟩)
    | (go_at_call 38; refine (one_any _ _ _ _ _ (HA2.out _)).mono ?_; rintro e w' ⟨b, rfl, rfl⟩))
    all_goals go_ret
    all_goals exact SomeBb.mk _ (by first | exact (Below.refl _ _).alloc (Nat.le_refl _) _ | exact belowDrewN ((Below.refl _ _).alloc (Nat.le_refl _) _) _)

set_option maxRecDepth 100000 in
set_option maxHeartbeats 400000 in
theorem row_15 : Calls Try.prog 33 #[par 15 n A la ca B lb cb] w (SomeBb w) := by
  have HA2 := Lib.hid (fun (o : Obj) => hA.below ((Below.refl _ _).alloc (Nat.le_refl _) o))
  have Hm := hla
  clear hA
  unfold maxLen at hla
  have h1 : ((la : Int) == 0) = true ∨ ((la : Int) == 0) = false := by cases ((la : Int) == 0) <;> simp
  have h2 : ((lb : Int) == 0) = true ∨ ((lb : Int) == 0) = false := by cases ((lb : Int) == 0) <;> simp
  rcases h1 with h1 | h1 <;> rcases h2 with h2 | h2
  all_goals
    go_enter Try.func33, Try.ntmps33
    go_wp2_with (first
    | (go_at_call 35; refine (within_any _ _ _ _).mono ?_; rintro e w' ⟨rfl, rfl⟩)
    | (go_at_call 36; refine (has_any _ _ _ _ _ _ (HA2.out _) Hm).mono ?_; rintro e w' ⟨b, rfl, rfl⟩)
    | (go_at_call 37; refine (unlike_any _ _ _ _ _ (HA2.out _) Hm).mono ?_; rintro e w' ⟨b, m, rfl, rfl⟩)
    | (go_at_call 38; refine (one_any _ _ _ _ _ (HA2.out _)).mono ?_; rintro e w' ⟨b, rfl, rfl⟩))
    all_goals go_ret
    all_goals exact SomeBb.mk _ (by first | exact (Below.refl _ _).alloc (Nat.le_refl _) _ | exact belowDrewN ((Below.refl _ _).alloc (Nat.le_refl _) _) _)

set_option maxRecDepth 100000 in
set_option maxHeartbeats 400000 in
theorem row_16 : Calls Try.prog 33 #[par 16 n A la ca B lb cb] w (SomeBb w) := by
  have HA2 := Lib.hid (fun (o : Obj) => hA.below ((Below.refl _ _).alloc (Nat.le_refl _) o))
  have Hm := hla
  clear hA
  unfold maxLen at hla
  have h1 : ((la : Int) == 0) = true ∨ ((la : Int) == 0) = false := by cases ((la : Int) == 0) <;> simp
  have h2 : ((lb : Int) == 0) = true ∨ ((lb : Int) == 0) = false := by cases ((lb : Int) == 0) <;> simp
  rcases h1 with h1 | h1 <;> rcases h2 with h2 | h2
  all_goals
    go_enter Try.func33, Try.ntmps33
    go_wp2_with (first
    | (go_at_call 35; refine (within_any _ _ _ _).mono ?_; rintro e w' ⟨rfl, rfl⟩)
    | (go_at_call 36; refine (has_any _ _ _ _ _ _ (HA2.out _) Hm).mono ?_; rintro e w' ⟨b, rfl, rfl⟩)
    | (go_at_call 37; refine (unlike_any _ _ _ _ _ (HA2.out _) Hm).mono ?_; rintro e w' ⟨b, m, rfl, rfl⟩)
    | (go_at_call 38; refine (one_any _ _ _ _ _ (HA2.out _)).mono ?_; rintro e w' ⟨b, rfl, rfl⟩))
    all_goals go_ret
    all_goals exact SomeBb.mk _ (by first | exact (Below.refl _ _).alloc (Nat.le_refl _) _ | exact belowDrewN ((Below.refl _ _).alloc (Nat.le_refl _) _) _)

end
end Go.Proofs.Ytfbmhejpndgbmaa
