/-
  Contracts of the reference's Check, Arity, Bound and of the law's fit: whatever the parameters, they answer; of the kind 9 just what. No condition but that the bytes handed in can be read.
-/
import Derived.Test.YtfbmhejpndgbmaaPar
namespace Go.Proofs.Ytfbmhejpndgbmaa
open Go.RowKit

section
variable (k n : Int) (A B : Option Addr) (la ca lb cb : Nat) (f : Nat → Int) (w : World)

/-- The block that the parameters are boxed in. -/
theorem box_below (o : Obj) : Below w.heap.size w (w.alloc o) := (Below.refl _ _).alloc (Nat.le_refl _) o

set_option maxHeartbeats 400000 in
theorem check_any (hA : Bs w A la f) (hla : la ≤ maxLen) : Calls Try.prog 29 #[par k n A la ca B lb cb] w (SomeIb w) := by
  by_cases h1 : k < 1
  · go_enter Try.func29, Try.ntmps29
    go_wp2
    go_ret
    exact SomeIb.mk _ (box_below _ _)
  · by_cases h2 : 16 < k
    · have h1' : 1 ≤ k := by omega
      go_enter Try.func29, Try.ntmps29
      go_wp2
      go_ret
      exact SomeIb.mk _ (box_below _ _)
    · have h1' : 1 ≤ k := by omega
      have h2' : k ≤ 16 := by omega
      have HA := Lib.hid (fun (o : Obj) => hA.below (box_below w o))
      have Hm := hla
      clear h1 h2 hA hla
      go_enter Try.func29, Try.ntmps29
      go_wp2_with fail
      refine (row_upto _ _ _ _ _ _ _ _ _ _ (HA.out _) Hm h1' h2').mono ?_
      rintro e w1 ⟨b, rfl, hb⟩
      obtain ⟨hc, hf⟩ := cells_below hb
      have hz := hb.size
      have Hb := Lib.hid hb
      clear hb
      cases b
      · go_wp2_with fail
        go_ret
        exact SomeIb.mk _ ((box_below w _).trans (Hb.out.mono (by simp)))
      · go_wp2_with fail
        refine (holds_any _ _ _ _ _ _ _ _ _ h1' h2').mono ?_
        rintro e w2 ⟨v, rfl, hb2⟩
        have Hb2 := Lib.hid hb2
        clear hb2
        simp at hz
        go_wp2_with fail
        all_goals go_ret
        all_goals exact SomeIb.mk _ (((box_below w _).trans (Hb.out.mono (by simp))).trans (Hb2.out.mono (by omega)))

set_option maxHeartbeats 400000 in
theorem check_9_yes (ha : la = 0) (hb : lb = 0) : Calls Try.prog 29 #[par 9 0 A la ca B lb cb] w fun e w' => e = .returned (.int .i64 0) ∧ Below w.heap.size w w' := by
  subst ha hb
  go_enter Try.func29, Try.ntmps29
  go_wp2_with fail
  refine (row_9_yes _ _ _ _ _ _ _ rfl rfl).mono ?_
  rintro e w1 ⟨rfl, hb⟩
  obtain ⟨hc, hf⟩ := cells_below hb
  have hz := hb.size
  have Hb := Lib.hid hb
  clear hb
  go_wp2_with fail
  refine (holds_9 _ _ _ _ _ _ _ _).mono ?_
  rintro e w2 ⟨rfl, hb2⟩
  have Hb2 := Lib.hid hb2
  clear hb2
  simp at hz
  go_wp2_with fail
  go_ret
  exact ⟨rfl, ((box_below w _).trans (Hb.out.mono (by simp))).trans (Hb2.out.mono (by omega))⟩

set_option maxHeartbeats 400000 in
theorem check_9_no (h : ¬ (n = 0 ∧ (la : Int) = 0 ∧ (lb : Int) = 0)) : Calls Try.prog 29 #[par 9 n A la ca B lb cb] w fun e w' => e = .returned (.int .i64 11) ∧ Below w.heap.size w w' := by
  have H := Lib.hid h
  clear h
  go_enter Try.func29, Try.ntmps29
  go_wp2_with fail
  refine (row_9_no _ _ _ _ _ _ _ _ H.out).mono ?_
  rintro e w1 ⟨rfl, hb⟩
  have Hb := Lib.hid hb
  clear hb
  go_wp2_with fail
  go_ret
  exact ⟨rfl, (box_below w _).trans (Hb.out.mono (by simp))⟩

theorem bound_9 (ha : la = 0) (hb : lb = 0) : Calls Try.prog 17 #[par 9 0 A la ca B lb cb] w fun e w' => e = .returned (.tuple #[.int .i64 0, .int .i64 0]) ∧ Below w.heap.size w w' := by
  subst ha hb
  go_enter Try.func17, Try.ntmps17
  go_wp2_with fail
  refine (check_9_yes _ _ _ _ _ _ _ rfl rfl).mono ?_
  rintro e w1 ⟨rfl, hb⟩
  obtain ⟨hc, hf⟩ := cells_below hb
  have hz := hb.size
  have Hb := Lib.hid hb
  clear hb
  go_wp2_with fail
  refine (holds_9 _ _ _ _ _ _ _ _).mono ?_
  rintro e w2 ⟨rfl, hb2⟩
  have Hb2 := Lib.hid hb2
  clear hb2
  simp at hz
  go_wp2_with fail
  go_ret2
  exact ⟨rfl, ((box_below w _).trans (Hb.out.mono (by simp))).trans (Hb2.out.mono (by omega))⟩

/-- Some ports and some error; nothing that was there has turned. -/
def SomeTb (w : World) (e : Ending) (w' : World) : Prop := ∃ u v x : Int, e = .returned (.tuple #[.int .i64 u, .int .i64 v, .int .i64 x]) ∧ Below w.heap.size w w'
theorem SomeTb.mk {w w' : World} (u v x : Int) (h : Below w.heap.size w w') : SomeTb w (.returned (.tuple #[.int .i64 u, .int .i64 v, .int .i64 x])) w' := ⟨u, v, x, rfl, h⟩

set_option maxHeartbeats 1000000 in
theorem arity_any (hA : Bs w A la f) (hla : la ≤ maxLen) : Calls Try.prog 23 #[par k n A la ca B lb cb] w (SomeTb w) := by
  have HA := Lib.hid (fun (o : Obj) => hA.below (box_below w o))
  have Hm := hla
  clear hA hla
  go_enter Try.func23, Try.ntmps23
  go_wp2_with fail
  refine (check_any _ _ _ _ _ _ _ _ _ _ (HA.out _) Hm).mono ?_
  rintro e w1 ⟨v, rfl, hb⟩
  obtain ⟨hc, hf⟩ := cells_below hb
  have Hb := Lib.hid hb
  clear hb
  by_cases hv : v = 0
  · subst hv
    go_wp2_with (go_quiet (fail))
    all_goals go_ret3
    all_goals exact SomeTb.mk _ _ _ (by first | exact (box_below w _).trans (Hb.out.mono (by simp)) | exact belowDrewN ((box_below w _).trans (Hb.out.mono (by simp))) _)
  · have hv' : (v != 0) = true := by simpa using hv
    go_wp2_with fail
    go_ret3
    exact SomeTb.mk _ _ _ ((box_below w _).trans (Hb.out.mono (by simp)))

theorem arity_9_yes (ha : la = 0) (hb : lb = 0) : Calls Try.prog 23 #[par 9 0 A la ca B lb cb] w fun e w' => e = .returned (.tuple #[.int .i64 1, .int .i64 1, .int .i64 0]) ∧ Below w.heap.size w w' := by
  subst ha hb
  go_enter Try.func23, Try.ntmps23
  go_wp2_with fail
  refine (check_9_yes _ _ _ _ _ _ _ rfl rfl).mono ?_
  rintro e w1 ⟨rfl, hb⟩
  obtain ⟨hc, hf⟩ := cells_below hb
  have Hb := Lib.hid hb
  clear hb
  go_wp2_with fail
  go_ret3
  exact ⟨rfl, (box_below w _).trans (Hb.out.mono (by simp))⟩

theorem arity_9_no (h : ¬ (n = 0 ∧ (la : Int) = 0 ∧ (lb : Int) = 0)) : Calls Try.prog 23 #[par 9 n A la ca B lb cb] w fun e w' => e = .returned (.tuple #[.int .i64 0, .int .i64 0, .int .i64 11]) ∧ Below w.heap.size w w' := by
  have H := Lib.hid h
  clear h
  go_enter Try.func23, Try.ntmps23
  go_wp2_with fail
  refine (check_9_no _ _ _ _ _ _ _ _ H.out).mono ?_
  rintro e w1 ⟨rfl, hb⟩
  have Hb := Lib.hid hb
  clear hb
  go_wp2_with fail
  go_ret3
  exact ⟨rfl, (box_below w _).trans (Hb.out.mono (by simp))⟩

theorem fit_yes (S : Option Addr) (cs : Nat) (ha : la = 0) (hb : lb = 0) : Calls Try.prog 10 #[par 9 0 A la ca B lb cb, .slice S 1 cs] w fun e w' => e = .returned (.bool true) ∧ Below w.heap.size w w' := by
  subst ha hb
  go_enter Try.func10, Try.ntmps10
  go_wp2_with fail
  refine (arity_9_yes _ _ _ _ _ _ _ rfl rfl).mono ?_
  rintro e w1 ⟨rfl, hb⟩
  obtain ⟨hc, hf⟩ := cells_below hb
  have Hb := Lib.hid hb
  clear hb
  go_wp2_with fail
  go_ret
  exact ⟨rfl, (box_below w _).trans (Hb.out.mono (by simp))⟩

set_option maxHeartbeats 400000 in
theorem fit_no (S : Option Addr) (ls cs : Nat) (hA : Bs w A la f) (hla : la ≤ maxLen) (h : ¬ (k = 9 ∧ n = 0 ∧ (la : Int) = 0 ∧ (lb : Int) = 0 ∧ (ls : Int) = 1)) :
    Calls Try.prog 10 #[par k n A la ca B lb cb, .slice S ls cs] w fun e w' => e = .returned (.bool false) ∧ Below w.heap.size w w' := by
  by_cases h9 : k = 9
  · subst h9
    by_cases hp : n = 0 ∧ (la : Int) = 0 ∧ (lb : Int) = 0
    · have hs : ((ls : Int) == 1) = false := by simp; omega
      obtain ⟨rfl, h1, h2⟩ := hp
      obtain rfl : la = 0 := by omega
      obtain rfl : lb = 0 := by omega
      clear h h1 h2 hA hla
      go_enter Try.func10, Try.ntmps10
      go_wp2_with fail
      refine (arity_9_yes _ _ _ _ _ _ _ rfl rfl).mono ?_
      rintro e w1 ⟨rfl, hb⟩
      obtain ⟨hc, hf⟩ := cells_below hb
      have Hb := Lib.hid hb
      clear hb
      go_wp2_with fail
      go_ret
      exact ⟨rfl, (box_below w _).trans (Hb.out.mono (by simp))⟩
    · have H := Lib.hid hp
      clear h hp hA hla
      go_enter Try.func10, Try.ntmps10
      go_wp2_with fail
      refine (arity_9_no _ _ _ _ _ _ _ _ H.out).mono ?_
      rintro e w1 ⟨rfl, hb⟩
      obtain ⟨hc, hf⟩ := cells_below hb
      have Hb := Lib.hid hb
      clear hb
      go_wp2_with fail
      go_ret
      exact ⟨rfl, (box_below w _).trans (Hb.out.mono (by simp))⟩
  · have h9' : (k == 9) = false := by simpa using h9
    have HA := Lib.hid (fun (o : Obj) => hA.below (box_below w o))
    have Hm := hla
    clear h h9 hA hla
    go_enter Try.func10, Try.ntmps10
    go_wp2_with fail
    refine (arity_any _ _ _ _ _ _ _ _ _ _ (HA.out _) Hm).mono ?_
    rintro e w1 ⟨u, v, x, rfl, hb⟩
    obtain ⟨hc, hf⟩ := cells_below hb
    have Hb := Lib.hid hb
    clear hb
    by_cases hx : x = 0
    · subst hx
      go_wp2_with fail
      go_ret
      exact ⟨rfl, (box_below w _).trans (Hb.out.mono (by simp))⟩
    · have hx' : (x == 0) = false := by simpa using hx
      clear hx
      go_wp2_with fail
      go_ret
      exact ⟨rfl, (box_below w _).trans (Hb.out.mono (by simp))⟩

end
end Go.Proofs.Ytfbmhejpndgbmaa
