/-
  Contracts of the program's own check of parameters and of count.New at the parameters that count takes. No condition.
-/
import Derived.Test.YtfbmhejpndgbmaaCut
import Derived.Laws.Tables
import Derived.Great.Walk
import Derived.Deep.DeepCutAuto
namespace Go.Proofs.Ytfbmhejpndgbmaa
open Go.RowKit

/-- The rules of all kinds, cell by cell. -/
def rulesC : Array Value := #[.int .i64 0, .int .i64 0, .int .i64 0, .int .i64 0, .int .i64 0, .int .i64 0, .int .i64 0, .int .i64 0, .int .i64 15, .int .i64 0, .int .i64 0, .int .i64 1, .int .i64 0, .int .i64 0, .int .i64 0, .int .i64 15, .int .i64 0, .int .i64 1, .int .i64 0, .int .i64 0, .int .i64 0, .int .i64 0, .int .i64 1000000000, .int .i64 0, .int .i64 1, .int .i64 1, .int .i64 64, .int .i64 0, .int .i64 0, .int .i64 9223372036854775807, .int .i64 0, .int .i64 1, .int .i64 1, .int .i64 64, .int .i64 64, .int .i64 0, .int .i64 1, .int .i64 1, .int .i64 1, .int .i64 1, .int .i64 64, .int .i64 0, .int .i64 0, .int .i64 0, .int .i64 2, .int .i64 1, .int .i64 1, .int .i64 0, .int .i64 0, .int .i64 1, .int .i64 65535, .int .i64 3, .int .i64 1, .int .i64 1, .int .i64 64, .int .i64 0, .int .i64 0, .int .i64 1, .int .i64 0, .int .i64 1, .int .i64 1, .int .i64 128, .int .i64 0, .int .i64 0, .int .i64 0, .int .i64 0, .int .i64 1, .int .i64 1, .int .i64 0, .int .i64 0, .int .i64 0, .int .i64 1000000000, .int .i64 0, .int .i64 1, .int .i64 1, .int .i64 64, .int .i64 0, .int .i64 0, .int .i64 1, .int .i64 0, .int .i64 1, .int .i64 1, .int .i64 320, .int .i64 0, .int .i64 1, .int .i64 4, .int .i64 0, .int .i64 (-1), .int .i64 1, .int .i64 0, .int .i64 0, .int .i64 1, .int .i64 4, .int .i64 3, .int .i64 (-1), .int .i64 1, .int .i64 0, .int .i64 96, .int .i64 1, .int .i64 9223372036854775807, .int .i64 3, .int .i64 2, .int .i64 1, .int .i64 192, .int .i64 128, .int .i64 1, .int .i64 4, .int .i64 0, .int .i64 1, .int .i64 (-1), .int .i64 0, .int .i64 0, .int .i64 1, .int .i64 4, .int .i64 0, .int .i64 1, .int .i64 (-1), .int .i64 64, .int .i64 0]

section
variable {P : Program}
/-- A composite value, its cells under a name. -/
theorem wpList_build_to {ops : Array Oper} {rest : List Oper} {o : Oper} {a : Act} {w : World} {Q : Exit → Act → World → Prop} (hg : o.guard = none) (t : TypeId) (parts : Array (Nat × Operand)) (ho : o.op = .build t parts) (cells : Array Value)
    (hc : P.built t (parts.map fun (i, x) => (i, a.eval x)).toList = some cells)
    (h : wpList P ops Q rest (a.put o.dst (.agg cells)) w) : wpList P ops Q (o :: rest) a w :=
  wpList_build hg t parts ho (by rw [hc]; rfl) (by rw [hc]; exact h)
end

/-- The block of the result, as it is laid. -/
def rulesZ : Array Value := Array.replicate 119 (.int .i64 0)

/-- The rule of kind k. -/
def ruleC (k : Nat) : Array Value := rulesC.extract (7 * k) (7 * k + 7)

set_option maxRecDepth 100000 in
theorem rules_any (w : World) : Calls Try.prog 39 #[] w fun e w' => e = .returned (.agg rulesC) ∧ Below w.heap.size w w' := by
  go_enter Try.func39, Try.ntmps39
  go_step
  go_step
  go_step
  refine Go.Great.wpList_allocTo rfl (some 0) rfl (.pointer (some ⟨w.heap.size, 0, none⟩)) (.cells rulesZ 100) (by kernel_rfl) ?_
  refine wpList_nil ?_
  go_step
  go_step
  go_step
  go_step
  refine wpList_build_to rfl 94 _ rfl (ruleC 1) (by kernel_rfl) ?_
  refine wpList_build_to rfl 94 _ rfl (ruleC 2) (by kernel_rfl) ?_
  refine wpList_build_to rfl 94 _ rfl (ruleC 3) (by kernel_rfl) ?_
  refine wpList_build_to rfl 94 _ rfl (ruleC 4) (by kernel_rfl) ?_
  refine wpList_build_to rfl 94 _ rfl (ruleC 5) (by kernel_rfl) ?_
  refine wpList_build_to rfl 94 _ rfl (ruleC 6) (by kernel_rfl) ?_
  refine wpList_build_to rfl 94 _ rfl (ruleC 7) (by kernel_rfl) ?_
  refine wpList_build_to rfl 94 _ rfl (ruleC 8) (by kernel_rfl) ?_
  refine wpList_build_to rfl 94 _ rfl (ruleC 9) (by kernel_rfl) ?_
  refine wpList_build_to rfl 94 _ rfl (ruleC 10) (by kernel_rfl) ?_
  refine wpList_build_to rfl 94 _ rfl (ruleC 11) (by kernel_rfl) ?_
  refine wpList_build_to rfl 94 _ rfl (ruleC 12) (by kernel_rfl) ?_
  refine wpList_build_to rfl 94 _ rfl (ruleC 13) (by kernel_rfl) ?_
  refine wpList_build_to rfl 94 _ rfl (ruleC 14) (by kernel_rfl) ?_
  refine wpList_build_to rfl 94 _ rfl (ruleC 15) (by kernel_rfl) ?_
  refine wpList_build_to rfl 94 _ rfl (ruleC 16) (by kernel_rfl) ?_
  refine wpList_build_to rfl 100 _ rfl rulesC (by kernel_rfl) ?_
  refine wpList_store_row rfl 100 (.tmp 0) (.tmp 17) rfl w.heap.size rulesC (by kernel_rfl) (by kernel_rfl) 100 rulesZ (heap_alloc_new w _) (by kernel_rfl) (by kernel_rfl) (by kernel_rfl) ?_
  refine wpList_nil ?_
  generalize hF : Act.put _ _ _ = F
  have hp : F.tmps.getD 0 undef = .pointer (some ⟨w.heap.size, 0, none⟩) := by rw [← hF]; kernel_rfl
  have hd : F.defers = [] := by rw [← hF]; kernel_rfl
  clear hF
  go_step
  go_step
  go_step
  refine bodyPost_ret (results_cell_row rfl _ _ w.heap.size 100 rulesC (0, 0) _ hp (setRow_heap _ _ rulesZ _ _ _ (heap_alloc_new _ _)) Try.underlying100 rfl (by kernel_rfl)) hd ⟨rfl, ?_⟩
  exact ⟨rfl, rfl, rfl, by simp, fun k hk => by rw [setRow_other _ _ _ _ (by omega)]; exact Below.heap_alloc _ _ _ hk⟩

theorem rule_9 (w : World) : (Instr.index 100 (.agg rulesC) (.int .i64 9)).run Try.prog w = .ok (.agg #[.int .i64 0, .int .i64 0, .int .i64 0, .int .i64 1, .int .i64 1, .int .i64 0, .int .i64 0]) w := by kernel_rfl

set_option maxRecDepth 100000 in
theorem bytes_9 (A B : Option Addr) (ca cb : Nat) (w : World) :
    Calls Try.prog 40 #[.agg #[.int .i64 0, .int .i64 0, .int .i64 0, .int .i64 1, .int .i64 1, .int .i64 0, .int .i64 0], par 9 0 A 0 ca B 0 cb] w fun e w' => e = .returned (.bool true) ∧ Below w.heap.size w w' := by
  go_enter Try.func40, Try.ntmps40
  go_wp2
  go_ret
  exact ⟨rfl, ((Below.refl _ _).alloc (Nat.le_refl _) _).alloc (by simp) _⟩

/-- The rule of count. -/
abbrev rule9 : Array Value := #[.int .i64 0, .int .i64 0, .int .i64 0, .int .i64 1, .int .i64 1, .int .i64 0, .int .i64 0]

/-- Behind 'r := rules()[p.Kind]': a new block holds the rule; the two blocks of the call's own lie as they were. -/
def OfCut (w : World) (p : Array Value) (r : Value) (wc : World) : Prop :=
  ∃ g, r = .pointer (some ⟨g, 0, none⟩) ∧ w.heap.size + 1 < g ∧ Has wc g 94 rule9 ∧ Has wc w.heap.size 24 p ∧ Has wc (w.heap.size + 1) 94 (Array.replicate 7 (.int .i64 0)) ∧ Below w.heap.size w wc

theorem ofCut_late {w w1 : World} {p : Array Value} (hb : Below ((w.alloc (.cells p 24)).alloc (.cells (Array.replicate 7 (.int .i64 0)) 94)).drew.heap.size ((w.alloc (.cells p 24)).alloc (.cells (Array.replicate 7 (.int .i64 0)) 94)).drew w1) :
    OfCut w p (.pointer (some ⟨w1.heap.size, 0, none⟩)) (w1.alloc (.cells rule9 94)) := by
  have hz : w.heap.size + 2 ≤ w1.heap.size := by have := hb.size; simp at this; omega
  have h1 : Has w1 w.heap.size 24 p := (((Has.made w 24 p).alloc _).drew).below hb (by simp; omega)
  have h2 : Has w1 (w.heap.size + 1) 94 (Array.replicate 7 (.int .i64 0)) := by
    have := (Has.made (w.alloc (.cells p 24)) 94 (Array.replicate 7 (.int .i64 0))).drew.below hb (by simp)
    simpa using this
  have h0 : Below w.heap.size w w1 := ((((Below.refl _ _).alloc (Nat.le_refl _) _).alloc (by simp) _).drew).trans (hb.mono (by simp; omega))
  exact ⟨_, rfl, by omega, Has.made _ _ _, h1.alloc _, h2.alloc _, h0.alloc (by omega) _⟩

theorem ofCut_early {w w1 : World} {p : Array Value} (hb : Below (((w.alloc (.cells p 24)).alloc (.cells (Array.replicate 7 (.int .i64 0)) 94)).alloc (.cells (Array.replicate 7 (.int .i64 0)) 94)).drew.heap.size (((w.alloc (.cells p 24)).alloc (.cells (Array.replicate 7 (.int .i64 0)) 94)).alloc (.cells (Array.replicate 7 (.int .i64 0)) 94)).drew w1) :
    OfCut w p (.pointer (some ⟨w.heap.size + 1 + 1, 0, none⟩)) (((((((w1.setCell ⟨w.heap.size + 1 + 1, 0, none⟩ (.int .i64 0)).setCell ⟨w.heap.size + 1 + 1, 1, none⟩ (.int .i64 0)).setCell ⟨w.heap.size + 1 + 1, 2, none⟩ (.int .i64 0)).setCell ⟨w.heap.size + 1 + 1, 3, none⟩ (.int .i64 1)).setCell ⟨w.heap.size + 1 + 1, 4, none⟩ (.int .i64 1)).setCell ⟨w.heap.size + 1 + 1, 5, none⟩ (.int .i64 0)).setCell ⟨w.heap.size + 1 + 1, 6, none⟩ (.int .i64 0)) := by
  have h1 : Has w1 w.heap.size 24 p := ((((Has.made w 24 p).alloc _).alloc _).drew).below hb (by simp; omega)
  have h2 : Has w1 (w.heap.size + 1) 94 (Array.replicate 7 (.int .i64 0)) := by
    have := (((Has.made (w.alloc (.cells p 24)) 94 (Array.replicate 7 (.int .i64 0))).alloc (.cells (Array.replicate 7 (.int .i64 0)) 94)).drew).below hb (by simp)
    simpa using this
  have h3 : Has w1 (w.heap.size + 1 + 1) 94 (Array.replicate 7 (.int .i64 0)) := by
    have := (Has.made ((w.alloc (.cells p 24)).alloc (.cells (Array.replicate 7 (.int .i64 0)) 94)) 94 (Array.replicate 7 (.int .i64 0))).drew.below hb (by simp)
    simpa using this
  have h0 : Below w.heap.size w w1 := (((((Below.refl _ _).alloc (Nat.le_refl _) _).alloc (by simp) _).alloc (by simp; omega) _).drew).trans (hb.mono (by simp; omega))
  refine ⟨_, rfl, by omega, ?_, ?_, ?_, ?_⟩
  · exact ((((((h3.put 0 _).put 1 _).put 2 _).put 3 _).put 4 _).put 5 _).put 6 _
  · repeat (refine Has.other ?_ (by intro h; simp only at h; omega) _)
    exact h1
  · repeat (refine Has.other ?_ (by intro h; simp only at h; omega) _)
    exact h2
  · repeat (refine Below.setCell ?_ (by show _ ≤ _; simp; omega) _)
    exact h0

set_option maxRecDepth 100000 in
set_option maxHeartbeats 400000 in
theorem of_9 (A B : Option Addr) (ca cb : Nat) (w : World) :
    Calls Try.prog 34 #[par 9 0 A 0 ca B 0 cb] w fun e w' => e = .returned (.tuple #[.agg rule9, .int .i64 0]) ∧ Below w.heap.size w w' := by
  have h9 := rule_9
  go_enter Try.func34, Try.ntmps34
  go_upto_region 3 with fail
  go_cut [4] (fun r wc => OfCut w #[.int .i64 9, .int .i64 0, .slice A 0 ca, .slice B 0 cb] r wc)
  case first =>
    go_region_with ((go_at_call 39; refine (rules_any _).mono ?_; rintro e w1 ⟨rfl, hb⟩; obtain ⟨hc, hf⟩ := cells_below hb; have hz0 : w.heap.size < w1.heap.size := (by have := hb.size; simp at this; omega); have Hb := Lib.hid hb; clear hb))
    all_goals (go_wp2_with fail; go_meet)
    all_goals first
      | exact ofCut_late Hb.out
      | exact ofCut_early Hb.out
  case rest =>
    obtain ⟨g, rfl, hlt, hg, h1, h2, hb⟩ := hcut
    have c0 := fun i => hg.cell i
    have c1 := fun i => h1.cell i
    have c2 := fun i => h2.cell i
    have f2 := fun i => h2.free i
    have hgl := hg.lt
    have hgne : w.heap.size ≠ g := by omega
    have HB := Lib.hid hb
    clear h1 h2 hg hb
    go_wp2_with fail
    refine (bytes_9 _ _ _ _ _).mono ?_
    rintro e w2 ⟨rfl, hb⟩
    obtain ⟨hc, hf⟩ := cells_below hb
    have hz := hb.size
    have hl0 : w.heap.size < wc.heap.size := by omega
    have hl1 : w.heap.size + 1 < wc.heap.size := by omega
    have HB2 := Lib.hid hb
    clear hb
    go_wp2_with (go_quiet (fail))
    refine bodyPost_ret (v := .tuple #[.agg rule9, .int .i64 0]) (by simp [results, Try.results34, go_sem, hc, hl1, c2]) rfl ⟨rfl, ?_⟩
    iterate 7 (refine Below.setCell ?_ (show w.heap.size ≤ w.heap.size + 1 by omega) _)
    exact belowDrewN (HB.out.trans (HB2.out.mono (by omega))) _

set_option maxRecDepth 100000 in
theorem pcheck_9 (A B : Option Addr) (ca cb : Nat) (w : World) :
    Calls Try.prog 32 #[par 9 0 A 0 ca B 0 cb] w fun e w' => e = .returned (.int .i64 0) ∧ Below w.heap.size w w' := by
  go_enter Try.func32, Try.ntmps32
  go_wp2_with fail
  refine (of_9 _ _ _ _ _).mono ?_
  rintro e w1 ⟨rfl, hb⟩
  have hz : w.heap.size < w1.heap.size := by have := hb.size; simp at this; omega
  have HB := Lib.hid hb
  clear hb
  go_wp2_with fail
  go_ret
  refine ⟨rfl, ?_⟩
  exact ((box_below w _).trans (HB.out.mono (by simp))).alloc (by omega) _

theorem fcheck_9 (A B : Option Addr) (ca cb : Nat) (w : World) :
    Calls Try.prog 24 #[par 9 0 A 0 ca B 0 cb, .int .i64 9] w fun e w' => e = .returned (.int .i64 0) ∧ Below w.heap.size w w' := by
  go_enter Try.func24, Try.ntmps24
  go_wp2_with fail
  refine (pcheck_9 _ _ _ _ _).mono ?_
  rintro e w1 ⟨rfl, hb⟩
  obtain ⟨hc, hf⟩ := cells_below hb
  have HB := Lib.hid hb
  clear hb
  go_wp2_with fail
  go_ret
  exact ⟨rfl, (box_below w _).trans (HB.out.mono (by simp))⟩

/-- A new machine that counts: in a block of its own. -/
abbrev mach (over : Bool) (lines all : Int) : Array Value := #[.int .i64 0, .bool false, .bool over, .int .i64 lines, .int .i64 all]

def NewEnd (w : World) (e : Ending) (w' : World) : Prop :=
  ∃ g, e = .returned (.tuple #[.iface 70 (.pointer (some ⟨g, 0, none⟩)), .int .i64 0]) ∧ w.heap.size ≤ g ∧ Has w' g 74 (mach false 0 0) ∧ Below w.heap.size w w'

theorem new_9 (A B : Option Addr) (ca cb : Nat) (w : World) :
    Calls Try.prog 12 #[par 9 0 A 0 ca B 0 cb] w (NewEnd w) := by
  go_enter Try.func12, Try.ntmps12
  go_wp2_with fail
  refine (fcheck_9 _ _ _ _ _).mono ?_
  rintro e w1 ⟨rfl, hb⟩
  have hz : w.heap.size < w1.heap.size := by have := hb.size; simp at this; omega
  have HB := Lib.hid hb
  clear hb
  go_wp2_with fail
  go_ret2
  exact ⟨_, rfl, by omega, Has.made _ _ _, ((box_below w _).trans (HB.out.mono (by simp))).alloc (by omega) _⟩

end Go.Proofs.Ytfbmhejpndgbmaa
