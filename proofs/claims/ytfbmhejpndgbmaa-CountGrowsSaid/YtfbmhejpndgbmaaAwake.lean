/-
  The law's sign of life: the chapter's first example answers true. Condition: the library's table can be read.
-/
import Derived.Test.YtfbmhejpndgbmaaDrive
import Derived.Lib.SlBytesConst
namespace Go.Proofs.Ytfbmhejpndgbmaa
open Go.RowKit

theorem example_out (T : Nat → Nat) : outT T (nls [97, 10, 98, 99]) 4 = ⟨#[49, 32, 52, 10]⟩ := by
  have h1 : nls [97, 10, 98, 99] = 1 := by decide +kernel
  have h2 : Lib.decDigits 1 = [49] := by decide +kernel
  have h3 : Lib.decDigits 4 = [52] := by decide +kernel
  rw [h1]
  unfold outT lineT decT
  rw [if_pos (by omega), if_pos (by omega), h2, h3]
  rfl

/-- The example's stream and cuts, in three blocks behind the machine's. -/
theorem example_in {w : World} {g : Nat} (hg : g < w.heap.size) :
    In1 (((w.alloc (.cells #[.int .u8 97, .int .u8 10, .int .u8 98, .int .u8 99] 5 (4, 5))).alloc (.cells #[.slice (some ⟨w.heap.size, 0, none⟩) 4 4, .bool true, .int .i64 0, .int .i64 0, .int .i64 0] 58)).alloc (.cells #[.int .i64 2] 3))
      g (w.heap.size + 1) 0 (some ⟨w.heap.size, 0, none⟩) 4 4 true [97, 10, 98, 99] := by
  have h1 : (((w.alloc (.cells #[.int .u8 97, .int .u8 10, .int .u8 98, .int .u8 99] 5 (4, 5))).alloc (.cells #[.slice (some ⟨w.heap.size, 0, none⟩) 4 4, .bool true, .int .i64 0, .int .i64 0, .int .i64 0] 58)).alloc (.cells #[.int .i64 2] 3)).heap[w.heap.size]? = some (.cells #[.int .u8 97, .int .u8 10, .int .u8 98, .int .u8 99] 5 (4, 5)) := by
    rw [Below.heap_alloc _ _ _ (by simp; omega), Below.heap_alloc _ _ _ (by simp)]
    exact heap_alloc_new w _
  have h2 : Has (((w.alloc (.cells #[.int .u8 97, .int .u8 10, .int .u8 98, .int .u8 99] 5 (4, 5))).alloc (.cells #[.slice (some ⟨w.heap.size, 0, none⟩) 4 4, .bool true, .int .i64 0, .int .i64 0, .int .i64 0] 58)).alloc (.cells #[.int .i64 2] 3)) (w.heap.size + 1) 58 #[.slice (some ⟨w.heap.size, 0, none⟩) 4 4, .bool true, .int .i64 0, .int .i64 0, .int .i64 0] := by
    have := (Has.made (w.alloc (.cells #[.int .u8 97, .int .u8 10, .int .u8 98, .int .u8 99] 5 (4, 5))) 58 #[.slice (some ⟨w.heap.size, 0, none⟩) 4 4, .bool true, .int .i64 0, .int .i64 0, .int .i64 0]).alloc (.cells #[.int .i64 2] 3)
    simpa using this
  exact { lt := h2.lt, ne := by omega, bytes := h2.cell 0, ended := h2.cell 1, nc := by omega, cm := by unfold maxLen; omega, len := rfl, n2 := by omega,
          cells := .inr ⟨_, 0, rfl, by simp; omega, by omega, fun i hi => by
            rw [cell_of_row _ _ _ _ _ _ h1]
            match i, hi with
            | 0, _ => rfl
            | 1, _ => rfl
            | 2, _ => rfl
            | 3, _ => rfl⟩ }

theorem example_below {w w1 : World} {a b c : Obj} (h : Below w.heap.size w w1) : Below w.heap.size w (((w1.alloc a).alloc b).alloc c) :=
  ((h.alloc h.size a).alloc (by have := h.size; simp; omega) b).alloc (by have := h.size; simp; omega) c

theorem example_after {w w1 w2 : World} {a b c : Obj} {g : Nat} (hg : w.heap.size ≤ g) (h : Below w.heap.size w w1) (h2 : (((w1.alloc a).alloc b).alloc c).grownBy w2 (some g)) : Below w.heap.size w w2 :=
  (example_below h).grown h2 (by have := h.size; simp; omega) (fun k hk => by injection hk with hk; omega)

theorem example_cuts {w : World} {g : Nat} {a b : Obj} (hg : g < w.heap.size) : Cuts (((w.alloc a).alloc b).alloc (.cells #[.int .i64 2] 3)) g (some ⟨w.heap.size + 1 + 1, 0, none⟩) 1 (fun _ => 2) := by
  have h2 : Has (((w.alloc a).alloc b).alloc (.cells #[.int .i64 2] 3)) (w.heap.size + 1 + 1) 3 #[.int .i64 2] := by
    have := Has.made ((w.alloc a).alloc b) 3 #[.int .i64 2]
    simpa using this
  refine .inr ⟨_, 0, rfl, h2.lt, by omega, fun k hk => ⟨?_, by simp, by simp⟩⟩
  rw [h2.cell]
  match k, hk with
  | 0, _ => rfl

set_option maxRecDepth 100000 in
set_option maxHeartbeats 1000000 in
theorem awake_true (T : Nat → Nat) (w : World) (hT : Tab w T) : Calls Try.prog 11 #[] w fun e w' => e = .returned (.bool true) ∧ Below w.heap.size w w' := by
  have HT := Lib.hid hT
  have hcv := fun (w : World) (C : Array Value) (n c : Nat) => Lib.run_convert_bytes_const (P := Try.prog) w 22 5 C n c Try.underlying22 Try.underlying5
  have m4 := m_held
  clear hT
  go_enter Try.func11, Try.ntmps11
  go_wp2_with fail
  refine (new_9 none none 0 0 _).mono ?_
  rintro e w1 ⟨g, rfl, hg1, hg2, hg3⟩
  have HG1 := Lib.hid hg1
  have HG2 := Lib.hid hg2
  have HG3 := Lib.hid hg3
  have hgl := hg2.lt
  clear hg1 hg2 hg3
  go_wp2_with fail
  refine (drive_count g (w1.heap.size + 1) 0 4 4 1 1 1 (some ⟨w1.heap.size, 0, none⟩) (some ⟨w1.heap.size + 1 + 1, 0, none⟩) true [97, 10, 98, 99] (fun _ => 2) T _ (((HG2.out.alloc _).alloc _).alloc _) (HT.out.below (example_below HG3.out)) (example_in hgl) (example_cuts hgl) (by omega)).mono ?_
  rintro e w2 ⟨hg, ⟨_, rfl, hm⟩ | ⟨hf, _⟩⟩
  · rw [example_out]
    have HB := Lib.hid (example_after HG1.out HG3.out hg)
    clear hg hm
    go_wp2_with fail
    go_ret
    exact ⟨rfl, HB.out.alloc HB.out.size _⟩
  · cases hf

end Go.Proofs.Ytfbmhejpndgbmaa
