/-
  The walk of CountHolds: it answers true, and old memory stays. Condition: what is handed in can be read.
-/
import Derived.Test.YtfbmhejpndgbmaaEnv
namespace Go.Proofs.Ytfbmhejpndgbmaa
open Go.RowKit

set_option maxRecDepth 100000 in
set_option maxHeartbeats 1000000 in
theorem holds_walk (k n : Int) (A B : Option Addr) (la ca lb cb : Nat) (f : Nat → Int) (S : Option Addr) (ns cs : Nat) (X : Nat → Option Addr) (N C : Nat → Nat) (en : Nat → Bool) (xs : Nat → List Int)
    (Y : Option Addr) (m c : Nat) (z : Nat → Int) (T : Nat → Nat) (w : World) (hE : Env A la f S ns X N C en xs T w) (hZ : Zs w Y m z) (hla : la ≤ maxLen) (hns : ns ≤ maxLen) (hm : m ≤ maxLen) :
    Calls Try.prog 4 #[par k n A la ca B lb cb, .slice S ns cs, .slice Y m c] w (Truth w) := by
  have hc0 := Cur.start w #[.int .i64 k, .int .i64 n, .slice A la ca, .slice B lb cb]
  have HE := Lib.hid hE
  have HZ := Lib.hid hZ
  have H0 := Lib.hid hc0
  have Hm := hm
  have Hns := hns
  have Hla := hla
  have m4 := m_held
  have hct := cts_one (w := w.alloc (.cells #[.int .i64 k, .int .i64 n, .slice A la ca, .slice B lb cb] 24)) (Y := Y) (c := c) hm
  rw [World.size_alloc] at hct
  have HCT := Lib.hid hct
  clear hE hZ hc0 hm hns hla hct
  go_enter Try.func4, Try.ntmps4
  go_wp2_with fail
  refine (heavy_any k n A B la ca lb cb S ns cs X N C (w.heap.size + 1) 0 1 1 (fun _ => Y) (fun _ => m) (fun _ => c) _ ((HE.out.below (H0.out.alloc _).b).s.sts) Hns HCT.out (by unfold maxLen; omega)).mono ?_
  rintro e w1 ⟨b, rfl, hb, hlight⟩
  have H1 := Lib.hid ((H0.out.alloc _).below hb)
  have HL := Lib.hid hlight
  clear hb hlight H0 HCT
  cases b
  · have hl := HL.out rfl
    have HLL := Lib.hid hl
    have hc := fun i => H1.out.box.cell i
    clear hl HL
    by_cases hfit : k = 9 ∧ n = 0 ∧ (la : Int) = 0 ∧ (lb : Int) = 0 ∧ (ns : Int) = 1
    · obtain ⟨rfl, rfl, hla0, hlb0, hns1⟩ := hfit
      obtain rfl : la = 0 := by omega
      obtain rfl : lb = 0 := by omega
      obtain rfl : ns = 1 := by omega
      clear hla0 hlb0 hns1 Hns Hla
      go_wp2_with fail
      refine (fit_yes _ _ _ _ _ _ _ _ _ rfl rfl).mono ?_
      rintro e w2 ⟨rfl, hb⟩
      have H2 := Lib.hid (H1.out.below hb)
      clear hb H1 hc
      have hc := fun i => H2.out.box.cell i
      go_wp2_with fail
      refine (new_9 _ _ _ _ _).mono ?_
      rintro e w3 ⟨g, rfl, hg1, hg2, hg3⟩
      have hgw : w.heap.size < g := by have := H2.out.box.lt; omega
      have H3 := Lib.hid (H2.out.below hg3)
      have HG := Lib.hid hg2
      clear hg1 hg2 hg3 H2 hc
      have hc := fun i => H3.out.box.cell i
      go_wp2_with fail
      refine (bound_9 _ _ _ _ _ _ _ rfl rfl).mono ?_
      rintro e w4 ⟨rfl, hb⟩
      have H4 := Lib.hid (H3.out.below hb)
      have HG4 := Lib.hid (HG.out.below hb HG.out.lt)
      clear hb H3 HG hc
      obtain ⟨sb, so, rfl, hin⟩ := HE.out.s.in1_new rfl (HLL.out.2.2.2.1 0 (by omega)) H4.out.b (Nat.le_of_lt hgw)
      have HI := Lib.hid hin
      clear hin
      go_wp2_with fail
      refine (drive_count g sb so (N 0) (C 0) m c cs (X 0) Y (en 0) (xs 0) z T _ HG4.out (HE.out.t.below H4.out.b) HI.out (HZ.out.new H4.out.b (Nat.le_of_lt hgw)) (HLL.out.2.2.2.2 0 (by omega))).mono ?_
      rintro e w5 ⟨hg, hend⟩
      have H5 := Lib.hid (H4.out.only hg hgw)
      clear hg H4 HG4 HI
      rcases hend with ⟨_, rfl, _⟩ | ⟨_, rfl, _⟩
      all_goals
        go_wp2_with (first
          | (go_at_call 88; refine (held_any g _).mono ?_; rintro e w6 ⟨rfl, rfl⟩)
          | (go_at_call 11; refine (awake_true T _ (HE.out.t.below (H5.out.alloc _).b)).mono ?_; rintro e w7 ⟨rfl, hb7⟩; have H7 := Lib.hid ((H5.out.alloc _).below hb7); clear hb7))
        go_ret
        exact ⟨rfl, H7.out.b⟩
    · have HF := Lib.hid hfit
      clear hfit
      go_wp2_with fail
      refine (fit_no _ _ _ _ _ _ _ _ _ _ _ _ _ ((HE.out.below H1.out.b).a) Hla HF.out).mono ?_
      rintro e w2 ⟨rfl, hb⟩
      have H2 := Lib.hid (H1.out.below hb)
      clear hb
      go_wp2_with fail
      refine (awake_true T _ (HE.out.t.below H2.out.b)).mono ?_
      rintro e w3 ⟨rfl, hb⟩
      have H3 := Lib.hid (H2.out.below hb)
      clear hb
      go_wp2_with fail
      go_ret
      exact ⟨rfl, H3.out.b⟩
  · clear HL
    go_wp2_with fail
    refine (awake_true T _ (HE.out.t.below H1.out.b)).mono ?_
    rintro e w2 ⟨rfl, hb⟩
    have H2 := Lib.hid (H1.out.below hb)
    clear hb
    go_wp2_with fail
    go_ret
    exact ⟨rfl, H2.out.b⟩

end Go.Proofs.Ytfbmhejpndgbmaa
