/-
  The walk of CountChunks: it answers true, and old memory stays. Condition: what is handed in can be read.
-/
import Derived.Test.YtfbmhejpndgbmaaEnv
import Derived.ChangeKeysEq
namespace Go.Proofs.Ytfbmhejpndgbmaa
open Go.RowKit

/-- What a drive tells, and what it wants. -/
def saidT (T : Nat → Nat) (en : Bool) (xs : List Int) (N : Nat) : ByteArray := if en then outT T (nls xs) N else ⟨#[]⟩
def needT (en : Bool) : Int := if en then -1 else 0

theorem DriveEnd.one {w w' : World} {T : Nat → Nat} {gm N : Nat} {en : Bool} {xs : List Int} {e : Ending} (h : DriveEnd w T gm N en xs e w') :
    e = .returned (.agg (got (saidT T en xs N) (needT en) 0 N)) ∧ w.grownBy w' (some gm) := by
  rcases h with ⟨hg, ⟨rfl, he, _⟩ | ⟨rfl, he, _⟩⟩ <;> exact ⟨he, hg⟩

theorem part4 (s1 s2 s3 s4 : ByteArray) (w : World) : ((part 9 #[.string s1, .string s2, .string s3, .string s4] (0 * Try.prog.cellsOf 9)).run Try.prog w = .ok (.string s1) w ∧ (part 9 #[.string s1, .string s2, .string s3, .string s4] (1 * Try.prog.cellsOf 9)).run Try.prog w = .ok (.string s2) w) ∧
    (part 9 #[.string s1, .string s2, .string s3, .string s4] (2 * Try.prog.cellsOf 9)).run Try.prog w = .ok (.string s3) w ∧ (part 9 #[.string s1, .string s2, .string s3, .string s4] (3 * Try.prog.cellsOf 9)).run Try.prog w = .ok (.string s4) w :=
  ⟨⟨by kernel_rfl, by kernel_rfl⟩, by kernel_rfl, by kernel_rfl⟩

theorem eq4 (s1 s2 s3 s4 : ByteArray) (w : World) : (Op.equalIn 10000 36 (.agg #[.string s1, .string s2, .string s3, .string s4]) (.agg #[.string s1, .string s2, .string s3, .string s4])).run Try.prog w = .ok true w := by
  have hu : Try.prog.underlying 9 = some .string := by kernel_rfl
  obtain ⟨i, hi⟩ : ∃ i, Try.prog.info? 9 = some i := Option.isSome_iff_exists.1 (by kernel_rfl)
  have hself : ∀ s : ByteArray, (Op.equalIn 9999 9 (.string s) (.string s)).run Try.prog w = .ok true w := fun s => by
    rw [run_equalIn_string w 9998 9 s s hu]; simp
  rw [run_equalIn_array w 9999 (e := 9) (n := 4) (i := i) _ _ (by kernel_rfl) hi]
  obtain ⟨⟨p0, p1⟩, p2, p3⟩ := part4 s1 s2 s3 s4 w
  show (Op.eqItems 9999 9 _ _ _ [0, 1, 2, 3]).run Try.prog w = _
  simp only [Op.eqItems, Sem.run_bind, p0, p1, p2, p3, hself, Result.andThen_ok, Bool.not_true, Bool.false_eq_true, if_false, Sem.run_pure]

set_option maxRecDepth 100000 in
set_option maxHeartbeats 1000000 in
theorem chunks_walk (k n : Int) (A B : Option Addr) (la ca lb cb : Nat) (f : Nat → Int) (S : Option Addr) (ns cs : Nat) (X : Nat → Option Addr) (N C : Nat → Nat) (en : Nat → Bool) (xs : Nat → List Int)
    (Y : Option Addr) (m c : Nat) (z : Nat → Int) (Y2 : Option Addr) (m2 c2 : Nat) (z2 : Nat → Int) (T : Nat → Nat) (w : World) (hE : Env A la f S ns X N C en xs T w) (hZ : Zs w Y m z) (hZ2 : Zs w Y2 m2 z2)
    (hla : la ≤ maxLen) (hns : ns ≤ maxLen) (hm : m ≤ maxLen) (hm2 : m2 ≤ maxLen) :
    Calls Try.prog 6 #[par k n A la ca B lb cb, .slice S ns cs, .slice Y m c, .slice Y2 m2 c2] w (Truth w) := by
  have hc0 := Cur.start w #[.int .i64 k, .int .i64 n, .slice A la ca, .slice B lb cb]
  have HE := Lib.hid hE
  have HZ := Lib.hid hZ
  have HZ2 := Lib.hid hZ2
  have H0 := Lib.hid hc0
  have Hns := hns
  have Hla := hla
  have hct := cts_two (w := w.alloc (.cells #[.int .i64 k, .int .i64 n, .slice A la ca, .slice B lb cb] 24)) (Y := Y) (c := c) (Y2 := Y2) (c2 := c2) hm hm2
  rw [World.size_alloc] at hct
  have HCT := Lib.hid hct
  clear hE hZ hZ2 hc0 hm hm2 hns hla hct
  go_enter Try.func6, Try.ntmps6
  go_wp2_with fail
  refine (heavy_any k n A B la ca lb cb S ns cs X N C (w.heap.size + 1) 0 2 2 (fun k => if k = 0 then Y else Y2) (fun k => if k = 0 then m else m2) (fun k => if k = 0 then c else c2) _ ((HE.out.below (H0.out.alloc _).b).s.sts) Hns HCT.out (by unfold maxLen; omega)).mono ?_
  rintro e w1 ⟨b, rfl, hb, hlight⟩
  have H1 := Lib.hid ((H0.out.alloc _).below hb)
  have HL := Lib.hid hlight
  clear hb hlight H0 HCT
  cases b
  · have hl := HL.out rfl
    have HLL := Lib.hid hl
    have hc := fun i => H1.out.box.cell i
    clear hl HL
    by_cases hfit : k = 9 ∧ n = 0 ∧ (la : Int) = 0 ∧ (lb : Int) = 0 ∧ (ns : Int) = 1
    · obtain ⟨rfl, rfl, hla0, hlb0, hns1⟩ := hfit
      obtain rfl : la = 0 := by omega
      obtain rfl : lb = 0 := by omega
      obtain rfl : ns = 1 := by omega
      clear hla0 hlb0 hns1 Hns Hla
      go_wp2_with fail
      refine (fit_yes _ _ _ _ _ _ _ _ _ rfl rfl).mono ?_
      rintro e w2 ⟨rfl, hb⟩
      have H2 := Lib.hid (H1.out.below hb)
      clear hb H1 hc
      have hc := fun i => H2.out.box.cell i
      go_wp2_with fail
      refine (new_9 _ _ _ _ _).mono ?_
      rintro e w3 ⟨g, rfl, hg1, hg2, hg3⟩
      have hgw : w.heap.size < g := by have := H2.out.box.lt; omega
      have H3 := Lib.hid (H2.out.below hg3)
      have HG := Lib.hid hg2
      clear hg1 hg2 hg3 H2 hc
      have hc := fun i => H3.out.box.cell i
      go_wp2_with fail
      refine (new_9 _ _ _ _ _).mono ?_
      rintro e w4 ⟨g2, rfl, hg1, hg2, hg3⟩
      have hgg : g < g2 := by have := HG.out.lt; omega
      have H4 := Lib.hid (H3.out.below hg3)
      have HG4 := Lib.hid (HG.out.below hg3 HG.out.lt)
      have HF4 := Lib.hid hg2
      clear hg1 hg2 hg3 H3 hc HG
      obtain ⟨sb, so, rfl, hin⟩ := HE.out.s.in1_new rfl (HLL.out.2.2.2.1 0 (by omega)) H4.out.b (Nat.le_of_lt hgw)
      have HI := Lib.hid hin
      clear hin
      go_wp2_with fail
      refine (drive_count g sb so (N 0) (C 0) m c cs (X 0) Y (en 0) (xs 0) z T _ HG4.out (HE.out.t.below H4.out.b) HI.out (HZ.out.new H4.out.b (Nat.le_of_lt hgw)) (HLL.out.2.2.2.2 0 (by omega))).mono ?_
      intro e w5 hend
      obtain ⟨rfl, hg⟩ := hend.one
      have H5 := Lib.hid (H4.out.only hg hgw)
      have HF5 := Lib.hid (HF4.out.grown hg (by intro e; injection e with e; omega))
      clear hend hg H4 HG4 HF4 HI
      have hgw2 : w.heap.size < g2 := by omega
      obtain ⟨sb2, so2, e2, hin⟩ := HE.out.s.in1_new rfl (HLL.out.2.2.2.1 0 (by omega)) H5.out.b (Nat.le_of_lt hgw2)
      obtain ⟨rfl, rfl⟩ : sb = sb2 ∧ so = so2 := by simpa using e2
      have HI := Lib.hid hin
      clear hin e2
      go_wp2_with fail
      refine (drive_count g2 sb so (N 0) (C 0) m2 c2 cs (X 0) Y2 (en 0) (xs 0) z2 T _ HF5.out (HE.out.t.below H5.out.b) HI.out (HZ2.out.new H5.out.b (Nat.le_of_lt hgw2)) (HLL.out.2.2.2.2 1 (by omega))).mono ?_
      intro e w6 hend
      obtain ⟨rfl, hg⟩ := hend.one
      have H6 := Lib.hid (H5.out.only hg hgw2)
      clear hend hg H5 HF5 HI
      generalize saidT T (en 0) (xs 0) (N 0) = sd
      generalize needT (en 0) = nd
      go_upto_region 8 with fail
      have K1 := (Has.made w6 39 (got sd nd 0 (N 0))).alloc (.cells (got sd nd 0 (N 0)) 39)
      have K2 := Has.made (w6.alloc (.cells (got sd nd 0 (N 0)) 39)) 39 (got sd nd 0 (N 0))
      have H7 := Lib.hid ((H6.out.alloc (.cells (got sd nd 0 (N 0)) 39)).alloc (.cells (got sd nd 0 (N 0)) 39))
      rw [World.size_alloc] at K2
      go_name_world W7 hW7
      have K1' : Has W7 w6.heap.size 39 (got sd nd 0 (N 0)) := by rw [← hW7]; exact K1
      have K2' : Has W7 (w6.heap.size + 1) 39 (got sd nd 0 (N 0)) := by rw [← hW7]; exact K2
      have H8 := Lib.hid (show Cur w W7 _ by rw [← hW7]; exact H7.out)
      clear K1 K2 H7 hW7 H6
      have c1 := fun i => K1'.cell i
      have c2 := fun i => K2'.cell i
      clear K1' K2'
      have hq := fun W => eq4 sd ⟨#[]⟩ ⟨#[]⟩ ⟨#[]⟩ W
      go_wp2_with (go_at_call 11; refine (awake_true T _ (HE.out.t.below H8.out.b)).mono ?_; rintro e w7 ⟨rfl, hb7⟩; have H9 := Lib.hid (H8.out.below hb7); clear hb7)
      go_ret
      exact ⟨rfl, H9.out.b⟩
    · have HF := Lib.hid hfit
      clear hfit
      go_wp2_with fail
      refine (fit_no _ _ _ _ _ _ _ _ _ _ _ _ _ ((HE.out.below H1.out.b).a) Hla HF.out).mono ?_
      rintro e w2 ⟨rfl, hb⟩
      have H2 := Lib.hid (H1.out.below hb)
      clear hb
      go_wp2_with fail
      refine (awake_true T _ (HE.out.t.below H2.out.b)).mono ?_
      rintro e w3 ⟨rfl, hb⟩
      have H3 := Lib.hid (H2.out.below hb)
      clear hb
      go_wp2_with fail
      go_ret
      exact ⟨rfl, H3.out.b⟩
  · clear HL
    go_wp2_with fail
    refine (awake_true T _ (HE.out.t.below H1.out.b)).mono ?_
    rintro e w2 ⟨rfl, hb⟩
    have H2 := Lib.hid (H1.out.below hb)
    clear hb
    go_wp2_with fail
    go_ret
    exact ⟨rfl, H2.out.b⟩

end Go.Proofs.Ytfbmhejpndgbmaa
