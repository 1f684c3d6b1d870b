/-
  CountGrows holds for every input: the call returns true, the arguments read as they did; whatever the library's variables hold. No condition.
-/
import Derived.Test.YtfbmhejpndgbmaaHolds
import Derived.Test.YtfbmhejpndgbmaaGrowsWalk
namespace Go.Proofs.Ytfbmhejpndgbmaa
open Go.ChangeShapes Go.WideShapes Go.ChangeAt Go.RowKit

set_option maxRecDepth 100000 in
theorem grows_lifted (os : Os) (started : os.Started) (H : Type) (enc : TypeId × Value → H) :
    ReturnsInHanded {} Try.checked os 7 .any (Rows.countGrowsSpec.pre6 enc Try.prog Try.f7 Rows.countGrowsRow.domain false) (Rows.countGrowsSpec.post enc Try.prog Try.f7 false true false false) := by
  refine returnsInHanded_of_change_shaped (C := Try.checked) own started (by kernel_rfl) Try.func7
    (ChangeSpec.witness6 (enc := enc) (C := Try.checked) false ⟨#[], #[.agg #[.int .i64 0, .int .i64 0, .slice none 0 0, .slice none 0 0], .slice none 0 0, .slice none 0 0, .slice none 0 0, .slice none 0 0], []⟩ 8 (by kernel_rfl) (by kernel_rfl) (by kernel_rfl) (by kernel_rfl)) ?_
  intro W base args ds gs before hval0 hW hcnd _ hsh _
  have hval : ∀ (j : Nat) t v, Try.f7.params[j]? = some t → args[j]? = some v → Value.okWide Try.prog W .any base t v := hval0
  have hW' := hW
  have hlt : ∀ x ∈ before, x.block < W.heap.size := fun x hx => hW'.lt x hx
  obtain ⟨p, q, hA0, hV, rfl, hfz, hnd⟩ := hW
  have hA : DataW.TrodAll enc Try.prog W 0 (fun _ => true) true Try.f7.params.toList args.toList ds p := hA0
  rw [Try.params7] at hA hval
  obtain ⟨v0, vs0, d0, ds0, p0, q0, hargs, rfl, rfl, h0, r0⟩ := trodAll_cons hA
  obtain ⟨v1, vs1, d1, ds1, p1, q1, rfl, rfl, rfl, h1, r1⟩ := trodAll_cons r0
  obtain ⟨v2, vs2, d2, ds2, p2, q2, rfl, rfl, rfl, h2, r2⟩ := trodAll_cons r1
  obtain ⟨v3, vs3, d3, ds3, p3, q3, rfl, rfl, rfl, h3, r3⟩ := trodAll_cons r2
  obtain ⟨v4, vs4, d4, ds4, p4, q4, rfl, rfl, rfl, h4, r4⟩ := trodAll_cons r3
  obtain ⟨rfl, rfl, rfl⟩ := trodAll_nil r4
  obtain rfl : args = #[v0, v1, v2, v3, v4] := by cases args; simp_all
  obtain ⟨rfl, rfl⟩ := trodVars_none hV
  obtain ⟨k, n, A, B, la, ca, lb, cb, f, rfl, hla, hlb, hBs⟩ := open_par (hval 0 24 v0 rfl rfl) h0
  obtain ⟨a1, len1, cap1, rfl⟩ := okWide_slice Try.underlying25 (hval 1 25 v1 rfl rfl)
  obtain ⟨a2, len2, cap2, rfl⟩ := okWide_slice Try.underlying52 (hval 2 52 v2 rfl rfl)
  obtain ⟨a3, len3, cap3, rfl⟩ := okWide_slice Try.underlying53 (hval 3 53 v3 rfl rfl)
  obtain ⟨a4, len4, cap4, rfl⟩ := okWide_slice Try.underlying26 (hval 4 26 v4 rfl rfl)
  have h1' := h1
  have h2' := h2
  have h3' := h3
  have h4' := h4
  obtain ⟨fu1, hf1⟩ := h1'
  obtain ⟨fu2, hf2⟩ := h2'
  obtain ⟨fu3, hf3⟩ := h3'
  obtain ⟨fu4, hf4⟩ := h4'
  obtain ⟨S, ns, cs, X, N, C, en, xs, E0, E1, E2, e1, hn1, hn2, hS, hSE⟩ := open_streams (c := .slice a1 len1 cap1) hf1
  obtain ⟨M, nm, mc, e2, hm1, hm2, hM⟩ := open_more (c := .slice a2 len2 cap2) hf2
  obtain ⟨D, nb, bc, e3, hb1, hb2, hD⟩ := open_marks (c := .slice a3 len3 cap3) hf3
  obtain ⟨Y, m, c, z, e4, hm3, hm4, hZ⟩ := open_i64 (c := .slice a4 len4 cap4) hf4
  obtain ⟨T, hT⟩ := tab_shaped hsh
  rw [e1, e2, e3, e4]
  clear hA0 hval0
  refine (grows_walk k n A B la ca lb cb f S ns cs X N C en xs E0 E1 E2 M nm mc D nb bc Y m c z T W ⟨hBs, hS, hT⟩ hSE hM hD hZ hla (by omega) (by omega) (by omega) (by omega)).mono fun e W' ⟨he, hb⟩ => ?_
  subst he
  rw [← e1, ← e2, ← e3, ← e4]
  simp only [List.append_nil] at hW' hlt
  refine ⟨_, rfl, _, _, _, [], p0 ++ (p1 ++ (p2 ++ (p3 ++ (p4 ++ [])))), [], hW', ?_, ?_, rfl, ?_, fun h => by cases h⟩
  · exact trodAll_cons_mk (shut_bool Try.underlying4 _) trodAll_mk0
  · exact trodAll_cons_mk (reads_on (by kernel_rfl) (of_decide_eq_true (by kernel_rfl)) h0 hb hlt (fun x hx => by simp [hx]))
      (trodAll_cons_mk (reads_on (by kernel_rfl) (of_decide_eq_true (by kernel_rfl)) h1 hb hlt (fun x hx => by simp [hx]))
        (trodAll_cons_mk (reads_on (by kernel_rfl) (of_decide_eq_true (by kernel_rfl)) h2 hb hlt (fun x hx => by simp [hx]))
          (trodAll_cons_mk (reads_on (by kernel_rfl) (of_decide_eq_true (by kernel_rfl)) h3 hb hlt (fun x hx => by simp [hx]))
            (trodAll_cons_mk (reads_on (by kernel_rfl) (of_decide_eq_true (by kernel_rfl)) h4 hb hlt (fun x hx => by simp [hx])) trodAll_mk0))))
  · exact World.keptBut_mono (fun x hx => ⟨hx, .inr (by simpa using hx)⟩) (hb.frame _)

theorem grows_holds : Rows.CountGrowsSaid :=
  OpenClaim.holds_of_wide 7 Try.f7 rfl rfl rfl rfl rfl rfl rfl ⟨rfl, rfl, rfl, rfl, rfl⟩ rfl rfl rfl rfl rfl (by kernel_rfl) Try.func7 (by kernel_rfl)
    (of_decide_eq_true (by kernel_rfl)) (by unfold Func.isWrapper; first | (rw [if_pos (by decide +kernel)]; kernel_rfl) | (rw [if_neg (by decide +kernel)]; exact ⟨rfl, rfl⟩))
    (fun os started H enc _ => grows_lifted os started H enc)
#print axioms grows_holds

end Go.Proofs.Ytfbmhejpndgbmaa
