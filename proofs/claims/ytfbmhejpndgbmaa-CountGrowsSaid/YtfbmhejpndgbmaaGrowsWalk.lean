/-
  The walk of CountGrows: it answers true, and old memory stays. Condition: what is handed in can be read.
-/
import Derived.Test.YtfbmhejpndgbmaaGrow
import Derived.Test.YtfbmhejpndgbmaaChunksWalk
import Derived.Deep.RegionLaw
namespace Go.Proofs.Ytfbmhejpndgbmaa
open Go.RowKit

/-- append of bytes to bytes of the call's own, as one step of a region that draws. -/
theorem step_append_bytes {ops : Array Oper} {o : Oper} {a : Act} {w : World} {K : Act → World → Prop} {Q : Exit → Act → World → Prop} {E : Prop} (hg : o.guard = none) (s x : Operand)
    (hop : o.op = .call { callee := .builtin .append, args := #[s, x], argTypes := #[22, 22] }) (base : Nat) (v : Value) (n : Nat) (ys : List Value) (hs : a.eval s = v) (hown : w.ownsRow base 5 1 v n ys)
    (X : Option Addr) (N C : Nat) (xs : List Int) (hx : a.eval x = .slice X N C) (hl : xs.length = N) (h0 : X = none → N = 0 ∧ C = 0) (hr : Rd w X N xs) (h63 : n + N ≤ 4000) (hbase : base ≤ w.heap.size)
    (hK : ∀ v' w', w'.ownsRow base 5 1 v' (n + N) (ys ++ b8 xs) → w.grownBy w' v.ownBlock → K (a.put o.dst v') w') :
    if Region.wanted o (yielded ops a.tmps) = true then Oper.wp Try.prog o a w K Q else E := by
  have hw : Region.wanted o (yielded ops a.tmps) = true := by simp [Region.wanted, hg]
  rw [if_pos hw]
  obtain ⟨i0, hi0, hq0, hq1, hq2⟩ := info_parts info5
  cases X with
  | none =>
    obtain ⟨rfl, rfl⟩ := h0 rfl
    obtain rfl : xs = [] := List.eq_nil_of_length_eq_zero hl
    have hrun := run_append_owned_none (P := Try.prog) (w := w) base 22 o.type 5 i0 1 Try.underlying22 hi0 v n ys hown
    unfold Oper.wp
    simp [execOp, hop, resolve, invoke, builtin, hs, hx, hrun, Result.andThen]
    exact hK v w (by simpa using hown) (World.grownBy.refl _ _)
  | some ad =>
    exact wp_append_own w s x 22 hop base 5 i0 (.int .u8 0) 1 1 Try.underlying22 hi0 hq0 hq1 hq2 rfl (by decide) v n ys hs hown ad N C (b8 xs) hx (by simp [hl]) (b8_cells hl hr)
      (by intro u hu; simp at hu; obtain ⟨_, _, rfl⟩ := hu; rfl) (by unfold maxLen; omega) (by omega) hbase (fun v' w' h1 h2 _ => hK v' w' h1 h2)

theorem begins_same (a b : ByteArray) (h : a = b ∨ a = ⟨#[]⟩) (w : World) :
    Calls Try.prog 20 #[.string a, .string b] w (fun e w' => e = .returned (.bool true) ∧ w = w') := by
  rcases h with rfl | rfl
  all_goals
    go_enter Try.func20, Try.ntmps20
    go_wp2
    go_ret
    exact ⟨rfl, rfl⟩

theorem Cur.drewN {w wc : World} {pc : Array Value} (h : Cur w wc pc) (n : Nat) : Cur w (wc.drewN n) pc := ⟨h.box, belowDrewN h.b n⟩

/-- The loop that lengthens, between two rounds. -/
def GrowAt (w wL : World) (pc : Array Value) (B q : Nat) (_v : Value) (en : Bool) (e0 e1 e2 : Int) (N : Nat) (xs : List Int) (j : Nat) (i : Value) (wr : World) : Prop :=
  (j = 1 ∧ i = .int .i64 0 ∧ wr = wL) ∨
  (j = 0 ∧ i = .int .i64 1 ∧ ∃ L v' en' N' xs', (en = true → en' = true ∧ N' = N ∧ xs' = xs) ∧ xs'.length = N' ∧ N' ≤ 3000 ∧ Lg w wr pc B L q v' en' e0 e1 e2 N' xs')

theorem Str.one {w w' : World} {S : Option Addr} {X : Nat → Option Addr} {N C : Nat → Nat} {en : Nat → Bool} {xs : Nat → List Int} {E0 E1 E2 : Nat → Int} (h : Str w S 1 X N C en xs) (hE : StrE w S 1 X C E0 E1 E2)
    (hb : Below w.heap.size w w') : ∃ sb so, S = some ⟨sb, so, none⟩ ∧ sb < w'.heap.size ∧ w'.cell? ⟨sb, so, none⟩ = some (.slice (X 0) (N 0) (C 0)) ∧ w'.cell? ⟨sb, so + 1, none⟩ = some (.bool (en 0)) ∧
      w'.cell? ⟨sb, so + 2, none⟩ = some (.int .i64 (E0 0)) ∧ w'.cell? ⟨sb, so + 3, none⟩ = some (.int .i64 (E1 0)) ∧ w'.cell? ⟨sb, so + 4, none⟩ = some (.int .i64 (E2 0)) ∧ (xs 0).length = N 0 ∧ Rd w' (X 0) (N 0) (xs 0) ∧ (X 0 = none → C 0 = 0) ∧ N 0 ≤ C 0 := by
  rcases h with h | ⟨b, o, e, hlt, hc⟩
  · omega
  · rcases hE with hE | ⟨b', o', e', _, hc'⟩
    · omega
    · obtain ⟨k1, k2, k3, k4, k5, k6⟩ := hc 0 (by omega)
      obtain ⟨m1, m2, m3, m4⟩ := hc' 0 (by omega)
      rw [e] at e'
      injection e' with e'
      injection e' with e1 e2
      subst e1 e2
      simp only [Nat.zero_mul, Nat.add_zero] at k1 k2 m1 m2 m3
      refine ⟨b, o, e, Nat.lt_of_lt_of_le hlt hb.size, (hb.cell (p := ⟨b, o, none⟩) hlt).trans k1, (hb.cell (p := ⟨b, o + 1, none⟩) hlt).trans k2, (hb.cell (p := ⟨b, o + 2, none⟩) hlt).trans m1,
        (hb.cell (p := ⟨b, o + 3, none⟩) hlt).trans m2, (hb.cell (p := ⟨b, o + 4, none⟩) hlt).trans m3, k5, ?_, m4, k3⟩
      exact Rd.below k6 hb

set_option maxRecDepth 100000 in
set_option maxHeartbeats 2000000 in
theorem grows_walk (k n : Int) (A B : Option Addr) (la ca lb cb : Nat) (f : Nat → Int) (S : Option Addr) (ns cs : Nat) (X : Nat → Option Addr) (N C : Nat → Nat) (en : Nat → Bool) (xs : Nat → List Int) (E0 E1 E2 : Nat → Int)
    (M : Option Addr) (nm mc : Nat) (D : Option Addr) (nb bc : Nat)
    (Y : Option Addr) (m c : Nat) (z : Nat → Int) (T : Nat → Nat) (w : World) (hE : Env A la f S ns X N C en xs T w) (hSE : StrE w S ns X C E0 E1 E2) (hM : Mr w M nm) (hD : Mk w D nb) (hZ : Zs w Y m z)
    (hla : la ≤ maxLen) (hns : ns ≤ maxLen) (hm : m ≤ maxLen) (hnm : nm ≤ maxLen) (hnb : nb ≤ maxLen) :
    Calls Try.prog 7 #[par k n A la ca B lb cb, .slice S ns cs, .slice M nm mc, .slice D nb bc, .slice Y m c] w (Truth w) := by
  have hc0 := Cur.start w #[.int .i64 k, .int .i64 n, .slice A la ca, .slice B lb cb]
  have HE := Lib.hid hE
  have HSE := Lib.hid hSE
  have HM := Lib.hid hM
  have HD := Lib.hid hD
  have HZ := Lib.hid hZ
  have H0 := Lib.hid hc0
  have Hns := hns
  have Hla := hla
  have Hnm := hnm
  have Hnb := hnb
  have hct := cts_one (w := w.alloc (.cells #[.int .i64 k, .int .i64 n, .slice A la ca, .slice B lb cb] 24)) (Y := Y) (c := c) hm
  rw [World.size_alloc] at hct
  have HCT := Lib.hid hct
  clear hE hZ hc0 hm hns hla hct hSE hM hD hnm hnb
  go_enter Try.func7, Try.ntmps7
  go_wp2_with fail
  refine (heavy_any k n A B la ca lb cb S ns cs X N C (w.heap.size + 1) 0 1 1 (fun _ => Y) (fun _ => m) (fun _ => c) _ ((HE.out.below (H0.out.alloc _).b).s.sts) Hns HCT.out (by unfold maxLen; omega)).mono ?_
  rintro e w1 ⟨b, rfl, hb, hlight⟩
  have H1 := Lib.hid ((H0.out.alloc _).below hb)
  have HL := Lib.hid hlight
  clear hb hlight H0 HCT
  cases b
  · have hl := HL.out rfl
    have HLL := Lib.hid hl
    have hc := fun i => H1.out.box.cell i
    clear hl HL
    by_cases hfit : k = 9 ∧ n = 0 ∧ (la : Int) = 0 ∧ (lb : Int) = 0 ∧ (ns : Int) = 1
    · obtain ⟨rfl, rfl, hla0, hlb0, hns1⟩ := hfit
      obtain rfl : la = 0 := by omega
      obtain rfl : lb = 0 := by omega
      obtain rfl : ns = 1 := by omega
      clear hla0 hlb0 hns1 Hns Hla
      go_wp2_with fail
      refine (fit_yes _ _ _ _ _ _ _ _ _ rfl rfl).mono ?_
      rintro e w2 ⟨rfl, hb⟩
      have H2 := Lib.hid (H1.out.below hb)
      clear hb H1 hc
      have hc := fun i => H2.out.box.cell i
      by_cases h8 : 8 < (nm : Int)
      · go_wp2_with fail
        refine (awake_true T _ (HE.out.t.below H2.out.b)).mono ?_
        rintro e w3 ⟨rfl, hb⟩
        have H3 := Lib.hid (H2.out.below hb)
        clear hb
        go_wp2_with fail
        go_ret
        exact ⟨rfl, H3.out.b⟩
      · obtain ⟨sb, so, rfl, s0, s1, s2, s3, s4, s5, s6, s7, s8, s9⟩ := HE.out.s.one HSE.out H2.out.b
        have hN2 := HLL.out.2.2.2.1 0 (by omega)
        go_wp2_with fail
        refine (copy_one sb so cs (N 0) (C 0) (X 0) (en 0) (xs 0) (E0 0) (E1 0) (E2 0) _ s0 s1 s2 s3 s4 s5 (fun h => by have := s8 h; omega) s6 hN2 s7).mono ?_
        rintro e w3 ⟨q, cap, v, rfl, hq, hb, hL, hO, hne⟩
        have HG := Lib.hid (Lg.mk (H2.out.below hb) hL hO hne H2.out.box.lt hq (by obtain ⟨cur, hcc, _⟩ := hL; exact hcc.lt) (fun k hk => (hO.lt k hk).2) (Nat.le_refl _))
        have HXL := Lib.hid s6
        have HN2 := Lib.hid hN2
        generalize w2.heap.size = B0 at HG
        clear hb hL hO hne hq s0 s1 s2 s3 s4 s5 s6 s7 s8 s9 hc H2 hN2
        generalize hv0 : E0 0 = e0 at HG
        generalize hv1 : E1 0 = e1 at HG
        generalize hv2 : E2 0 = e2 at HG
        clear hv0 hv1 hv2
        go_wp2_with fail
        go_loopg [12] 1 (fun j i wr => GrowAt w w3 #[.int .i64 9, .int .i64 0, .slice A 0 ca, .slice B 0 cb] B0 q v (en 0) e0 e1 e2 (N 0) (xs 0) j i wr)
        case atStart => exact .inl ⟨rfl, rfl, rfl⟩
        case round =>
          rcases hrel with ⟨rfl, rfl, rfl⟩ | ⟨rfl, rfl, L, v', en', N', xs', he, hl, h3, hLg⟩
          · have hcl := HG.out.cells
            obtain ⟨⟨c0, c1, c2⟩, f0, f1⟩ := hcl
            cases hen : en 0
            · rw [hen] at c1
              by_cases he0 : e0 = 0
              · subst he0
                obtain ⟨VA, VC, rfl⟩ := own_slice HG.out.own
                by_cases hm0 : 0 < (nm : Int)
                · rcases HM.out.below HG.out.cur.b with h | ⟨mb, mo, MX, MC, ys, rfl, hml, hmc, hm1, hm2, hm3, hm4⟩
                  · omega
                  · have HM4 := Lib.hid hm4
                    clear hm4
                    by_cases hy : 1000 < ((ys.length : Nat) : Int)
                    · go_wp2_with (go_at_call 11; refine (awake_true T _ (HE.out.t.below HG.out.cur.b)).mono ?_; rintro e w7 ⟨rfl, hb7⟩; have H9 := Lib.hid (HG.out.cur.below hb7); clear hb7)
                      go_ret
                      exact ⟨rfl, H9.out.b⟩
                    · go_upto_region 11 with fail
                      have HB : Hid (Below wr.heap.size wr wr.drew) := Lib.hid ⟨rfl, rfl, rfl, Nat.le_refl _, fun _ _ => rfl⟩
                      have HGd := Lib.hid (HG.out.below HB.out)
                      have HMd := Lib.hid (HM4.out.below HB.out)
                      have hN2 := HN2.out
                      have HBW : Hid (B0 ≤ wr.drew.heap.size) := Lib.hid (by have := HGd.out.bq; have := HGd.out.ql; have := HGd.out.lw; omega)
                      go_region_law (refine step_append_bytes rfl (.tmp 76) (.tmp 80) rfl B0 (.slice VA (N 0) VC) (N 0) _ rfl HGd.out.own MX ys.length MC ys rfl rfl hm3 HMd.out (by omega) HBW.out ?_; intro v1 w1 hown1 hg1; obtain ⟨A1, C1, rfl⟩ := own_slice hown1; have HA := Lib.hid (HGd.out.append hown1 hg1); have HL1 := HGd.out.lng.grown hg1 (fun e => HGd.out.ne e.symm); obtain ⟨cur, hcur, h5, k0, k1, k2, k3, k4⟩ := HL1; have e0' := (hcur.cell 0).trans k0; have g0' := hcur.free 0; clear hcur h5 k0 k1 k2 k3 k4 hown1 hg1)
                      all_goals
                        go_upto_region 12 with fail
                        go_name_world W2 hW2
                        rw [hW2] at HA
                        clear hW2 e0' g0' c0 c1 c2 f0 f1
                        obtain ⟨⟨c0', c1', c2'⟩, f0', f1'⟩ := HA.out.cells
                        by_cases hb0 : 0 < (nb : Int)
                        · rcases HD.out.below HA.out.cur.b with h | ⟨db, dof, u, rfl, hdl, hdc⟩
                          · omega
                          · go_wp2_with fail
                            go_roundg 0
                            case measure => omega
                            case rel => exact .inr ⟨rfl, by go_num, _, _, u, _, _, fun h => (by rw [hen] at h; cases h), by rw [List.length_append, HXL.out], by omega, HA.out.put ⟨rfl, rfl, rfl⟩⟩
                        · go_wp2_with fail
                          go_roundg 0
                          case measure => omega
                          case rel => exact .inr ⟨rfl, by go_num, _, _, false, _, _, fun h => (by rw [hen] at h; cases h), by rw [List.length_append, HXL.out], by omega, HA.out.put ⟨rfl, rfl, rfl⟩⟩
                · go_upto_region 12 with fail
                  obtain ⟨⟨c0', c1', c2'⟩, f0', f1'⟩ := HG.out.cells
                  by_cases hb0 : 0 < (nb : Int)
                  · rcases HD.out.below HG.out.cur.b with h | ⟨db, dof, u, rfl, hdl, hdc⟩
                    · omega
                    · go_wp2_with fail
                      go_roundg 0
                      case measure => omega
                      case rel => exact .inr ⟨rfl, by go_num, _, _, u, _, _, fun h => (by rw [hen] at h; cases h), HXL.out, by have := HN2.out; omega, HG.out.put ⟨rfl, rfl, rfl⟩⟩
                  · go_wp2_with fail
                    go_roundg 0
                    case measure => omega
                    case rel => exact .inr ⟨rfl, by go_num, _, _, false, _, _, fun h => (by rw [hen] at h; cases h), HXL.out, by have := HN2.out; omega, HG.out.put ⟨rfl, rfl, rfl⟩⟩
              · have HR : Hid (GrowAt w wr #[.int .i64 9, .int .i64 0, .slice A 0 ca, .slice B 0 cb] B0 q v (en 0) e0 e1 e2 (N 0) (xs 0) 0 (.int .i64 1) wr) :=
                  Lib.hid (.inr ⟨rfl, rfl, _, _, _, _, _, fun h => ⟨h, rfl, rfl⟩, HXL.out, by have := HN2.out; omega, HG.out⟩)
                go_wp2_with fail
                go_roundg 0
                case measure => omega
                case rel => exact HR.out
            · rw [hen] at c1
              have HR : Hid (GrowAt w wr #[.int .i64 9, .int .i64 0, .slice A 0 ca, .slice B 0 cb] B0 q v (en 0) e0 e1 e2 (N 0) (xs 0) 0 (.int .i64 1) wr) :=
                Lib.hid (.inr ⟨rfl, rfl, _, _, _, _, _, fun h => ⟨h, rfl, rfl⟩, HXL.out, by have := HN2.out; omega, HG.out⟩)
              go_wp2_with fail
              go_roundg 0
              case measure => omega
              case rel => exact HR.out
          · have HLg := Lib.hid hLg
            have HHE := Lib.hid he
            have HHL := Lib.hid hl
            have HH3 := Lib.hid h3
            have hc := fun i => hLg.cur.box.cell i
            clear he hl h3 hLg HG
            go_wp2_with fail
            refine (new_9 _ _ _ _ _).mono ?_
            rintro e w4 ⟨g, rfl, hg1, hg2, hg3⟩
            have H4 := Lib.hid (HLg.out.below hg3)
            have HG4 := Lib.hid hg2
            have hLg1 : L ≤ g := Nat.le_trans HLg.out.lw hg1
            have hgw : w.heap.size < g := by have := HLg.out.wb; have := HLg.out.bq; have := HLg.out.ql; omega
            clear hg1 hg2 hg3 HLg hc
            have hc := fun i => H4.out.cur.box.cell i
            go_wp2_with fail
            refine (new_9 _ _ _ _ _).mono ?_
            rintro e w5 ⟨g2, rfl, hg1, hg2, hg3⟩
            have hgg : g < g2 := by have := HG4.out.lt; omega
            have H5 := Lib.hid (H4.out.below hg3)
            have HG5 := Lib.hid (HG4.out.below hg3 HG4.out.lt)
            have HF5 := Lib.hid hg2
            clear hg1 hg2 hg3 H4 hc HG4
            obtain ⟨sb2, so2, e2', hin⟩ := HE.out.s.in1_new rfl HN2.out H5.out.cur.b (Nat.le_of_lt hgw)
            obtain ⟨rfl, rfl⟩ : sb = sb2 ∧ so = so2 := by simpa using e2'
            have HI := Lib.hid hin
            clear hin e2'
            go_wp2_with fail
            refine (drive_count g sb so (N 0) (C 0) m c cs (X 0) Y (en 0) (xs 0) z T _ HG5.out (HE.out.t.below H5.out.cur.b) HI.out (HZ.out.new H5.out.cur.b (Nat.le_of_lt hgw)) (HLL.out.2.2.2.2 0 (by omega))).mono ?_
            intro e w6 hend
            obtain ⟨rfl, hg⟩ := hend.one
            have H6 := Lib.hid (H5.out.only hg hLg1)
            have HF6 := Lib.hid (HF5.out.grown hg (by intro e; injection e with e; omega))
            clear hend hg H5 HG5 HF5 HI
            have hgw2 : w.heap.size < g2 := by omega
            have hLg2 : L ≤ g2 := by omega
            obtain ⟨X', C', rfl, hin⟩ := H6.out.in1 hLg2 HHL.out HH3.out
            have HI := Lib.hid hin
            clear hin
            go_wp2_with fail
            refine (drive_count g2 q 0 N' C' m c cap X' Y en' xs' z T _ HF6.out (HE.out.t.below H6.out.cur.b) HI.out (HZ.out.new H6.out.cur.b (Nat.le_of_lt hgw2)) (HLL.out.2.2.2.2 0 (by omega))).mono ?_
            intro e w7 hend
            obtain ⟨rfl, hg⟩ := hend.one
            have H7 := Lib.hid (H6.out.only hg hLg2).cur
            clear hend hg H6 HF6 HI
            have hr : (needT (en 0) = -1 ∧ saidT T en' xs' N' = saidT T (en 0) (xs 0) (N 0) ∧ needT en' = -1) ∨ (needT (en 0) = 0 ∧ saidT T (en 0) (xs 0) (N 0) = ⟨#[]⟩) := by
              cases h : en 0
              · exact .inr ⟨rfl, rfl⟩
              · obtain ⟨h1, h2, h3⟩ := HHE.out h
                subst h1 h2 h3
                exact .inl ⟨rfl, rfl, rfl⟩
            clear HHE HHL HH3
            generalize saidT T (en 0) (xs 0) (N 0) = s1 at hr
            generalize needT (en 0) = n1 at hr
            generalize saidT T en' xs' N' = s2 at hr
            generalize needT en' = n2 at hr
            go_upto_region 18 with fail
            have K1 := (Has.made w7 39 (got s1 n1 0 (N 0))).alloc (.cells (got s2 n2 0 N') 39)
            have K2 := Has.made (w7.alloc (.cells (got s1 n1 0 (N 0)) 39)) 39 (got s2 n2 0 N')
            have H8 := (H7.out.alloc (.cells (got s1 n1 0 (N 0)) 39)).alloc (.cells (got s2 n2 0 N') 39)
            rw [World.size_alloc] at K2
            go_name_world W9 hW9
            rw [hW9] at K1 K2 H8
            have HK : Hid (Has W9 w7.heap.size 39 (got s1 n1 0 (N 0)) ∧ Has W9 (w7.heap.size + 1) 39 (got s2 n2 0 N') ∧ Cur w W9 _) := Lib.hid ⟨K1, K2, H8⟩
            clear K1 K2 H8 H7 hW9
            go_wp2_with fail
            go_loopg [19] 4 (fun j i wr => ∃ t : Nat, t ≤ 4 ∧ j = 4 - t ∧ i = .int .i64 (t : Int) ∧ Has wr w7.heap.size 39 (got s1 n1 0 (N 0)) ∧ Has wr (w7.heap.size + 1) 39 (got s2 n2 0 N') ∧ Cur w wr #[.int .i64 9, .int .i64 0, .slice A 0 ca, .slice B 0 cb])
            case atStart => exact ⟨0, by omega, by omega, rfl, HK.out⟩
            case round =>
              obtain ⟨t, ht, hj, rfl, k1, k2, k3⟩ := hrel
              have HK9 := Lib.hid (And.intro k1 (And.intro k2 k3))
              have d1 := fun i => k1.cell i
              have d2 := fun i => k2.cell i
              clear k1 k2 k3 HK
              obtain rfl | rfl | rfl | rfl | rfl : t = 0 ∨ t = 1 ∨ t = 2 ∨ t = 3 ∨ t = 4 := by omega
              · rcases hr with ⟨rfl, rfl, rfl⟩ | ⟨rfl, rfl⟩
                all_goals
                  go_upto_region 21 with fail
                  go_quiet ((go_at_call 20; exact Calls.quiet_of_left (begins_same _ _ (by first | exact .inl rfl | exact .inr rfl) _)))
                  go_wp2_with fail
                  go_roundg 3
                  case measure => omega
                  case rel => exact ⟨1, by omega, by omega, by go_num, HK9.out.1.drewN _, HK9.out.2.1.drewN _, HK9.out.2.2.drewN _⟩
              · rcases hr with ⟨rfl, rfl, rfl⟩ | ⟨rfl, rfl⟩
                all_goals
                  go_upto_region 21 with fail
                  go_quiet ((go_at_call 20; exact Calls.quiet_of_left (begins_same _ _ (by first | exact .inl rfl | exact .inr rfl) _)))
                  go_wp2_with fail
                  go_roundg 2
                  case measure => omega
                  case rel => exact ⟨2, by omega, by omega, by go_num, HK9.out.1.drewN _, HK9.out.2.1.drewN _, HK9.out.2.2.drewN _⟩
              · rcases hr with ⟨rfl, rfl, rfl⟩ | ⟨rfl, rfl⟩
                all_goals
                  go_upto_region 21 with fail
                  go_quiet ((go_at_call 20; exact Calls.quiet_of_left (begins_same _ _ (by first | exact .inl rfl | exact .inr rfl) _)))
                  go_wp2_with fail
                  go_roundg 1
                  case measure => omega
                  case rel => exact ⟨3, by omega, by omega, by go_num, HK9.out.1.drewN _, HK9.out.2.1.drewN _, HK9.out.2.2.drewN _⟩
              · rcases hr with ⟨rfl, rfl, rfl⟩ | ⟨rfl, rfl⟩
                all_goals
                  go_upto_region 21 with fail
                  go_quiet ((go_at_call 20; exact Calls.quiet_of_left (begins_same _ _ (by first | exact .inl rfl | exact .inr rfl) _)))
                  go_wp2_with fail
                  go_roundg 0
                  case measure => omega
                  case rel => exact ⟨4, by omega, by omega, by go_num, HK9.out.1.drewN _, HK9.out.2.1.drewN _, HK9.out.2.2.drewN _⟩
              · rcases hr with ⟨rfl, rfl, rfl⟩ | ⟨rfl, rfl⟩
                all_goals
                  go_wp2_with (go_at_call 11; refine (awake_true T _ (HE.out.t.below HK9.out.2.2.b)).mono ?_; rintro e w7 ⟨rfl, hb7⟩; have H9 := Lib.hid (HK9.out.2.2.below hb7); clear hb7)
                  go_ret
                  exact ⟨rfl, H9.out.b⟩
    · have HF := Lib.hid hfit
      clear hfit
      go_wp2_with fail
      refine (fit_no _ _ _ _ _ _ _ _ _ _ _ _ _ ((HE.out.below H1.out.b).a) Hla HF.out).mono ?_
      rintro e w2 ⟨rfl, hb⟩
      have H2 := Lib.hid (H1.out.below hb)
      clear hb
      go_wp2_with fail
      refine (awake_true T _ (HE.out.t.below H2.out.b)).mono ?_
      rintro e w3 ⟨rfl, hb⟩
      have H3 := Lib.hid (H2.out.below hb)
      clear hb
      go_wp2_with fail
      go_ret
      exact ⟨rfl, H3.out.b⟩
  · clear HL
    go_wp2_with fail
    refine (awake_true T _ (HE.out.t.below H1.out.b)).mono ?_
    rintro e w2 ⟨rfl, hb⟩
    have H2 := Lib.hid (H1.out.below hb)
    clear hb
    go_wp2_with fail
    go_ret
    exact ⟨rfl, H2.out.b⟩

end Go.Proofs.Ytfbmhejpndgbmaa
