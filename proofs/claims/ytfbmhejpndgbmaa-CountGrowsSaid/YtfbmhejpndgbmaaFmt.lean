/-
  The library's numeral of a number up to 3000, WHATEVER ITS TABLE OF POWERS HOLDS: what is told is a function of the number and of the table. Condition: the table's cells can be read.
-/
import Derived.Test.YtfbmhejpndgbmaaWords
import Derived.Test.YtfbmhejpndgbmaaShelf
namespace Go.Proofs.Ytfbmhejpndgbmaa
open Go.RowKit Go.Lib

theorem lens (u : Nat) (h1 : 100 ≤ u) (h2 : u ≤ 3000) : Lib.bitLen u ≤ 64 ∧ (Lib.l10 (Lib.bitLen u) = 2 ∨ Lib.l10 (Lib.bitLen u) = 3) := by
  have h : ∀ u : Fin 1501, 100 ≤ u.val → Lib.bitLen u.val ≤ 64 ∧ (Lib.l10 (Lib.bitLen u.val) = 2 ∨ Lib.l10 (Lib.bitLen u.val) = 3) := by decide +kernel
  have h' : ∀ u : Fin 1500, Lib.bitLen (u.val + 1501) ≤ 64 ∧ (Lib.l10 (Lib.bitLen (u.val + 1501)) = 2 ∨ Lib.l10 (Lib.bitLen (u.val + 1501)) = 3) := by decide +kernel
  by_cases hu : u ≤ 1500
  · exact h ⟨u, by omega⟩ h1
  · have := h' ⟨u - 1501, by omega⟩
    simpa only [Nat.sub_add_cancel (show 1501 ≤ u by omega)] using this

/-- How many digits are told, by the table's entry T. -/
def ndT (T : Nat → Nat) (u : Nat) : Nat := Lib.l10 (Lib.bitLen u) + if T (Lib.l10 (Lib.bitLen u)) ≤ u then 1 else 0

theorem ndT_cases (T : Nat → Nat) (u : Nat) (h1 : 100 ≤ u) (h2 : u ≤ 3000) : ndT T u = 2 ∨ ndT T u = 3 ∨ ndT T u = 4 := by
  have := (lens u h1 h2).2
  unfold ndT
  split <;> omega

/-- The library's table of powers, as it stands. -/
def Tab (w : World) (T : Nat → Nat) : Prop := 1 < w.heap.size ∧ ∀ k, k < 20 → w.cell? ⟨1, k, none⟩ = some (.int .u64 (T k)) ∧ T k ≤ 18446744073709551615

theorem Tab.below {w w' : World} {T : Nat → Nat} (h : Tab w T) (hb : Below w.heap.size w w') : Tab w' T :=
  ⟨Nat.lt_of_lt_of_le h.1 hb.size, fun k hk => ⟨(hb.cell (p := ⟨1, k, none⟩) h.1).trans (h.2 k hk).1, (h.2 k hk).2⟩⟩

theorem numDigits_any (T : Nat → Nat) (u : Nat) (h1 : 100 ≤ u) (h2 : u ≤ 3000) (w : World) (hT : Tab w T) :
    Calls Try.prog 111 #[.int .u64 u] w fun e w' => e = .returned (.int .i64 (ndT T u)) ∧ w = w' := by
  obtain ⟨hb, hl⟩ := lens u h1 h2
  have hto : ((u : Int)).toNat = u := by omega
  have hq : Lib.l10 (Lib.bitLen u) < 20 := by omega
  obtain ⟨hcell, hbd⟩ := hT.2 _ hq
  have hle : Lib.l10 (Lib.bitLen u) ≤ 3 := by omega
  have hnd : Lib.l10 (Lib.bitLen u) + (if T (Lib.l10 (Lib.bitLen u)) ≤ u then 1 else 0) = ndT T u := rfl
  generalize ndT T u = r at hnd
  have HL := Lib.hid hb
  clear hT hl hb
  generalize hB : Lib.bitLen u = x at *
  generalize hQ : Lib.l10 x = q at *
  generalize hTq : T q = t at *
  have Hnd := Lib.hid hnd
  have HB := Lib.hid hB
  have HQ := Lib.hid hQ
  clear hnd hB hQ hTq
  by_cases hlt : t ≤ u
  · go_enter Try.func111, Try.ntmps111
    go_wp2_with fail
    refine (Try.bits_Len64 _ _ (by omega) (by omega)).mono ?_
    rintro e w' ⟨rfl, rfl⟩
    rw [hto, HB.out]
    go_wp2_with fail
    refine (Try.internal_strconv_log10Pow2 _ HL.out _).mono ?_
    rintro e w' ⟨rfl, rfl⟩
    rw [HQ.out]
    go_wp2_with fail
    refine (Try.internal_strconv_bool2_int _ _).mono ?_
    rintro e w' ⟨rfl, rfl⟩
    go_wp2_with fail
    go_ret
    refine ⟨ret_int ?_, rfl⟩
    have := Hnd.out
    rw [if_pos hlt] at this
    omega
  · go_enter Try.func111, Try.ntmps111
    go_wp2_with fail
    refine (Try.bits_Len64 _ _ (by omega) (by omega)).mono ?_
    rintro e w' ⟨rfl, rfl⟩
    rw [hto, HB.out]
    go_wp2_with fail
    refine (Try.internal_strconv_log10Pow2 _ HL.out _).mono ?_
    rintro e w' ⟨rfl, rfl⟩
    rw [HQ.out]
    go_wp2_with fail
    refine (Try.internal_strconv_bool2_int _ _).mono ?_
    rintro e w' ⟨rfl, rfl⟩
    go_wp2_with fail
    go_ret
    refine ⟨ret_int ?_, rfl⟩
    have := Hnd.out
    rw [if_neg hlt] at this
    omega

theorem put1 {w : World} {g : Nat} {t : TypeId} {cs : Array Value} (h : Has w g t cs) (i : Nat) (u : Value) :
    w.grownBy (w.setCell ⟨g, i, none⟩ u) (some g) ∧ Has (w.setCell ⟨g, i, none⟩ u) g t (cs.setIfInBounds i u) :=
  ⟨only_setCell (only_refl _ _) (.inl rfl) _, h.put i u⟩

theorem put2 {w : World} {g : Nat} {t : TypeId} {cs : Array Value} (h : Has w g t cs) (i j : Nat) (u v : Value) :
    w.grownBy ((w.setCell ⟨g, i, none⟩ u).setCell ⟨g, j, none⟩ v).drew (some g) ∧ Has ((w.setCell ⟨g, i, none⟩ u).setCell ⟨g, j, none⟩ v).drew g t ((cs.setIfInBounds i u).setIfInBounds j v) :=
  ⟨only_drew (only_trans (put1 h i u).1 (put1 (put1 h i u).2 j v).1), ((put1 (put1 h i u).2 j v).2).drew⟩

/-- A byte as it lies in memory. -/
abbrev by8 (b : UInt8) : Value := .int .u8 (b.toNat : Int)

/-- The library's 24 bytes, as they are laid. -/
abbrev z24 : Array Value := #[.int .u8 0, .int .u8 0, .int .u8 0, .int .u8 0, .int .u8 0, .int .u8 0, .int .u8 0, .int .u8 0, .int .u8 0, .int .u8 0, .int .u8 0, .int .u8 0, .int .u8 0, .int .u8 0, .int .u8 0, .int .u8 0, .int .u8 0, .int .u8 0, .int .u8 0, .int .u8 0, .int .u8 0, .int .u8 0, .int .u8 0, .int .u8 0]

set_option maxRecDepth 100000 in
set_option maxHeartbeats 400000 in
theorem fmt_2 (u g : Nat) (h2 : u ≤ 3000) (w : World) (hH : Has w g 158 z24) :
    Calls Try.prog 112 #[.slice (some ⟨g, 1, none⟩) 2 23, .int .u64 u] w fun e w' => e = .returned (.tuple #[]) ∧ w.grownBy w' (some g) ∧
      Has w' g 158 ((z24.setIfInBounds 2 (by8 (sm (u % 100 * 2 + 1)))).setIfInBounds 1 (by8 (sm (u % 100 * 2)))) := by
  have hc := fun i => hH.cell i
  have hf := fun i => hH.free i
  have HH := Lib.hid hH
  have hXa : ∀ w, (Instr.index 9 (.string Lib.smalls) (.int .u32 ((u : Int) % 100 * 2 + 1))).run Try.prog w = .ok (.int .u8 ((sm (u % 100 * 2 + 1)).toNat : Int)) w := idx_smalls 9 Try.underlying9 .u32 _ _ (by omega) (by omega)
  have hXb : ∀ w, (Instr.index 9 (.string Lib.smalls) (.int .u32 ((u : Int) % 100 * 2))).run Try.prog w = .ok (.int .u8 ((sm (u % 100 * 2)).toNat : Int)) w := idx_smalls 9 Try.underlying9 .u32 _ _ (by omega) (by omega)
  clear hH
  go_enter Try.func112, Try.ntmps112
  go_name_bytes SM hSM
  have eSM : SM = Lib.smalls := by rw [← hSM]; decide +kernel
  subst eSM
  clear hSM
  go_wp2
  go_loop [1, 4] (fun a b => a = .int .u64 u ∧ b = .int .i64 2) (fun _ _ => 0)
  case atStart => exact ⟨rfl, rfl⟩
  case round =>
    obtain ⟨rfl, rfl⟩ := hrel
    go_wp2
    go_region
    go_wp2
    go_end0
    exact ⟨rfl, put2 HH.out 2 1 _ _⟩

set_option maxRecDepth 100000 in
set_option maxHeartbeats 400000 in
theorem fmt_3 (u g : Nat) (h2 : u ≤ 3000) (w : World) (hH : Has w g 158 z24) :
    Calls Try.prog 112 #[.slice (some ⟨g, 1, none⟩) 3 23, .int .u64 u] w fun e w' => e = .returned (.tuple #[]) ∧ w.grownBy w' (some g) ∧
      Has w' g 158 (((z24.setIfInBounds 3 (by8 (sm (u % 100 * 2 + 1)))).setIfInBounds 2 (by8 (sm (u % 100 * 2)))).setIfInBounds 1 (.int .u8 (48 + (u : Int) / 100))) := by
  have hc := fun i => hH.cell i
  have hf := fun i => hH.free i
  have HH := Lib.hid hH
  have hXa : ∀ w, (Instr.index 9 (.string Lib.smalls) (.int .u32 ((u : Int) % 100 * 2 + 1))).run Try.prog w = .ok (.int .u8 ((sm (u % 100 * 2 + 1)).toNat : Int)) w := idx_smalls 9 Try.underlying9 .u32 _ _ (by omega) (by omega)
  have hXb : ∀ w, (Instr.index 9 (.string Lib.smalls) (.int .u32 ((u : Int) % 100 * 2))).run Try.prog w = .ok (.int .u8 ((sm (u % 100 * 2)).toNat : Int)) w := idx_smalls 9 Try.underlying9 .u32 _ _ (by omega) (by omega)
  clear hH
  go_enter Try.func112, Try.ntmps112
  go_name_bytes SM hSM
  have eSM : SM = Lib.smalls := by rw [← hSM]; decide +kernel
  subst eSM
  clear hSM
  go_wp2
  go_loop [1, 4] (fun a b => a = .int .u64 u ∧ b = .int .i64 3) (fun _ _ => 0)
  case atStart => exact ⟨rfl, rfl⟩
  case round =>
    obtain ⟨rfl, rfl⟩ := hrel
    go_wp2
    go_region
    go_wp2
    go_end0
    have h := put2 HH.out 3 2 (by8 (sm (u % 100 * 2 + 1))) (by8 (sm (u % 100 * 2)))
    have h' := put1 h.2 1 (.int .u8 (48 + (u : Int) / 100))
    exact ⟨rfl, only_trans h.1 h'.1, h'.2⟩

set_option maxRecDepth 100000 in
set_option maxHeartbeats 400000 in
theorem fmt_4 (u g : Nat) (h2 : u ≤ 3000) (w : World) (hH : Has w g 158 z24) :
    Calls Try.prog 112 #[.slice (some ⟨g, 1, none⟩) 4 23, .int .u64 u] w fun e w' => e = .returned (.tuple #[]) ∧ w.grownBy w' (some g) ∧
      Has w' g 158 ((((z24.setIfInBounds 4 (by8 (sm (u % 100 * 2 + 1)))).setIfInBounds 3 (by8 (sm (u % 100 * 2)))).setIfInBounds 2 (by8 (sm (u % 10000 / 100 * 2 + 1)))).setIfInBounds 1 (by8 (sm (u % 10000 / 100 * 2)))) := by
  have hc := fun i => hH.cell i
  have hf := fun i => hH.free i
  have HH := Lib.hid hH
  have hXa : ∀ w, (Instr.index 9 (.string Lib.smalls) (.int .u32 ((u : Int) % 100 * 2 + 1))).run Try.prog w = .ok (.int .u8 ((sm (u % 100 * 2 + 1)).toNat : Int)) w := idx_smalls 9 Try.underlying9 .u32 _ _ (by omega) (by omega)
  have hXb : ∀ w, (Instr.index 9 (.string Lib.smalls) (.int .u32 ((u : Int) % 100 * 2))).run Try.prog w = .ok (.int .u8 ((sm (u % 100 * 2)).toNat : Int)) w := idx_smalls 9 Try.underlying9 .u32 _ _ (by omega) (by omega)
  have hXc : ∀ w, (Instr.index 9 (.string Lib.smalls) (.int .u32 ((u : Int) % 10000 / 100 * 2 + 1))).run Try.prog w = .ok (.int .u8 ((sm (u % 10000 / 100 * 2 + 1)).toNat : Int)) w := idx_smalls 9 Try.underlying9 .u32 _ _ (by omega) (by omega)
  have hXd : ∀ w, (Instr.index 9 (.string Lib.smalls) (.int .u32 ((u : Int) % 10000 / 100 * 2))).run Try.prog w = .ok (.int .u8 ((sm (u % 10000 / 100 * 2)).toNat : Int)) w := idx_smalls 9 Try.underlying9 .u32 _ _ (by omega) (by omega)
  clear hH
  go_enter Try.func112, Try.ntmps112
  go_name_bytes SM hSM
  have eSM : SM = Lib.smalls := by rw [← hSM]; decide +kernel
  subst eSM
  clear hSM
  go_wp2
  go_loop [1, 4] (fun a b => a = .int .u64 u ∧ b = .int .i64 4) (fun _ _ => 0)
  case atStart => exact ⟨rfl, rfl⟩
  case round =>
    obtain ⟨rfl, rfl⟩ := hrel
    go_wp2
    go_region
    go_wp2
    go_region
    go_wp2
    go_end0
    have h := put2 HH.out 4 3 (by8 (sm (u % 100 * 2 + 1))) (by8 (sm (u % 100 * 2)))
    have h' := put2 h.2 2 1 (by8 (sm (u % 10000 / 100 * 2 + 1))) (by8 (sm (u % 10000 / 100 * 2)))
    exact ⟨rfl, only_trans h.1 h'.1, h'.2⟩

theorem box_below' (w : World) (o : Obj) : Below w.heap.size w (w.alloc o) := (Below.refl _ _).alloc (Nat.le_refl _) o

/-- What is told of a number from 100 to 3000 as that many digits. -/
def txt (nd u : Nat) : List UInt8 :=
  if nd = 2 then [sm (u % 100 * 2), sm (u % 100 * 2 + 1)]
  else if nd = 3 then [UInt8.ofNat (48 + u / 100), sm (u % 100 * 2), sm (u % 100 * 2 + 1)]
  else [sm (u % 10000 / 100 * 2), sm (u % 10000 / 100 * 2 + 1), sm (u % 100 * 2), sm (u % 100 * 2 + 1)]

/-- The library's 24 bytes behind that. -/
def fin (nd u : Nat) : Array Value :=
  if nd = 2 then (z24.setIfInBounds 2 (by8 (sm (u % 100 * 2 + 1)))).setIfInBounds 1 (by8 (sm (u % 100 * 2)))
  else if nd = 3 then ((z24.setIfInBounds 3 (by8 (sm (u % 100 * 2 + 1)))).setIfInBounds 2 (by8 (sm (u % 100 * 2)))).setIfInBounds 1 (.int .u8 (48 + (u : Int) / 100))
  else (((z24.setIfInBounds 4 (by8 (sm (u % 100 * 2 + 1)))).setIfInBounds 3 (by8 (sm (u % 100 * 2)))).setIfInBounds 2 (by8 (sm (u % 10000 / 100 * 2 + 1)))).setIfInBounds 1 (by8 (sm (u % 10000 / 100 * 2)))

theorem fin_reads (g : Nat) (cs : Array Value) (l : List UInt8) (wx : World) (h : Has wx g 158 cs) (hl : ∀ j (hj : j < l.length), cs[1 + j]? = some (by8 l[j])) :
    (convert 22 9 (.slice (some ⟨g, 1, none⟩) l.length 23)).run Try.prog wx = .ok (.string ⟨l.toArray⟩) wx :=
  run_convert_bytes_back wx 22 9 5 ⟨g, 1, none⟩ 23 l Try.underlying22 Try.underlying5 Try.underlying9 fun j hj => by
    rw [Lib.add_plain, h.cell, hl j hj]

theorem fin_2 (u g : Nat) (_ : u ≤ 3000) (wx : World) (h : Has wx g 158 (fin 2 u)) : (convert 22 9 (.slice (some ⟨g, 1, none⟩) 2 23)).run Try.prog wx = .ok (.string ⟨(txt 2 u).toArray⟩) wx :=
  fin_reads g _ (txt 2 u) wx h fun j hj => by
    match j, hj with
    | 0, _ => simp [fin, txt]
    | 1, _ => simp [fin, txt]

theorem fin_3 (u g : Nat) (h2 : u ≤ 3000) (wx : World) (h : Has wx g 158 (fin 3 u)) : (convert 22 9 (.slice (some ⟨g, 1, none⟩) 3 23)).run Try.prog wx = .ok (.string ⟨(txt 3 u).toArray⟩) wx :=
  fin_reads g _ (txt 3 u) wx h fun j hj => by
    match j, hj with
    | 0, _ =>
      show some (Value.int .u8 (48 + (u : Int) / 100)) = some (by8 (UInt8.ofNat (48 + u / 100)))
      have : (UInt8.ofNat (48 + u / 100)).toNat = 48 + u / 100 := by simp [UInt8.toNat_ofNat']; omega
      rw [by8, this]
      congr 2
    | 1, _ => simp [fin, txt]
    | 2, _ => simp [fin, txt]

theorem fin_4 (u g : Nat) (_ : u ≤ 3000) (wx : World) (h : Has wx g 158 (fin 4 u)) : (convert 22 9 (.slice (some ⟨g, 1, none⟩) 4 23)).run Try.prog wx = .ok (.string ⟨(txt 4 u).toArray⟩) wx :=
  fin_reads g _ (txt 4 u) wx h fun j hj => by
    match j, hj with
    | 0, _ => simp [fin, txt]
    | 1, _ => simp [fin, txt]
    | 2, _ => simp [fin, txt]
    | 3, _ => simp [fin, txt]

set_option maxRecDepth 100000 in
set_option maxHeartbeats 400000 in
theorem formatInt_big (T : Nat → Nat) (u : Nat) (h1 : 100 ≤ u) (h2 : u ≤ 3000) (w : World) (hT : Tab w T) :
    Calls Try.prog 103 #[.int .i64 u, .int .i64 10] w fun e w' => e = .returned (.string ⟨(txt (ndT T u) u).toArray⟩) ∧ Below w.heap.size w w' := by
  rcases ndT_cases T u h1 h2 with hN | hN | hN <;> rw [hN]
  · have hcells : ∀ (wx : World) , Has wx w.heap.size 158 (fin 2 u) → (convert 22 9 (.slice (some ⟨w.heap.size, 1, none⟩) 2 23)).run Try.prog wx = .ok (.string ⟨(txt 2 u).toArray⟩) wx := fun wx h => fin_2 u _ h2 wx h
    have HN := Lib.hid hN
    have HT := Lib.hid (hT.below (box_below' w (.cells z24 158)))
    have HC := Lib.hid hcells
    clear hcells hN hT
    go_enter Try.func103, Try.ntmps103
    go_wp2_with fail
    refine (numDigits_any T u h1 h2 _ HT.out).mono ?_
    rintro e w1 ⟨rfl, rfl⟩
    rw [HN.out]
    go_wp2_with fail
    refine (fmt_2 u w.heap.size h2 _ (Has.made _ _ _)).mono ?_
    rintro e w1 ⟨rfl, hg, hh⟩
    have hcv := HC.out _ hh
    have HG := Lib.hid hg
    clear hg hh
    go_wp2_with fail
    go_ret
    refine ⟨rfl, ?_⟩
    exact below_of_only (box_below' w _) HG.out (Nat.le_refl _) (by simp)
  · have hcells : ∀ (wx : World) , Has wx w.heap.size 158 (fin 3 u) → (convert 22 9 (.slice (some ⟨w.heap.size, 1, none⟩) 3 23)).run Try.prog wx = .ok (.string ⟨(txt 3 u).toArray⟩) wx := fun wx h => fin_3 u _ h2 wx h
    have HN := Lib.hid hN
    have HT := Lib.hid (hT.below (box_below' w (.cells z24 158)))
    have HC := Lib.hid hcells
    clear hcells hN hT
    go_enter Try.func103, Try.ntmps103
    go_wp2_with fail
    refine (numDigits_any T u h1 h2 _ HT.out).mono ?_
    rintro e w1 ⟨rfl, rfl⟩
    rw [HN.out]
    go_wp2_with fail
    refine (fmt_3 u w.heap.size h2 _ (Has.made _ _ _)).mono ?_
    rintro e w1 ⟨rfl, hg, hh⟩
    have hcv := HC.out _ hh
    have HG := Lib.hid hg
    clear hg hh
    go_wp2_with fail
    go_ret
    refine ⟨rfl, ?_⟩
    exact below_of_only (box_below' w _) HG.out (Nat.le_refl _) (by simp)
  · have hcells : ∀ (wx : World) , Has wx w.heap.size 158 (fin 4 u) → (convert 22 9 (.slice (some ⟨w.heap.size, 1, none⟩) 4 23)).run Try.prog wx = .ok (.string ⟨(txt 4 u).toArray⟩) wx := fun wx h => fin_4 u _ h2 wx h
    have HN := Lib.hid hN
    have HT := Lib.hid (hT.below (box_below' w (.cells z24 158)))
    have HC := Lib.hid hcells
    clear hcells hN hT
    go_enter Try.func103, Try.ntmps103
    go_wp2_with fail
    refine (numDigits_any T u h1 h2 _ HT.out).mono ?_
    rintro e w1 ⟨rfl, rfl⟩
    rw [HN.out]
    go_wp2_with fail
    refine (fmt_4 u w.heap.size h2 _ (Has.made _ _ _)).mono ?_
    rintro e w1 ⟨rfl, hg, hh⟩
    have hcv := HC.out _ hh
    have HG := Lib.hid hg
    clear hg hh
    go_wp2_with fail
    go_ret
    refine ⟨rfl, ?_⟩
    exact below_of_only (box_below' w _) HG.out (Nat.le_refl _) (by simp)

/-- The decimal numeral that the library tells by that table. -/
def decT (T : Nat → Nat) (u : Nat) : List UInt8 := if u < 100 then Lib.decDigits u else txt (ndT T u) u

theorem decT_length (T : Nat → Nat) (u : Nat) : 1 ≤ (decT T u).length ∧ (decT T u).length ≤ 4 := by
  unfold decT
  split
  · rename_i hlt
    have : ∀ u : Fin 100, 1 ≤ (Lib.decDigits u.val).length ∧ (Lib.decDigits u.val).length ≤ 4 := by decide +kernel
    exact this ⟨u, hlt⟩
  · unfold txt
    split
    · simp
    · split <;> simp

theorem itoa_any (T : Nat → Nat) (u : Nat) (h2 : u ≤ 3000) (w : World) (hT : Tab w T) :
    Calls Try.prog 94 #[.int .i64 u] w fun e w' => e = .returned (.string ⟨(decT T u).toArray⟩) ∧ Below w.heap.size w w' := by
  by_cases hlt : u < 100
  · rw [decT, if_pos hlt]
    refine (Try.strconv_Itoa_small u hlt w).mono ?_
    rintro e w' ⟨rfl, rfl⟩
    exact ⟨rfl, Below.refl _ _⟩
  · rw [decT, if_neg hlt]
    have h1 : 100 ≤ u := by omega
    have HT := Lib.hid hT
    clear hT hlt
    go_enter Try.func94, Try.ntmps94
    go_wp2_with (first
      | (go_at_call 99; go_in)
      | (go_at_call 103; refine (formatInt_big T u h1 h2 _ HT.out).mono ?_; rintro e w1 ⟨rfl, hb⟩))
    go_ret
    exact ⟨rfl, hb⟩

end Go.Proofs.Ytfbmhejpndgbmaa
