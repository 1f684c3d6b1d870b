/-
  Contracts of the driver's put: nothing, or one piece of output at port 0. Conditions: the record's block and the piece's bytes are known.
-/
import Derived.Test.YtfbmhejpndgbmaaTell
import Derived.Test.YtfbmhejpndgbmaaFmt
namespace Go.Proofs.Ytfbmhejpndgbmaa
open Go.RowKit Go.Lib

/-- What a machine did, so far: what it told at port 0, what it wants, how many bytes it took. -/
abbrev got (s : ByteArray) (need held taken : Int) : Array Value :=
  #[.string s, .string ⟨#[]⟩, .string ⟨#[]⟩, .string ⟨#[]⟩, .int .i64 need, .int .i64 0, .int .i64 held, .int .i64 taken, .int .i64 0, .int .i64 0, .int .i64 0, .bool false]

set_option maxHeartbeats 400000 in
theorem put_none (g : Nat) (s : ByteArray) (need held taken : Int) (w : World) (h : Has w g 39 (got s need held taken)) :
    Calls Try.prog 25 #[.pointer (some ⟨g, 0, none⟩), .slice none 0 0, .int .i64 0] w fun e w' => e = .returned (.tuple #[]) ∧ Has w' g 39 (got s need held taken) ∧ w.grownBy w' (some g) := by
  have hc := fun i => h.cell i
  have hf := fun i => h.free i
  have H := Lib.hid h
  clear h
  go_enter Try.func25, Try.ntmps25
  go_wp2
  go_loop [6, 7] (fun a i => a = .int .i64 0 ∧ i = .int .i64 0) (fun _ _ => 0)
  case atStart => exact ⟨rfl, rfl⟩
  case round =>
    obtain ⟨rfl, rfl⟩ := hrel
    go_wp2
    go_end0
    have h1 := put1 H.out 5 (.int .i64 0)
    exact ⟨rfl, h1.2, h1.1⟩

set_option maxRecDepth 100000 in
set_option maxHeartbeats 400000 in
theorem put_one (g q b c : Nat) (L : List UInt8) (need held taken : Int) (w : World) (h : Has w g 39 (got ⟨#[]⟩ need held taken))
    (hq : Has w q 91 #[.int .i64 0, .slice (some ⟨b, 0, none⟩) L.length c]) (hL1 : 1 ≤ L.length) (hL2 : L.length ≤ 1000)
    (hL : ∀ j (hj : j < L.length), w.cell? ⟨b, j, none⟩ = some (by8 L[j])) :
    Calls Try.prog 25 #[.pointer (some ⟨g, 0, none⟩), .slice (some ⟨q, 0, none⟩) 1 1, .int .i64 0] w fun e w' => e = .returned (.tuple #[]) ∧ Has w' g 39 (got ⟨L.toArray⟩ need held taken) ∧ w.grownBy w' (some g) := by
  have hc := fun i => h.cell i
  have hf := fun i => h.free i
  have hq' := fun i => hq.cell i
  have hcv : ∀ W : World, W.heap = w.heap → (convert 22 9 (.slice (some ⟨b, 0, none⟩) L.length c)).run Try.prog W = .ok (.string ⟨L.toArray⟩) W := fun W hW =>
    run_convert_bytes_back W 22 9 5 ⟨b, 0, none⟩ c L Try.underlying22 Try.underlying5 Try.underlying9 fun j hj => by
      rw [Lib.add_plain, Nat.zero_add]
      exact (World.cell?_of_block (w := w) (a := ⟨b, j, none⟩) (by rw [hW])).trans (hL j hj)
  have hcd := hcv w.drew rfl
  have H := Lib.hid h
  clear h hq hcv hL
  have hlb : ((L.length : Int) == 0) = false := by simp only [beq_eq_false_iff_ne, ne_eq]; omega
  have hbig : ¬ 9223372036854775807 < L.length := by omega
  generalize hn : L.length = n at hq' hcd hlb hL1 hL2 ⊢
  have HN := Lib.hid hn
  clear hn
  go_enter Try.func25, Try.ntmps25
  go_wp2
  go_loopw [6, 7, 8] (fun a i _ wr => (a = .int .i64 0 ∧ i = .int .i64 0 ∧ wr = w) ∨ (i = .int .i64 1 ∧ Has wr g 39 (got ⟨L.toArray⟩ need held taken) ∧ w.grownBy wr (some g))) (fun _ i _ _ => 1 - (RowKit.intOf i).toNat)
  case atStart => exact .inl ⟨rfl, rfl, rfl⟩
  case round =>
    rcases hrel with ⟨rfl, rfl, rfl⟩ | ⟨rfl, h1, h2⟩
    · go_wp2_with fail
      go_region
      go_wp2_with fail
      have h1 := put1 H.out 0 (.string ⟨L.toArray⟩)
      go_roundw
      case rel => exact .inr ⟨rfl, h1.2.drew, only_drew h1.1⟩
      case measure => simp [RowKit.intOf]
    · have hc1 := fun i => h1.cell i
      have hf1 := fun i => h1.free i
      have H1 := Lib.hid h1
      have H2 := Lib.hid h2
      clear h1 h2 hc hf hq' hcd
      go_wp2_with fail
      go_end0
      have h3 := put1 H1.out 5 (.int .i64 0)
      exact ⟨rfl, h3.2, only_trans H2.out h3.1⟩

end Go.Proofs.Ytfbmhejpndgbmaa
