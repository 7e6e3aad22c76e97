/- The chapter's first example. -/
import Derived.Test.YtphgcgggbbcjgaaDoorO
namespace Go.Proofs.YtphgcgggbbcjgaaDoor
open Go.RowKit Go.Dl
attribute [local irreducible] Tri SCall DFun QSem PSem PCall GCall MCall Round Weak dloadE OW DWl Tells IntKind.wrap Retold ESem
def a0 : Al := ⟨1, 5, 10, 2⟩
def l0 : List Sm := [⟨0, true, 10⟩, ⟨1, true, 12⟩, ⟨2, true, 7⟩, ⟨3, true, 5⟩, ⟨4, true, 6⟩, ⟨5, true, 5⟩, ⟨6, true, 4⟩]
theorem itoa_1 (i : Nat) (h : i < 10) : Lib.itoa (i : Int) = [UInt8.ofNat (48 + i)] := by rw [Lib.itoa_nonneg, Lib.decDigits_one h]
theorem itoa_2 (i : Nat) (h1 : ¬ i < 10) (h2 : i < 100) : Lib.itoa (i : Int) = [UInt8.ofNat (48 + i / 10), UInt8.ofNat (48 + i % 10)] := by rw [Lib.itoa_nonneg, Lib.decDigits_two h1 h2]
theorem n10 : numB 10 = ⟨#[49, 48]⟩ := by show bs (Lib.itoa ((10 : Nat) : Int)) = _; rw [itoa_2 10 (by decide) (by decide)]; decide
theorem n5 : numB 5 = ⟨#[53]⟩ := by show bs (Lib.itoa ((5 : Nat) : Int)) = _; rw [itoa_1 5 (by decide)]; decide
theorem n2 : numB 2 = ⟨#[50]⟩ := by show bs (Lib.itoa ((2 : Nat) : Int)) = _; rw [itoa_1 2 (by decide)]; decide
theorem fit0 : fitA a0 = true := by decide
theorem text0 : textT a0 = s0 := by
  have h : textT a0 = text1 5 10 2 := by rw [text_1 (by rw [fit0]; rfl) (by decide)]; rfl
  rw [h, text1, n10, n5, n2]
  decide +kernel
theorem parse0 : parseT s0 = (a0, 0) := by
  have hk : kindK s0 (wordsB s0).length = 1 := by decide +kernel
  have hn : numsK s0 (wordsB s0).length = [10, 5, 2] := by decide +kernel
  rw [parseT, hk, hn]
  exact pk_ok (A := a0) rfl (by rw [text0]; simp [bne, ba_eq.2 rfl])
theorem play0 : playT a0 l0 = (⟨false, 0, true, 4, false, 0⟩, [(1, 1), (6, 2)]) := by kernel_rfl
end Go.Proofs.YtphgcgggbbcjgaaDoor
