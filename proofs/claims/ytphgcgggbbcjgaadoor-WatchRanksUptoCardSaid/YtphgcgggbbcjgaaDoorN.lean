/- A text's words: which one is it, how great, which are numbers. -/
import Derived.Test.YtphgcgggbbcjgaaDoorM
namespace Go.Proofs.YtphgcgggbbcjgaaDoor
open Go.RowKit Go.Dl
attribute [local irreducible] Tri SCall DFun QSem PSem PCall GCall MCall Round Weak dloadE OW DWl Tells IntKind.wrap Retold ESem

def strD (x : ByteArray) : List DV := [.v (.string x)]
def strs (l : List ByteArray) : DV := .lst 1 (l.map strD)
theorem words_strs (s : ByteArray) : words s = strs (wordsB s) := rfl
def idxS (w : ByteArray) : List ByteArray → Nat → Int
  | [], _ => -1
  | y :: t, i => if (w == y) = true then i else idxS w t (i + 1)
theorem drop_at {α : Type} {l : List α} {d : α} {i : Nat} (h : i < l.length) : l.drop i = l.getD i d :: l.drop (i + 1) := by
  rw [List.getD_eq_getElem?_getD, List.getElem?_eq_getElem h]; exact List.drop_eq_getElem_cons h
theorem ixs_yes {l : List ByteArray} {x : ByteArray} {i : Nat} (h : i < l.length) (e : (x == l.getD i ByteArray.empty) = true) : idxS x (l.drop i) i = i := by
  rw [drop_at (d := ByteArray.empty) h, idxS, if_pos e]
theorem ixs_no {l : List ByteArray} {x : ByteArray} {i : Nat} (h : i < l.length) (e : (x == l.getD i ByteArray.empty) = false) : idxS x (l.drop i) i = idxS x (l.drop (i + 1)) (i + 1) := by
  rw [drop_at (d := ByteArray.empty) h, idxS, if_neg (by rw [e]; decide)]
theorem ixs_end {l : List ByteArray} {x : ByteArray} {i : Nat} (h : l.length ≤ i) : idxS x (l.drop i) i = -1 := by
  rw [List.drop_of_length_le h]; rfl
def ixSt (l : List ByteArray) (x : ByteArray) (i : Nat) : St := ⟨0, tmOf [(0, strs l), (1, .v (.string x)), (7, int1 (l.map strD).length), (8, int1 i)], .of [] 0⟩
set_option maxRecDepth 20000 in
theorem index35_D (l : List ByteArray) (x : ByteArray) : DPure Tryd.prog 35 [strs l, .v (.string x)] (int1 (idxS x l 0)) := by
  refine DFun.bound 0 rfl fun ha => ?_
  have ha : l.length ≤ 9223372036854775807 := by simpa [maxLen] using ha
  refine DFun.body Tryd.func35 rfl (by kernel_rfl) ?_
  repeat' (first | with_reducible rfl | ((conv => whnf); first | refine And.intro ?_ ?_ | (intro h; first | exact Bool.noConfusion h | with_reducible exact h | (have ht : true = true := h; clear ht h) | skip) | ((with_reducible refine DWl.mark ?_); repeat' (first | refine DWl.cons ?_ ?_ | exact DWl.nil | exact DW.same _ rfl | exact DW.ref _ _ _ rfl | exact DW.arr _ _ _ rfl | exact DW.sub _ _ _ _ rfl | exact DW.nilLst _ | refine DW.aggl ?_ | refine DW.tupl ?_ | refine DW.clol ?_ ?_ | refine DW.int ?_ | refine DW.bool ?_ | refine DW.str ?_)) | ((with_reducible refine Tri.mark ?_); first | refine Tri.loop (ixSt l x) (fun i => i ≤ l.length ∧ idxS x l 0 = idxS x (l.drop i) i) (fun i => l.length - i) (0) (by kernel_rfl) (Weak.list [] [] ?_ ?_ ?_) ?_ ?_) | ((with_reducible refine Round.mark ?_); first | refine Round.go ((· + 1)) ?_ ?_ (Weak.list [] [] ?_ ?_ ?_)) | refine dloadE_map (ByteArray.empty) ?_ ?_ | refine dcell_ok rfl ?_ | refine AppC.new ?_))
  all_goals first | (with_reducible refine enters_mark ?_; kernel_rfl) | (with_reducible refine boolT_mark ?_; kernel_rfl) | rfl | trivial | assumption | exact Nat.le_of_ble_eq_true rfl | (show entersB _ _ = true; kernel_rfl) | exact DW.same _ rfl | exact DW.ref _ _ _ rfl | exact DW.arr _ _ _ rfl | refine DW.int ?_ | refine dvb ?_ | refine dvi ?_ | exact OW.cells rfl rfl (DWl.same rfl) | skip
  all_goals repeat' (first | exact OW.cells rfl rfl (DWl.same rfl) | refine OW.cells rfl rfl ?_ | exact DW.nilArr _ rfl | refine DW.clol ?_ ?_ | refine DWl.cons ?_ ?_ | exact DWl.nil | exact DW.same _ rfl | exact DW.ref _ _ _ rfl | exact DW.arr _ _ _ rfl | refine DW.int ?_)
  all_goals try (simp_all; done)
  all_goals try (simp at *; omega)
  · rename_i i hi e0
    exact (hi.2.trans (ixs_yes (lt_of_test e0) h)).symm
  · rename_i i hi e0
    exact hi.2.trans (ixs_no (lt_of_test e0) h)
  · rename_i i hi e0
    exact wsucc (lt_of_test e0) ha
  · rename_i i hi
    exact (hi.2.trans (ixs_end (ge_of_test h))).symm
theorem words_size (sep : ByteArray) (sv : Nat) (k : Nat) : ∀ s : ByteArray, ∀ x ∈ Lib.splitB sep sv k s, x.size ≤ s.size := by
  induction k with
  | zero => intro s x hx; rw [Lib.splitB_zero, List.mem_singleton] at hx; subst hx; exact Nat.le_refl _
  | succ k ih =>
    intro s x hx
    unfold Lib.splitB at hx
    split at hx
    · rw [List.mem_singleton] at hx; subst hx; exact Nat.le_refl _
    · rcases List.mem_cons.1 hx with rfl | hx
      · rw [ByteArray.size_extract]; omega
      · have := ih _ _ hx
        rw [ByteArray.size_extract] at this; omega
def s0 : ByteArray := ⟨#[97, 98, 111, 118, 101, 32, 49, 48, 32, 99, 108, 101, 97, 114, 32, 53, 32, 104, 111, 108, 100, 32, 50]⟩
theorem s0_words : wordsB s0 = [⟨#[97, 98, 111, 118, 101]⟩, ⟨#[49, 48]⟩, ⟨#[99, 108, 101, 97, 114]⟩, ⟨#[53]⟩, ⟨#[104, 111, 108, 100]⟩, ⟨#[50]⟩] := by decide +kernel
end Go.Proofs.YtphgcgggbbcjgaaDoor
