/- What WatchTexts computes. -/
import Derived.Test.YtphgcgggbbcjgaaDoorW3
namespace Go.Proofs.YtphgcgggbbcjgaaDoor
open Go.RowKit Go.Dl
attribute [local irreducible] Tri SCall DFun QSem PSem PCall GCall MCall Round Weak dloadE OW DWl Tells IntKind.wrap Retold ESem

theorem al_self (a : Al) : cellsEq [int1 a.kind, int1 a.low, int1 a.high, int1 a.hold] [int1 a.kind, int1 a.low, int1 a.high, int1 a.hold] = true := by
  simp [cellsEq, cellEq, int1]
theorem text_size (a : Al) : (textT a).size < 4294967281 := by
  by_cases h : fitA a = true
  · obtain ⟨h1, h2, h3⟩ := fit_small (a := a) (by rw [h]; rfl)
    unfold textT
    rw [if_pos h]
    have e1 : wAbove.size = 6 := rfl
    have e2 : wBelow.size = 6 := rfl
    have e3 : wOutside.size = 8 := rfl
    have e4 : wChange.size = 7 := rfl
    have e5 : wClear.size = 7 := rfl
    have e6 : wHold.size = 6 := rfl
    have e7 : spaceB.size = 1 := rfl
    split
    · unfold text1; simp only [ByteArray.size_append]; omega
    · split
      · unfold text2; simp only [ByteArray.size_append]; omega
      · split
        · unfold text3; simp only [ByteArray.size_append]; omega
        · unfold text4; simp only [ByteArray.size_append]; omega
  · unfold textT
    rw [if_neg h]
    decide
theorem ba_self (s : ByteArray) : (s != s) = false := by
  have : (s == s) = true := ba_eq.2 rfl
  simp [bne, this]
attribute [local irreducible] parseT docT textT fitA
set_option maxRecDepth 20000 in
theorem texts5_D (a : Al) (s : ByteArray) (hs : s.size < 4294967281) : DPure Tryd.prog 5 [.agg (alD a), .v (.string s)] (bl true) := by
  have h15 := fit15_D a
  have hp := parse19_D s hs
  have hd := parse20_D s hs
  rw [← parse_same s] at hd
  have hx := al_self (parseT s).1
  have hy := ba_self (textT a)
  by_cases hf : fitA a = true
  · rw [hf] at h15
    have hb := parse19_D (textT a) (text_size a)
    rw [P1 hf] at hb
    refine DFun.data (DFun.body Tryd.func5 rfl (by kernel_rfl) ?_)
    repeat' (first | with_reducible rfl | ((conv => whnf); first | refine And.intro ?_ ?_ | (intro h; first | exact Bool.noConfusion h | with_reducible exact h | (refine not_t h ?_; rfl) | (refine not_f h ?_; rfl) | (exfalso; simp [hx, hy] at h; done) | (have ht : true = true := h; clear ht h) | skip) | ((with_reducible refine DWl.mark ?_); repeat' (first | refine DWl.cons ?_ ?_ | exact DWl.nil | exact DW.same _ rfl | exact DW.ref _ _ _ rfl | exact DW.arr _ _ _ rfl | exact DW.sub _ _ _ _ rfl | exact DW.nilLst _ | refine DW.aggl ?_ | refine DW.tupl ?_ | refine DW.clol ?_ ?_ | refine DW.int ?_ | refine DW.bool ?_ | refine DW.str ?_)) | ((with_reducible refine SCall.mark ?_); first | refine SCall.data (h15) rfl rfl ?_ | refine SCall.scal (h15) rfl rfl ?_ | refine SCall.data (hp) rfl rfl ?_ | refine SCall.scal (hp) rfl rfl ?_ | refine SCall.data (hd) rfl rfl ?_ | refine SCall.scal (hd) rfl rfl ?_ | refine SCall.data (hb) rfl rfl ?_ | refine SCall.scal (hb) rfl rfl ?_ | refine SCall.data (text21_D a) rfl rfl ?_ | refine SCall.scal (text21_D a) rfl rfl ?_ | refine SCall.data (text22_D a) rfl rfl ?_ | refine SCall.scal (text22_D a) rfl rfl ?_ | refine SCall.data (awake12_D) rfl rfl ?_ | refine SCall.scal (awake12_D) rfl rfl ?_) | ((with_reducible refine PCall.mark ?_); first | refine PCall.mk (h15) rfl rfl ?_ | refine PCall.mk (hp) rfl rfl ?_ | refine PCall.mk (hd) rfl rfl ?_ | refine PCall.mk (hb) rfl rfl ?_ | refine PCall.mk (text21_D a) rfl rfl ?_ | refine PCall.mk (text22_D a) rfl rfl ?_ | refine PCall.mk (awake12_D) rfl rfl ?_) | ((with_reducible refine GCall.mark ?_); first | refine GCall.data (fun _ => h15) rfl rfl ?_ | refine GCall.scal (fun _ => h15) rfl rfl ?_ | refine GCall.data (fun _ => hp) rfl rfl ?_ | refine GCall.scal (fun _ => hp) rfl rfl ?_ | refine GCall.data (fun _ => hd) rfl rfl ?_ | refine GCall.scal (fun _ => hd) rfl rfl ?_ | refine GCall.data (fun _ => hb) rfl rfl ?_ | refine GCall.scal (fun _ => hb) rfl rfl ?_ | refine GCall.data (fun _ => text21_D a) rfl rfl ?_ | refine GCall.scal (fun _ => text21_D a) rfl rfl ?_ | refine GCall.data (fun _ => text22_D a) rfl rfl ?_ | refine GCall.scal (fun _ => text22_D a) rfl rfl ?_ | refine GCall.data (fun _ => awake12_D) rfl rfl ?_ | refine GCall.scal (fun _ => awake12_D) rfl rfl ?_) | ((with_reducible refine MCall.mark ?_); first | refine MCall.data (fun _ => h15) rfl rfl ?_ | refine MCall.plain (PCall.mk (h15) rfl rfl ?_) | refine MCall.data (fun _ => hp) rfl rfl ?_ | refine MCall.plain (PCall.mk (hp) rfl rfl ?_) | refine MCall.data (fun _ => hd) rfl rfl ?_ | refine MCall.plain (PCall.mk (hd) rfl rfl ?_) | refine MCall.data (fun _ => hb) rfl rfl ?_ | refine MCall.plain (PCall.mk (hb) rfl rfl ?_) | refine MCall.data (fun _ => text21_D a) rfl rfl ?_ | refine MCall.plain (PCall.mk (text21_D a) rfl rfl ?_) | refine MCall.data (fun _ => text22_D a) rfl rfl ?_ | refine MCall.plain (PCall.mk (text22_D a) rfl rfl ?_) | refine MCall.data (fun _ => awake12_D) rfl rfl ?_ | refine MCall.plain (PCall.mk (awake12_D) rfl rfl ?_)) | ((with_reducible refine ex_mark ?_); first | refine dq_eql k23 ?_ rfl ?_ rfl rfl ?_ | refine dq_neq k23 ?_ rfl ?_ rfl rfl ?_) | refine dcell_ok rfl ?_ | refine AppC.new ?_))
    all_goals first | (with_reducible refine enters_mark ?_; kernel_rfl) | (with_reducible refine boolT_mark ?_; kernel_rfl) | rfl | trivial | assumption | exact Nat.le_of_ble_eq_true rfl | (show entersB _ _ = true; kernel_rfl) | exact DW.same _ rfl | exact DW.ref _ _ _ rfl | exact DW.arr _ _ _ rfl | refine DW.int ?_ | refine dvb ?_ | refine dvi ?_ | exact OW.cells rfl rfl (DWl.same rfl) | exact Nat.zero_le _ | omega | skip
    all_goals repeat' (first | refine OW.cells rfl rfl ?_ | exact DW.nilArr _ rfl | refine DWl.cons ?_ ?_ | exact DWl.nil | exact DW.same _ rfl | exact DW.ref _ _ _ rfl | exact DW.arr _ _ _ rfl | exact DW.sub _ _ _ _ rfl | exact DW.nilLst _ | refine DW.aggl ?_ | refine DW.tupl ?_ | refine DW.clol ?_ ?_)
    all_goals try ((conv => whnf); with_reducible first | refine Round.mark ?_ | refine Tells.mark ?_ | refine Retold.mark ?_)
    all_goals try first | (show (_ : Bool) = _; simp_all; done) | (show (_ : Int) < _; simp at *; omega) | (show (_ : Int) ≤ _; simp at *; omega) | (show (_ : Nat) < _; simp at *; omega) | (show (_ : Nat) ≤ _; simp at *; omega)
    conv => whnf
    exact Tells.mk (DW.bool (by rw [al_self a]; simp))
  · have hf : fitA a = false := by simpa using hf
    rw [hf] at h15
    refine DFun.data (DFun.body Tryd.func5 rfl (by kernel_rfl) ?_)
    repeat' (first | with_reducible rfl | ((conv => whnf); first | refine And.intro ?_ ?_ | (intro h; first | exact Bool.noConfusion h | with_reducible exact h | (refine not_t h ?_; rfl) | (refine not_f h ?_; rfl) | (exfalso; simp [hx, hy] at h; done) | (have ht : true = true := h; clear ht h) | skip) | ((with_reducible refine DWl.mark ?_); repeat' (first | refine DWl.cons ?_ ?_ | exact DWl.nil | exact DW.same _ rfl | exact DW.ref _ _ _ rfl | exact DW.arr _ _ _ rfl | exact DW.sub _ _ _ _ rfl | exact DW.nilLst _ | refine DW.aggl ?_ | refine DW.tupl ?_ | refine DW.clol ?_ ?_ | refine DW.int ?_ | refine DW.bool ?_ | refine DW.str ?_)) | ((with_reducible refine SCall.mark ?_); first | refine SCall.data (h15) rfl rfl ?_ | refine SCall.scal (h15) rfl rfl ?_ | refine SCall.data (hp) rfl rfl ?_ | refine SCall.scal (hp) rfl rfl ?_ | refine SCall.data (hd) rfl rfl ?_ | refine SCall.scal (hd) rfl rfl ?_ | refine SCall.data (text21_D a) rfl rfl ?_ | refine SCall.scal (text21_D a) rfl rfl ?_ | refine SCall.data (text22_D a) rfl rfl ?_ | refine SCall.scal (text22_D a) rfl rfl ?_ | refine SCall.data (awake12_D) rfl rfl ?_ | refine SCall.scal (awake12_D) rfl rfl ?_) | ((with_reducible refine PCall.mark ?_); first | refine PCall.mk (h15) rfl rfl ?_ | refine PCall.mk (hp) rfl rfl ?_ | refine PCall.mk (hd) rfl rfl ?_ | refine PCall.mk (text21_D a) rfl rfl ?_ | refine PCall.mk (text22_D a) rfl rfl ?_ | refine PCall.mk (awake12_D) rfl rfl ?_) | ((with_reducible refine GCall.mark ?_); first | refine GCall.data (fun _ => h15) rfl rfl ?_ | refine GCall.scal (fun _ => h15) rfl rfl ?_ | refine GCall.data (fun _ => hp) rfl rfl ?_ | refine GCall.scal (fun _ => hp) rfl rfl ?_ | refine GCall.data (fun _ => hd) rfl rfl ?_ | refine GCall.scal (fun _ => hd) rfl rfl ?_ | refine GCall.data (fun _ => text21_D a) rfl rfl ?_ | refine GCall.scal (fun _ => text21_D a) rfl rfl ?_ | refine GCall.data (fun _ => text22_D a) rfl rfl ?_ | refine GCall.scal (fun _ => text22_D a) rfl rfl ?_ | refine GCall.data (fun _ => awake12_D) rfl rfl ?_ | refine GCall.scal (fun _ => awake12_D) rfl rfl ?_) | ((with_reducible refine MCall.mark ?_); first | refine MCall.data (fun _ => h15) rfl rfl ?_ | refine MCall.plain (PCall.mk (h15) rfl rfl ?_) | refine MCall.data (fun _ => hp) rfl rfl ?_ | refine MCall.plain (PCall.mk (hp) rfl rfl ?_) | refine MCall.data (fun _ => hd) rfl rfl ?_ | refine MCall.plain (PCall.mk (hd) rfl rfl ?_) | refine MCall.data (fun _ => text21_D a) rfl rfl ?_ | refine MCall.plain (PCall.mk (text21_D a) rfl rfl ?_) | refine MCall.data (fun _ => text22_D a) rfl rfl ?_ | refine MCall.plain (PCall.mk (text22_D a) rfl rfl ?_) | refine MCall.data (fun _ => awake12_D) rfl rfl ?_ | refine MCall.plain (PCall.mk (awake12_D) rfl rfl ?_)) | ((with_reducible refine ex_mark ?_); first | refine dq_eql k23 ?_ rfl ?_ rfl rfl ?_ | refine dq_neq k23 ?_ rfl ?_ rfl rfl ?_) | refine dcell_ok rfl ?_ | refine AppC.new ?_))
    all_goals first | (with_reducible refine enters_mark ?_; kernel_rfl) | (with_reducible refine boolT_mark ?_; kernel_rfl) | rfl | trivial | assumption | exact Nat.le_of_ble_eq_true rfl | (show entersB _ _ = true; kernel_rfl) | exact DW.same _ rfl | exact DW.ref _ _ _ rfl | exact DW.arr _ _ _ rfl | refine DW.int ?_ | refine dvb ?_ | refine dvi ?_ | exact OW.cells rfl rfl (DWl.same rfl) | exact Nat.zero_le _ | omega | skip
    all_goals repeat' (first | refine OW.cells rfl rfl ?_ | exact DW.nilArr _ rfl | refine DWl.cons ?_ ?_ | exact DWl.nil | exact DW.same _ rfl | exact DW.ref _ _ _ rfl | exact DW.arr _ _ _ rfl | exact DW.sub _ _ _ _ rfl | exact DW.nilLst _ | refine DW.aggl ?_ | refine DW.tupl ?_ | refine DW.clol ?_ ?_)
    all_goals try ((conv => whnf); with_reducible first | refine Round.mark ?_ | refine Tells.mark ?_ | refine Retold.mark ?_)
    all_goals try first | (show (_ : Bool) = _; simp_all; done) | (show (_ : Int) < _; simp at *; omega) | (show (_ : Int) ≤ _; simp at *; omega) | (show (_ : Nat) < _; simp at *; omega) | (show (_ : Nat) ≤ _; simp at *; omega)
    conv => whnf
    exact Tells.mk (DW.bool rfl)
end Go.Proofs.YtphgcgggbbcjgaaDoor
