/- Half-edges that are the same. -/
import Derived.Test.YtopdllcpeaflaaaC
namespace Go.Proofs.Ytopdllcpeaflaaa
open Go.RowKit Go.Dl
attribute [local irreducible] Tri SCall DFun QSem PCall GCall MCall Round Weak dloadE OW DWl

theorem k41 : eqTK Try.prog 41 = some [.str, .int, .int, .int] := by kernel_rfl
theorem cells_line (a b : LineL) : cellsEq (lineD a) (lineD b) = decide (a = b) := by
  cases a; cases b
  have hi : ∀ a b : Int, (a == b) = decide (a = b) := fun a b => by by_cases h : a = b <;> simp [h]
  simp [lineD, cellsEq, cellEq, ba_beq, hi]

def soSt (x y : HalfL) (k : Nat) : St := ⟨0, tmOf [(2, .ref 0 0), (3, .ref 1 0), (5, .v (.int .i64 k))], .of [(0, ⟨24, 6, halfC x⟩), (1, ⟨24, 6, halfC y⟩)] 2⟩
theorem sameOne_D (x y : HalfL) : DPure Try.prog 66 [halfD x, halfD y] (.v (.bool (decide (x = y)))) := by
  refine DFun.boundA 0 3 (cs := halfC x) rfl rfl fun hb => ?_
  have hb : x.lines.length ≤ 9223372036854775807 := by simpa [maxLen] using hb
  refine DFun.body Try.func66 rfl (by kernel_rfl) ?_
  repeat' (first | with_reducible rfl | ((conv => whnf); first | refine And.intro ?_ ?_ | (intro h; first | exact Bool.noConfusion h | with_reducible exact h | skip) | ((with_reducible refine DWl.mark ?_); repeat' (first | refine DWl.cons ?_ ?_ | exact DWl.nil | exact DW.same _ rfl | exact DW.ref _ _ _ rfl | exact DW.arr _ _ _ rfl | exact DW.sub _ _ _ _ rfl | exact DW.nilLst _ | refine DW.aggl ?_ | refine DW.tupl ?_ | refine DW.clol ?_ ?_ | refine DW.int ?_ | refine DW.bool ?_ | refine DW.str ?_)) | ((with_reducible refine Tri.mark ?_); first | refine Tri.loop (soSt x y) (fun k => k ≤ x.lines.length ∧ x.lines.take k = y.lines.take k) (fun k => x.lines.length - k) (0) (by kernel_rfl) (Weak.list [(0, some 0), (1, some 1)] [] ?_ ?_ ?_) ?_ ?_) | ((with_reducible refine Round.mark ?_); first | refine Round.go ((· + 1)) ?_ ?_ (Weak.list [(0, some 0), (1, some 1)] [] ?_ ?_ ?_)) | ((with_reducible refine ex_mark ?_); first | refine dq_eql k41 ?_ rfl ?_ rfl rfl ?_ | refine dq_neq k41 ?_ rfl ?_ rfl rfl ?_) | refine dloadE_map (line0) ?_ ?_ | refine dcell_ok rfl ?_ | refine AppC.new ?_))
  all_goals first | (with_reducible refine enters_mark ?_; kernel_rfl) | (with_reducible refine boolT_mark ?_; kernel_rfl) | rfl | trivial | assumption | exact Nat.le_of_ble_eq_true rfl | (show entersB _ _ = true; kernel_rfl) | exact DW.same _ rfl | exact DW.ref _ _ _ rfl | exact DW.arr _ _ _ rfl | refine DW.int ?_ | refine dvb ?_ | refine dvi ?_ | exact OW.cells rfl rfl (DWl.same rfl) | skip
  all_goals try (simp_all; done)
  all_goals try (simp at *; omega)
  · cases x; cases y; simp at *; grind
  · rename_i e0 e1 e2 k hk e3
    simp at e3
    have h2 : (!cellsEq (lineD (x.lines.getD k line0)) (lineD (y.lines.getD k line0))) = true := h
    rw [cells_line] at h2
    simp at h2
    symm
    simp only [decide_eq_false_iff_not]
    intro e; subst e; exact h2 rfl
  · rename_i e0 e1 e2 k hk e3
    simp at e3
    have h2 : (!cellsEq (lineD (x.lines.getD k line0)) (lineD (y.lines.getD k line0))) = false := h
    rw [cells_line] at h2
    simp only [Bool.not_eq_false', decide_eq_true_eq] at h2
    refine take_succ_eq (d := line0) ?_ hk.2 e3 h2
    simp at e2; omega
  · rename_i e0 e1 e2 k hk e3
    simp at e3
    have := wrap64 (k := k + 1) (by omega)
    simpa using this
  · rename_i e0 e1 e2 k hk
    simp at h
    have hl : x.lines.length = y.lines.length := by simp at e2; omega
    have hk' : k = x.lines.length := by omega
    have h3 := hk.2
    rw [hk', List.take_length, hl, List.take_length] at h3
    cases x; cases y; simp at *; grind

def sameSt (x y : List HalfL) (k : Nat) : St := ⟨0, tmOf [(0, .lst 6 (x.map halfC)), (1, .lst 6 (y.map halfC)), (5, .v (.int .i64 k))], .of [] 0⟩
theorem sameL_D (x y : List HalfL) : DPure Try.prog 51 [.lst 6 (x.map halfC), .lst 6 (y.map halfC)] (.v (.bool (decide (x = y)))) := by
  refine DFun.bound 0 rfl fun hb => ?_
  have hb : x.length ≤ 9223372036854775807 := by simpa [maxLen] using hb
  refine DFun.body Try.func51 rfl (by kernel_rfl) ?_
  repeat' (first | with_reducible rfl | ((conv => whnf); first | refine And.intro ?_ ?_ | (intro h; first | exact Bool.noConfusion h | with_reducible exact h | skip) | ((with_reducible refine DWl.mark ?_); repeat' (first | refine DWl.cons ?_ ?_ | exact DWl.nil | exact DW.same _ rfl | exact DW.ref _ _ _ rfl | exact DW.arr _ _ _ rfl | exact DW.sub _ _ _ _ rfl | exact DW.nilLst _ | refine DW.aggl ?_ | refine DW.tupl ?_ | refine DW.clol ?_ ?_ | refine DW.int ?_ | refine DW.bool ?_ | refine DW.str ?_)) | ((with_reducible refine PCall.mark ?_); first | refine PCall.mk (sameOne_D (x.getD _ half0) (y.getD _ half0)) rfl rfl ?_) | ((with_reducible refine GCall.mark ?_); first | refine GCall.scal (fun _ => sameOne_D (x.getD _ half0) (y.getD _ half0)) rfl rfl ?_) | ((with_reducible refine MCall.mark ?_); first | refine MCall.plain (PCall.mk (sameOne_D (x.getD _ half0) (y.getD _ half0)) rfl rfl ?_)) | ((with_reducible refine Tri.mark ?_); first | refine Tri.loop (sameSt x y) (fun k => k ≤ x.length ∧ x.take k = y.take k) (fun k => x.length - k) (0) (by kernel_rfl) (Weak.list [] [] ?_ ?_ ?_) ?_ ?_) | ((with_reducible refine Round.mark ?_); first | refine Round.go ((· + 1)) ?_ ?_ (Weak.list [] [] ?_ ?_ ?_)) | refine dloadE_map (half0) ?_ ?_ | refine dcell_ok rfl ?_ | refine AppC.new ?_))
  all_goals first | (with_reducible refine enters_mark ?_; kernel_rfl) | (with_reducible refine boolT_mark ?_; kernel_rfl) | rfl | trivial | assumption | exact Nat.le_of_ble_eq_true rfl | (show entersB _ _ = true; kernel_rfl) | exact DW.same _ rfl | exact DW.ref _ _ _ rfl | exact DW.arr _ _ _ rfl | refine DW.int ?_ | refine dvb ?_ | refine dvi ?_ | exact OW.cells rfl rfl (DWl.same rfl) | skip
  all_goals try (simp_all; done)
  all_goals try (simp at *; omega)
  · simp at h
    symm; simp only [decide_eq_false_iff_not]
    intro e; subst e; exact h rfl
  · rename_i e0 k hk e1
    simp at e1 h
    symm; simp only [decide_eq_false_iff_not]
    intro e; subst e; exact h rfl
  · rename_i e0 k hk e1
    simp at e0 e1
    have h2 : x.getD k half0 = y.getD k half0 := by
      have h : (!decide (x.getD k half0 = y.getD k half0)) = false := h
      simpa only [Bool.not_eq_false', decide_eq_true_eq] using h
    exact take_succ_eq (d := half0) (by omega) hk.2 e1 h2
  · rename_i e0 k hk e1
    simp at e1
    have := wrap64 (k := k + 1) (by omega)
    simpa using this
  · rename_i e0 k hk
    simp at e0 h
    have hk' : k = x.length := by omega
    have hl : x.length = y.length := by omega
    have h3 := hk.2
    rw [hk', List.take_length, hl, List.take_length] at h3
    simp [h3]

theorem same_D (x y : HalfL) : DPure Try.prog 15 [halfD x, halfD y] (.v (.bool (decide (x = y)))) := by
  refine DFun.body Try.func15 rfl (by kernel_rfl) ?_
  repeat' (first | with_reducible rfl | ((conv => whnf); first | refine And.intro ?_ ?_ | (intro h; first | exact Bool.noConfusion h | with_reducible exact h | skip) | ((with_reducible refine DWl.mark ?_); repeat' (first | refine DWl.cons ?_ ?_ | exact DWl.nil | exact DW.same _ rfl | exact DW.ref _ _ _ rfl | exact DW.arr _ _ _ rfl | exact DW.sub _ _ _ _ rfl | exact DW.nilLst _ | refine DW.aggl ?_ | refine DW.tupl ?_ | refine DW.clol ?_ ?_ | refine DW.int ?_ | refine DW.bool ?_ | refine DW.str ?_)) | ((with_reducible refine SCall.mark ?_); first | refine SCall.scal (sameL_D [x] [y]) rfl rfl ?_) | ((with_reducible refine GCall.mark ?_); first | refine GCall.scal (fun _ => sameL_D [x] [y]) rfl rfl ?_) | refine dcell_ok rfl ?_ | refine AppC.new ?_))
  all_goals first | (with_reducible refine enters_mark ?_; kernel_rfl) | (with_reducible refine boolT_mark ?_; kernel_rfl) | rfl | trivial | assumption | exact Nat.le_of_ble_eq_true rfl | (show entersB _ _ = true; kernel_rfl) | exact DW.same _ rfl | exact DW.ref _ _ _ rfl | exact DW.arr _ _ _ rfl | refine DW.int ?_ | refine dvb ?_ | refine dvi ?_ | exact OW.cells rfl rfl (DWl.same rfl) | skip
  all_goals try (simp_all; done)
  all_goals try (simp at *; omega)

theorem fit15_D (id : Int) (hf : HalfL) : DPure Try.prog 11 [.v (.int .i64 id), halfD hf] (.v (.bool (fitB id hf))) := by
  refine DFun.body Try.func11 rfl (by kernel_rfl) ?_
  repeat' (first | with_reducible rfl | ((conv => whnf); first | refine And.intro ?_ ?_ | (intro h; first | exact Bool.noConfusion h | with_reducible exact h | skip) | ((with_reducible refine DWl.mark ?_); repeat' (first | refine DWl.cons ?_ ?_ | exact DWl.nil | exact DW.same _ rfl | exact DW.ref _ _ _ rfl | exact DW.arr _ _ _ rfl | exact DW.sub _ _ _ _ rfl | exact DW.nilLst _ | refine DW.aggl ?_ | refine DW.tupl ?_ | refine DW.clol ?_ ?_ | refine DW.int ?_ | refine DW.bool ?_ | refine DW.str ?_)) | ((with_reducible refine SCall.mark ?_); first | refine SCall.data (fit_D id hf) rfl rfl ?_) | ((with_reducible refine GCall.mark ?_); first | refine GCall.data (fun _ => fit_D id hf) rfl rfl ?_) | ((with_reducible refine MCall.mark ?_); first | refine MCall.data (fun _ => fit_D id hf) rfl rfl ?_) | refine dcell_ok rfl ?_ | refine AppC.new ?_))
  all_goals first | (with_reducible refine enters_mark ?_; kernel_rfl) | (with_reducible refine boolT_mark ?_; kernel_rfl) | rfl | trivial | assumption | exact Nat.le_of_ble_eq_true rfl | (show entersB _ _ = true; kernel_rfl) | exact DW.same _ rfl | exact DW.ref _ _ _ rfl | exact DW.arr _ _ _ rfl | refine DW.int ?_ | refine dvb ?_ | refine dvi ?_ | exact OW.cells rfl rfl (DWl.same rfl) | skip
  all_goals try (simp_all; done)
  all_goals try (simp at *; omega)
end Go.Proofs.Ytopdllcpeaflaaa
