/- The chapter's examples. -/
import Derived.Test.YtphgcgggbbcjgaaR
import Derived.Test.YtphgcgggbbcjgaaG
namespace Go.Proofs.Ytphgcgggbbcjgaa
open Go.RowKit Go.Dl
attribute [local irreducible] Tri SCall DFun QSem PCall GCall MCall Round Weak dloadE OW DWl Tells IntKind.wrap Retold ESem
theorem ring_in : inN 4 ring4 := by
  intro i hi
  have hi : i < 4 := hi
  match i, hi with
  | 0, _ => decide
  | 1, _ => decide
  | 2, _ => decide
  | 3, _ => decide
set_option maxRecDepth 100000 in
theorem ring_width : widthT 4 ring4 = 2 := by decide
theorem width_ring : DPure Try.prog 20 [int1 4, links ring4] (int1 2) := by
  have h := width20_D 4 ring4 (by decide) ring_in
  rw [ring_width] at h
  exact h
set_option maxRecDepth 100000 in
theorem awake13_D : DPure Try.prog 13 [] (.v (.bool true)) := by
  refine DFun.body Try.func13 rfl (by kernel_rfl) ?_
  repeat' (first | with_reducible rfl | ((conv => whnf); first | refine And.intro ?_ ?_ | (intro h; first | exact Bool.noConfusion h | with_reducible exact h | (exfalso; simp at h; done) | (have ht : true = true := h; clear ht h) | skip) | ((with_reducible refine DWl.mark ?_); repeat' (first | refine DWl.cons ?_ ?_ | exact DWl.nil | exact DW.same _ rfl | exact DW.ref _ _ _ rfl | exact DW.arr _ _ _ rfl | exact DW.sub _ _ _ _ rfl | exact DW.nilLst _ | refine DW.aggl ?_ | refine DW.tupl ?_ | refine DW.clol ?_ ?_ | refine DW.int ?_ | refine DW.bool ?_ | refine DW.str ?_)) | ((with_reducible refine SCall.mark ?_); first | refine SCall.data (ring4_D) rfl rfl ?_ | refine SCall.data (star8_D) rfl rfl ?_ | refine SCall.data (same_D ring4 ring4) rfl rfl ?_ | refine SCall.scal (same_D ring4 ring4) rfl rfl ?_ | refine SCall.data (rand1_D) rfl rfl ?_ | refine SCall.scal (rand1_D) rfl rfl ?_ | refine SCall.data (width_ring) rfl rfl ?_ | refine SCall.scal (width_ring) rfl rfl ?_) | ((with_reducible refine PCall.mark ?_); first | refine PCall.mk (same_D ring4 ring4) rfl rfl ?_ | refine PCall.mk (rand1_D) rfl rfl ?_ | refine PCall.mk (width_ring) rfl rfl ?_) | ((with_reducible refine GCall.mark ?_); first | refine GCall.data (fun _ => ring4_D) rfl rfl ?_ | refine GCall.data (fun _ => star8_D) rfl rfl ?_ | refine GCall.data (fun _ => same_D ring4 ring4) rfl rfl ?_ | refine GCall.scal (fun _ => same_D ring4 ring4) rfl rfl ?_ | refine GCall.data (fun _ => rand1_D) rfl rfl ?_ | refine GCall.scal (fun _ => rand1_D) rfl rfl ?_ | refine GCall.data (fun _ => width_ring) rfl rfl ?_ | refine GCall.scal (fun _ => width_ring) rfl rfl ?_) | ((with_reducible refine MCall.mark ?_); first | refine MCall.data (fun _ => ring4_D) rfl rfl ?_ | refine MCall.data (fun _ => star8_D) rfl rfl ?_ | refine MCall.data (fun _ => same_D ring4 ring4) rfl rfl ?_ | refine MCall.plain (PCall.mk (same_D ring4 ring4) rfl rfl ?_) | refine MCall.data (fun _ => rand1_D) rfl rfl ?_ | refine MCall.plain (PCall.mk (rand1_D) rfl rfl ?_) | refine MCall.data (fun _ => width_ring) rfl rfl ?_ | refine MCall.plain (PCall.mk (width_ring) rfl rfl ?_)) | refine dcell_ok rfl ?_ | refine AppC.new ?_))
  all_goals first | (with_reducible refine enters_mark ?_; kernel_rfl) | (with_reducible refine boolT_mark ?_; kernel_rfl) | rfl | trivial | assumption | exact Nat.le_of_ble_eq_true rfl | (show entersB _ _ = true; kernel_rfl) | exact DW.same _ rfl | exact DW.ref _ _ _ rfl | exact DW.arr _ _ _ rfl | refine DW.int ?_ | refine dvb ?_ | refine dvi ?_ | exact OW.cells rfl rfl (DWl.same rfl) | exact Nat.zero_le _ | omega | skip
  all_goals repeat' (first | refine OW.cells rfl rfl ?_ | exact DW.nilArr _ rfl | refine DWl.cons ?_ ?_ | exact DWl.nil | exact DW.same _ rfl | exact DW.ref _ _ _ rfl | exact DW.arr _ _ _ rfl | exact DW.sub _ _ _ _ rfl | exact DW.nilLst _ | refine DW.aggl ?_ | refine DW.tupl ?_ | refine DW.clol ?_ ?_)
  all_goals try ((conv => whnf); with_reducible first | refine Round.mark ?_ | refine Tells.mark ?_ | refine Retold.mark ?_)
  all_goals try first | (show (_ : Bool) = _; simp_all; done) | (show (_ : Int) < _; simp at *; omega) | (show (_ : Int) ≤ _; simp at *; omega) | (show (_ : Nat) < _; simp at *; omega) | (show (_ : Nat) ≤ _; simp at *; omega)
end Go.Proofs.Ytphgcgggbbcjgaa
