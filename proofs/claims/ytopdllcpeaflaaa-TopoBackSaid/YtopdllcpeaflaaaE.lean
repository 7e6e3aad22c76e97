/- Copies of half-edges. -/
import Derived.Test.YtopdllcpeaflaaaD
import Derived.Test.YtopdllcpeaflaaaDl14
namespace Go.Proofs.Ytopdllcpeaflaaa
open Go.RowKit Go.Dl
attribute [local irreducible] Tri SCall DFun QSem PCall GCall MCall Round Weak dloadE OW DWl

theorem linesRow (ls : List LineL) : ∀ r ∈ ls.map lineD, r.length = 4 ∧ r.all isData1 = true := by
  intro r hr
  obtain ⟨l, _, rfl⟩ := List.mem_map.1 hr
  exact ⟨rfl, rfl⟩

theorem clone_D (ls : List LineL) (hl : ls.length ≤ 1000000) : DPure Try.prog 65 [.lst 4 (ls.map lineD)] (.lst 4 (ls.map lineD)) := by
  refine DFun.data (DFun.nilSplit 0 rfl (fun he => ?_) (fun he a c => ?_) (fun he => ?_))
  · refine DFun.body Try.func65 rfl (by kernel_rfl) ?_
    repeat' (first | with_reducible rfl | ((conv => whnf); first | refine And.intro ?_ ?_ | (intro h; first | exact Bool.noConfusion h | with_reducible exact h | skip) | ((with_reducible refine DWl.mark ?_); repeat' (first | refine DWl.cons ?_ ?_ | exact DWl.nil | exact DW.same _ rfl | exact DW.ref _ _ _ rfl | exact DW.arr _ _ _ rfl | exact DW.sub _ _ _ _ rfl | exact DW.nilLst _ | refine DW.aggl ?_ | refine DW.tupl ?_ | refine DW.clol ?_ ?_ | refine DW.int ?_ | refine DW.bool ?_ | refine DW.str ?_)) | refine dq_nilV rfl ?_ rfl ?_ rfl ?_ | (rw [he]; exact DW.nilLst _) | refine dcell_ok rfl ?_ | refine AppC.new ?_))
    all_goals first | (with_reducible refine enters_mark ?_; kernel_rfl) | (with_reducible refine boolT_mark ?_; kernel_rfl) | rfl | trivial | assumption | exact Nat.le_of_ble_eq_true rfl | (show entersB _ _ = true; kernel_rfl) | exact DW.same _ rfl | exact DW.ref _ _ _ rfl | exact DW.arr _ _ _ rfl | refine DW.int ?_ | refine dvb ?_ | refine dvi ?_ | exact OW.cells rfl rfl (DWl.same rfl) | skip
    all_goals try (simp_all; done)
    all_goals try (simp at *; omega)
  · refine DFun.body Try.func65 rfl (by kernel_rfl) ?_
    repeat' (first | with_reducible rfl | ((conv => whnf); first | refine And.intro ?_ ?_ | (intro h; first | exact Bool.noConfusion h | with_reducible exact h | skip) | ((with_reducible refine DWl.mark ?_); repeat' (first | refine DWl.cons ?_ ?_ | exact DWl.nil | exact DW.same _ rfl | exact DW.ref _ _ _ rfl | exact DW.arr _ _ _ rfl | exact DW.sub _ _ _ _ rfl | exact DW.nilLst _ | refine DW.aggl ?_ | refine DW.tupl ?_ | refine DW.clol ?_ ?_ | refine DW.int ?_ | refine DW.bool ?_ | refine DW.str ?_)) | refine dq_nilV rfl ?_ rfl ?_ rfl ?_ | refine dcell_ok rfl ?_ | refine AppC.new ?_))
    all_goals first | (with_reducible refine enters_mark ?_; kernel_rfl) | (with_reducible refine boolT_mark ?_; kernel_rfl) | rfl | trivial | assumption | exact Nat.le_of_ble_eq_true rfl | (show entersB _ _ = true; kernel_rfl) | exact DW.same _ rfl | exact DW.ref _ _ _ rfl | exact DW.arr _ _ _ rfl | refine DW.int ?_ | refine dvb ?_ | refine dvi ?_ | exact OW.cells rfl rfl (DWl.same rfl) | skip
    all_goals try (simp_all; done)
    all_goals try (simp at *; omega)
    rw [he]
    exact DW.pubE rfl rfl (by decide) trivial rfl (by simp) rfl
  · refine DFun.body Try.func65 rfl (by kernel_rfl) ?_
    repeat' (first | with_reducible rfl | ((conv => whnf); first | refine And.intro ?_ ?_ | (intro h; first | exact Bool.noConfusion h | with_reducible exact h | skip) | ((with_reducible refine DWl.mark ?_); repeat' (first | refine DWl.cons ?_ ?_ | exact DWl.nil | exact DW.same _ rfl | exact DW.ref _ _ _ rfl | exact DW.arr _ _ _ rfl | exact DW.sub _ _ _ _ rfl | exact DW.nilLst _ | refine DW.aggl ?_ | refine DW.tupl ?_ | refine DW.clol ?_ ?_ | refine DW.int ?_ | refine DW.bool ?_ | refine DW.str ?_)) | refine dq_nilL rfl (fun _ => he) ?_ rfl ?_ rfl ?_ | refine dcell_ok rfl ?_ | refine AppC.new ?_))
    all_goals first | (with_reducible refine enters_mark ?_; kernel_rfl) | (with_reducible refine boolT_mark ?_; kernel_rfl) | rfl | trivial | assumption | exact Nat.le_of_ble_eq_true rfl | (show entersB _ _ = true; kernel_rfl) | exact DW.same _ rfl | exact DW.ref _ _ _ rfl | exact DW.arr _ _ _ rfl | refine DW.int ?_ | refine dvb ?_ | refine dvi ?_ | exact OW.cells rfl rfl (DWl.same rfl) | skip
    all_goals try (simp_all; done)
    all_goals try (simp at *; omega)
    · show (0 + (ls.map lineD).length) * 40 ≤ 140737488355328
      simp; omega
    · simp [maxLen]; omega
    · exact DW.pubE rfl rfl (by decide) trivial (Nat.zero_add _).symm (linesRow ls) rfl
end Go.Proofs.Ytopdllcpeaflaaa
