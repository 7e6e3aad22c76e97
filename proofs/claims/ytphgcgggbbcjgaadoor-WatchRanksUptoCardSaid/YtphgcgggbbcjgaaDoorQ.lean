/- The chapter's first example holds. -/
import Derived.Test.YtphgcgggbbcjgaaDoorP
namespace Go.Proofs.YtphgcgggbbcjgaaDoor
open Go.RowKit Go.Dl
attribute [local irreducible] Tri SCall DFun QSem PSem PCall GCall MCall Round Weak dloadE OW DWl Tells Retold ESem
theorem smsRow (l : List Sm) : ∀ r ∈ l.map smD, r.length = 3 ∧ r.all isData1 = true := by
  intro r hr
  obtain ⟨x, _, rfl⟩ := List.mem_map.1 hr
  exact ⟨rfl, rfl⟩
theorem k23 : eqTK Tryd.prog 23 = some [.int, .int, .int, .int] := by kernel_rfl
attribute [local irreducible] textT parseT playT fitA
set_option maxRecDepth 20000 in
theorem awake12_D : DPure Tryd.prog 12 [] (bl true) := by
  have hp : DPure Tryd.prog 16 [.agg (alD a0), sms l0] (.tup [.agg (wtD ⟨false, 0, true, 4, false, 0⟩), nts [(1, 1), (6, 2)]]) := by
    have := play16_D a0 l0 fit0 (by decide)
    rw [play0] at this
    exact this
  have hr : DPure Tryd.prog 19 [.v (.string s0)] (.tup [.agg (alD a0), int1 0]) := by
    have := parse19_D s0 (by decide)
    rw [parse0] at this
    exact this
  have ht : DPure Tryd.prog 21 [.agg (alD a0)] (.v (.string s0)) := by
    have := text21_D a0
    rw [text0] at this
    exact this
  have hf : DPure Tryd.prog 26 [.agg (alD a0)] (bl true) := by
    have := fit26_D a0
    rw [fit0] at this
    exact this
  refine DFun.data (DFun.body Tryd.func12 rfl (by kernel_rfl) ?_)
  repeat' (first | with_reducible rfl | ((conv => whnf); first | refine And.intro ?_ ?_ | (intro h; first | exact Bool.noConfusion h | with_reducible exact h | (refine not_t h ?_; rfl) | (refine not_f h ?_; rfl) | (have ht : true = true := h; clear ht h) | skip) | ((with_reducible refine DWl.mark ?_); repeat' (first | refine DWl.cons ?_ ?_ | exact DWl.nil | exact DW.same _ rfl | exact DW.ref _ _ _ rfl | exact DW.arr _ _ _ rfl | exact DW.sub _ _ _ _ rfl | exact DW.nilLst _ | refine DW.aggl ?_ | refine DW.tupl ?_ | refine DW.clol ?_ ?_ | exact DW.pubM rfl rfl rfl rfl (smsRow _) rfl | exact DW.pubG rfl rfl rfl rfl rfl (smsRow _) rfl | exact DW.pubM rfl (List.length_map _).symm rfl rfl (smsRow _) rfl | exact DW.pubG rfl (List.length_map _).symm rfl rfl rfl (smsRow _) rfl | refine DW.int ?_ | refine DW.bool ?_ | refine DW.str ?_)) | ((with_reducible refine SCall.mark ?_); first | refine SCall.data (hr) rfl rfl ?_ | refine SCall.scal (hr) rfl rfl ?_ | refine SCall.data (ht) rfl rfl ?_ | refine SCall.scal (ht) rfl rfl ?_ | refine SCall.data (hf) rfl rfl ?_ | refine SCall.scal (hf) rfl rfl ?_ | refine SCall.tell [15] (hp) ?_ rfl rfl ?_) | ((with_reducible refine PCall.mark ?_); first | refine PCall.mk (hr) rfl rfl ?_ | refine PCall.mk (ht) rfl rfl ?_ | refine PCall.mk (hf) rfl rfl ?_) | ((with_reducible refine GCall.mark ?_); first | refine GCall.data (fun _ => hr) rfl rfl ?_ | refine GCall.scal (fun _ => hr) rfl rfl ?_ | refine GCall.data (fun _ => ht) rfl rfl ?_ | refine GCall.scal (fun _ => ht) rfl rfl ?_ | refine GCall.data (fun _ => hf) rfl rfl ?_ | refine GCall.scal (fun _ => hf) rfl rfl ?_) | ((with_reducible refine MCall.mark ?_); first | refine MCall.data (fun _ => hr) rfl rfl ?_ | refine MCall.plain (PCall.mk (hr) rfl rfl ?_) | refine MCall.data (fun _ => ht) rfl rfl ?_ | refine MCall.plain (PCall.mk (ht) rfl rfl ?_) | refine MCall.data (fun _ => hf) rfl rfl ?_ | refine MCall.plain (PCall.mk (hf) rfl rfl ?_)) | ((with_reducible refine Tri.mark ?_); first | refine Tri.rounds 8 (by kernel_rfl) ?_) | ((with_reducible refine ex_mark ?_); first | refine dq_eql k58 ?_ rfl ?_ rfl rfl ?_ | refine dq_neq k58 ?_ rfl ?_ rfl rfl ?_ | refine dq_eql k23 ?_ rfl ?_ rfl rfl ?_ | refine dq_neq k23 ?_ rfl ?_ rfl rfl ?_) | refine dloadE_map (nt0) ?_ ?_ | refine dcell_ok rfl ?_ | refine AppC.new ?_))
  all_goals first | (with_reducible refine enters_mark ?_; kernel_rfl) | (with_reducible refine boolT_mark ?_; kernel_rfl) | rfl | trivial | assumption | exact Nat.le_of_ble_eq_true rfl | (show entersB _ _ = true; kernel_rfl) | exact DW.same _ rfl | exact DW.ref _ _ _ rfl | exact DW.arr _ _ _ rfl | refine DW.int ?_ | refine dvb ?_ | refine dvi ?_ | exact OW.cells rfl rfl (DWl.same rfl) | exact Nat.zero_le _ | omega | skip
  all_goals repeat' (first | refine OW.cells rfl rfl ?_ | exact DW.nilArr _ rfl | refine DWl.cons ?_ ?_ | exact DWl.nil | exact DW.same _ rfl | exact DW.ref _ _ _ rfl | exact DW.arr _ _ _ rfl | exact DW.sub _ _ _ _ rfl | exact DW.nilLst _ | refine DW.aggl ?_ | refine DW.tupl ?_ | refine DW.clol ?_ ?_ | exact DW.pubM rfl rfl rfl rfl (smsRow _) rfl | exact DW.pubG rfl rfl rfl rfl rfl (smsRow _) rfl | exact DW.pubM rfl (List.length_map _).symm rfl rfl (smsRow _) rfl | exact DW.pubG rfl (List.length_map _).symm rfl rfl rfl (smsRow _) rfl)
  all_goals try ((conv => whnf); with_reducible first | refine Round.mark ?_ | refine Tells.mark ?_ | refine Retold.mark ?_)
  all_goals try first | (show (_ : Bool) = _; simp_all; done) | (show (_ : Int) < _; simp at *; omega) | (show (_ : Int) ≤ _; simp at *; omega) | (show (_ : Nat) < _; simp at *; omega) | (show (_ : Nat) ≤ _; simp at *; omega)
  conv => whnf
  exact Tells.mk (DW.bool (by kernel_rfl))
end Go.Proofs.YtphgcgggbbcjgaaDoor
