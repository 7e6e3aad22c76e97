/- Turns of half-edges. -/
import Derived.Test.YtopdllcpeaflaaaE
import Derived.Test.YtopdllcpeaflaaaDl15
namespace Go.Proofs.Ytopdllcpeaflaaa
open Go.RowKit Go.Dl
attribute [local irreducible] Tri SCall DFun QSem PCall GCall MCall Round Weak dloadE OW DWl Tells

def turnH (h : HalfL) : HalfL × Int :=
  if h.pend = true then (if 3 ≤ h.miss + 1 then (half0, 2) else ({ h with miss := h.miss + 1 }, 1)) else (if 3 ≤ h.miss then (half0, 2) else ({ h with pend := true }, 1))

theorem wrapS {i : Int} (h0 : -9223372036854775808 ≤ i) (h : i < 9223372036854775808) : IntKind.i64.wrap i = i := by
  simp [IntKind.wrap, IntKind.bits, IntKind.signed]; omega

theorem turn_D (hf : HalfL) (hl : hf.lines.length ≤ 1000000) (h0 : 0 ≤ hf.miss) (h3 : hf.miss < 3) : DPure Try.prog 18 [halfD hf] (.tup [halfD (turnH hf).1, .v (.int .i64 (turnH hf).2)]) := by
  refine DFun.data (DFun.body Try.func18 rfl (by kernel_rfl) ?_)
  repeat' (first | with_reducible rfl | ((conv => whnf); first | refine And.intro ?_ ?_ | (intro h; first | exact Bool.noConfusion h | with_reducible exact h | (have ht : true = true := h; clear ht h) | skip) | ((with_reducible refine DWl.mark ?_); repeat' (first | refine DWl.cons ?_ ?_ | exact DWl.nil | exact DW.same _ rfl | exact DW.ref _ _ _ rfl | exact DW.arr _ _ _ rfl | exact DW.sub _ _ _ _ rfl | exact DW.nilLst _ | refine DW.aggl ?_ | refine DW.tupl ?_ | refine DW.clol ?_ ?_ | refine DW.int ?_ | refine DW.bool ?_ | refine DW.str ?_)) | ((with_reducible refine SCall.mark ?_); first | refine SCall.run Try.func45 rfl (Nat.le_of_ble_eq_true rfl) (by kernel_rfl) ?_ | refine SCall.run Try.func46 rfl (Nat.le_of_ble_eq_true rfl) (by kernel_rfl) ?_ | refine SCall.data (clone_D hf.lines hl) rfl rfl ?_) | ((with_reducible refine GCall.mark ?_); first | refine GCall.data (fun _ => clone_D hf.lines hl) rfl rfl ?_) | ((with_reducible refine MCall.mark ?_); first | refine MCall.data (fun _ => clone_D hf.lines hl) rfl rfl ?_) | ((with_reducible refine Tri.mark ?_); first | (refine Tri.movesN [1] [(true, 0), (true, 1), (true, 2), (true, 3), (true, 4), (true, 5), (true, 6), (true, 7), (true, 8), (true, 9), (false, 10), (true, 11)] ?_ (by kernel_rfl) ?_; rfl)) | refine dcell_ok rfl ?_ | refine AppC.new ?_))
  all_goals first | (with_reducible refine enters_mark ?_; kernel_rfl) | (with_reducible refine boolT_mark ?_; kernel_rfl) | rfl | trivial | assumption | exact Nat.le_of_ble_eq_true rfl | (show entersB _ _ = true; kernel_rfl) | exact DW.same _ rfl | exact DW.ref _ _ _ rfl | exact DW.arr _ _ _ rfl | refine DW.int ?_ | refine dvb ?_ | refine dvi ?_ | exact OW.cells rfl rfl (DWl.same rfl) | skip
  all_goals repeat' (first | exact OW.cells rfl rfl (DWl.same rfl) | refine OW.cells rfl rfl ?_ | exact DW.nilArr _ rfl | refine DW.clol ?_ ?_ | refine DWl.cons ?_ ?_ | exact DWl.nil | exact DW.same _ rfl | exact DW.ref _ _ _ rfl | exact DW.arr _ _ _ rfl | refine DW.int ?_)
  all_goals try (simp_all; done)
  all_goals try (simp at *; omega)
  · rename_i hp
    have hm := h
    clear h
    have hw : IntKind.i64.wrap (hf.miss + 1) = hf.miss + 1 := wrapS (by omega) (by omega)
    rw [hw] at hm
    simp only [decide_eq_true_eq] at hm
    refine Tells.of (r1 := .tup [halfD half0, .v (.int .i64 2)]) ?_ (Tells.mk ?_)
    · simp [turnH, hp, hm]
    repeat' (first | exact DW.same _ rfl |  exact DW.nilLst _ | refine DW.tupl ?_ | refine DW.aggl ?_ | refine DWl.cons ?_ ?_ | exact DWl.nil | refine DW.int ?_ | refine DW.bool ?_ | refine DW.str ?_ | refine DW.lstE ?_)
  · rename_i hp
    have hm := h
    clear h
    have hw : IntKind.i64.wrap (hf.miss + 1) = hf.miss + 1 := wrapS (by omega) (by omega)
    rw [hw] at hm
    simp only [decide_eq_false_iff_not] at hm
    refine Tells.of (r1 := .tup [halfD { hf with miss := hf.miss + 1 }, .v (.int .i64 1)]) ?_ (Tells.mk ?_)
    · simp [turnH, hp, hm]
    repeat' (first | exact DW.same _ rfl |  exact DW.nilLst _ | refine DW.tupl ?_ | refine DW.aggl ?_ | refine DWl.cons ?_ ?_ | exact DWl.nil | refine DW.int ?_ | refine DW.bool ?_ | refine DW.str ?_ | refine DW.lstE ?_)
    · exact hp.symm
    · exact hw
  · rename_i hp
    have hm := h
    clear h
    simp only [decide_eq_false_iff_not] at hm
    refine Tells.of (r1 := .tup [halfD { hf with pend := true }, .v (.int .i64 1)]) ?_ (Tells.mk ?_)
    · simp [turnH, hp, hm]
    repeat' (first | exact DW.same _ rfl |  exact DW.nilLst _ | refine DW.tupl ?_ | refine DW.aggl ?_ | refine DWl.cons ?_ ?_ | exact DWl.nil | refine DW.int ?_ | refine DW.bool ?_ | refine DW.str ?_ | refine DW.lstE ?_)
end Go.Proofs.Ytopdllcpeaflaaa
