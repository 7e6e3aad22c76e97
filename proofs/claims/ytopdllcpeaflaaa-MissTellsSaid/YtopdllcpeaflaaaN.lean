/- Half-edges whose lines lie in memory of the caller's. -/
import Derived.Test.YtopdllcpeaflaaaM
import Derived.Test.YtopdllcpeaflaaaDl21
namespace Go.Proofs.Ytopdllcpeaflaaa
open Go.RowKit Go.Dl
attribute [local irreducible] Tri SCall DFun QSem PCall GCall MCall Round Weak dloadE OW DWl Tells IntKind.wrap Retold

def rowsC (ls : List LineL) : List DV := (ls.map lineD).flatten
theorem rowsC_all (ls : List LineL) : (rowsC ls).all noId1 = true := by
  simp only [rowsC, List.all_eq_true, List.mem_flatten, List.mem_map]
  rintro d ⟨r, ⟨x, _, rfl⟩, hd⟩
  simp [lineD] at hd
  rcases hd with rfl | rfl | rfl | rfl <;> rfl

theorem clone_O (ls : List LineL) (hne : ls ≠ []) (hl : ls.length ≤ 1000000) :
    SCall Try.prog 65 [.lst 4 (ls.map lineD)] (.of [] 0) fun r s => r = .arr 0 ls.length ∧ s = .of [(0, ⟨41, 4, rowsC ls⟩)] 1 := by
  refine SCall.retell (SCall.run Try.func65 rfl (Nat.le_of_ble_eq_true rfl) (by kernel_rfl) ?_)
  repeat' (first | with_reducible rfl | ((conv => whnf); first | refine And.intro ?_ ?_ | (intro h; first | exact Bool.noConfusion h | with_reducible exact h | (have ht : true = true := h; clear ht h) | skip) | ((with_reducible refine DWl.mark ?_); repeat' (first | refine DWl.cons ?_ ?_ | exact DWl.nil | exact DW.same _ rfl | exact DW.ref _ _ _ rfl | exact DW.arr _ _ _ rfl | exact DW.nilLst _ | refine DW.aggl ?_ | refine DW.tupl ?_ | refine DW.clol ?_ ?_ | refine DW.int ?_ | refine DW.bool ?_ | refine DW.str ?_)) | ((with_reducible refine ex_mark ?_); first | refine dq_nilL rfl (fun _ => by simpa using hne) ?_ rfl ?_ rfl ?_) | refine dcell_ok rfl ?_))
  all_goals first | rfl | trivial | assumption | exact Nat.le_of_ble_eq_true rfl | (show entersB _ _ = true; kernel_rfl) | exact DW.same _ rfl | exact DW.ref _ _ _ rfl | exact DW.arr _ _ _ rfl | refine DW.int ?_ | refine dvb ?_ | exact OW.cells rfl rfl (DWl.same rfl) | exact Nat.zero_le _ | omega | skip
  all_goals repeat' (first | refine OW.cells rfl rfl ?_ | exact DW.nilArr _ rfl | refine DWl.cons ?_ ?_ | exact DWl.nil | exact DW.same _ rfl | exact DW.ref _ _ _ rfl | exact DW.arr _ _ _ rfl | exact DW.nilLst _ | refine DW.aggl ?_ | refine DW.tupl ?_ | refine DW.clol ?_ ?_)
  all_goals try ((conv => whnf); with_reducible first | refine Round.mark ?_ | refine Tells.mark ?_ | refine Retold.mark ?_)
  all_goals try first | (show (_ : Bool) = _; simp_all; done) | (show (_ : Int) < _; simp at *; omega) | (show (_ : Int) ≤ _; simp at *; omega) | (show (_ : Nat) < _; simp at *; omega) | (show (_ : Nat) ≤ _; simp at *; omega)
  · show (0 + (ls.map lineD).length) * 40 ≤ 140737488355328
    simp; omega
  · simp [maxLen]; omega
  · refine Retold.list [(0, some 1)] [] _ [(0, ⟨41, 4, rowsC ls⟩)] 1 (by kernel_rfl) ?_ ?_ ⟨rfl, rfl⟩
    · exact DW.arrE rfl (by simp)
    · repeat' (first | exact OW.same rfl rfl rfl (rowsC_all _) | ((conv => whnf); first | refine And.intro ?_ ?_ | trivial))

/-- A half-edge with its lines in an owned slice. -/
def halfO (h : HalfL) (id : Nat) : DV := .agg [.v (.int .i64 h.peer), .v (.int .i64 h.boot), .v (.int .i64 h.life), .arr id h.lines.length, .v (.bool h.pend), .v (.int .i64 h.miss)]

theorem answered_O (hf : HalfL) (hne : hf.lines ≠ []) (hl : hf.lines.length ≤ 1000000) :
    SCall Try.prog 20 [halfD hf] (.of [] 0) fun r s => r = halfO (answeredH hf) 0 ∧ s = .of [(0, ⟨41, 4, rowsC hf.lines⟩)] 1 := by
  refine SCall.retell (SCall.run Try.func20 rfl (Nat.le_of_ble_eq_true rfl) (by kernel_rfl) ?_)
  repeat' (first | with_reducible rfl | ((conv => whnf); first | refine And.intro ?_ ?_ | (intro h; first | exact Bool.noConfusion h | with_reducible exact h | (have ht : true = true := h; clear ht h) | skip) | ((with_reducible refine DWl.mark ?_); repeat' (first | refine DWl.cons ?_ ?_ | exact DWl.nil | exact DW.same _ rfl | exact DW.ref _ _ _ rfl | exact DW.arr _ _ _ rfl | exact DW.nilLst _ | refine DW.aggl ?_ | refine DW.tupl ?_ | refine DW.clol ?_ ?_ | refine DW.int ?_ | refine DW.bool ?_ | refine DW.str ?_)) | ((with_reducible refine SCall.mark ?_); first | refine SCall.run Try.func52 rfl (Nat.le_of_ble_eq_true rfl) (by kernel_rfl) ?_ | refine SCall.run Try.func45 rfl (Nat.le_of_ble_eq_true rfl) (by kernel_rfl) ?_ | refine SCall.run Try.func49 rfl (Nat.le_of_ble_eq_true rfl) (by kernel_rfl) ?_ | refine SCall.at [] (fun m => [(m, ⟨41, 4, rowsC hf.lines⟩)]) (fun m => .arr m hf.lines.length) 1 (clone_O hf.lines hne hl) (by kernel_rfl) ?_ ?_ ?_ ?_ ?_) | refine dcell_ok rfl ?_))
  all_goals first | rfl | trivial | assumption | exact Nat.le_of_ble_eq_true rfl | (show entersB _ _ = true; kernel_rfl) | exact DW.same _ rfl | exact DW.ref _ _ _ rfl | exact DW.arr _ _ _ rfl | refine DW.int ?_ | refine dvb ?_ | exact OW.cells rfl rfl (DWl.same rfl) | exact Nat.zero_le _ | omega | skip
  all_goals repeat' (first | refine OW.cells rfl rfl ?_ | exact DW.nilArr _ rfl | refine DWl.cons ?_ ?_ | exact DWl.nil | exact DW.same _ rfl | exact DW.ref _ _ _ rfl | exact DW.arr _ _ _ rfl | exact DW.nilLst _ | refine DW.aggl ?_ | refine DW.tupl ?_ | refine DW.clol ?_ ?_)
  all_goals try ((conv => whnf); with_reducible first | refine Round.mark ?_ | refine Tells.mark ?_ | refine Retold.mark ?_)
  all_goals try first | (show (_ : Bool) = _; simp_all; done) | (show (_ : Int) < _; simp at *; omega) | (show (_ : Int) ≤ _; simp at *; omega) | (show (_ : Nat) < _; simp at *; omega) | (show (_ : Nat) ≤ _; simp at *; omega)
  · exact DWl.same (rowsC_all _)
  · refine Retold.list [(0, some 5)] [] _ [(0, ⟨41, 4, rowsC hf.lines⟩)] 1 (by kernel_rfl) ?_ ?_ ⟨rfl, rfl⟩
    · trace_state
      repeat' (first | exact DW.same _ rfl | exact DW.arr _ _ _ rfl | refine DW.aggl ?_ | refine DWl.cons ?_ ?_ | exact DWl.nil)
    · repeat' (first | exact OW.same rfl rfl rfl (rowsC_all _) | ((conv => whnf); first | refine And.intro ?_ ?_ | trivial))
end Go.Proofs.Ytopdllcpeaflaaa
