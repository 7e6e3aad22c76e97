/- Chapter 15's examples; the law of Play. -/
import Derived.Test.YtopdllcpeaflaaaI
namespace Go.Proofs.Ytopdllcpeaflaaa
open Go.RowKit Go.Dl
attribute [local irreducible] Tri SCall DFun QSem PCall GCall Round Weak dloadE OW DWl Tells IntKind.wrap Retold

theorem awake_D : DPure Try.prog 12 [] (.v (.bool true)) := by
  refine DFun.body Try.func12 rfl (by kernel_rfl) ?_
  repeat' (first | with_reducible rfl | ((conv => whnf); first | refine And.intro ?_ ?_ | (intro h; first | exact Bool.noConfusion h | with_reducible exact h | (have ht : true = true := h; clear ht h) | skip) | ((with_reducible refine DWl.mark ?_); repeat' (first | refine DWl.cons ?_ ?_ | exact DWl.nil | exact DW.same _ rfl | exact DW.ref _ _ _ rfl | exact DW.arr _ _ _ rfl | exact DW.nilLst _ | refine DW.aggl ?_ | refine DW.tupl ?_ | refine DW.clol ?_ ?_ | exact DW.pubM rfl rfl rfl rfl (told_rows _) rfl | exact DW.pubG rfl rfl rfl rfl rfl (told_rows _) rfl | refine DW.int ?_ | refine DW.bool ?_ | refine DW.str ?_)) | ((with_reducible refine SCall.mark ?_); first | refine SCall.tell [0] (play_D ⟨5, 1, 0, [], false, 0⟩ [1, 1, 3, 1, 1, 1, 1] (by decide) (by decide) (by decide) (by decide)) ?_ rfl rfl ?_ | refine SCall.scalT (same_D half0 half0) ?_ rfl ?_ | refine SCall.scalT (ints_D [1, 1, 1, 1, 2] [1, 1, 1, 1, 2]) ?_ rfl ?_ | refine SCall.scalT (left17_D ⟨5, 1, 0, [], false, 0⟩ (by decide) (by decide)) ?_ rfl ?_) | ((with_reducible refine PCall.mark ?_); first | refine PCall.tell (fun _ => same_D half0 half0) ?_ rfl ?_ | refine PCall.tell (fun _ => ints_D [1, 1, 1, 1, 2] [1, 1, 1, 1, 2]) ?_ rfl ?_ | refine PCall.tell (fun _ => left17_D ⟨5, 1, 0, [], false, 0⟩ (by decide) (by decide)) ?_ rfl ?_) | ((with_reducible refine GCall.mark ?_); first | refine GCall.scalT (fun _ => same_D half0 half0) ?_ rfl ?_ | refine GCall.scalT (fun _ => ints_D [1, 1, 1, 1, 2] [1, 1, 1, 1, 2]) ?_ rfl ?_ | refine GCall.scalT (fun _ => left17_D ⟨5, 1, 0, [], false, 0⟩ (by decide) (by decide)) ?_ rfl ?_) | refine dcell_ok rfl ?_))
  all_goals first | rfl | trivial | assumption | exact Nat.le_of_ble_eq_true rfl | (show entersB _ _ = true; kernel_rfl) | exact DW.same _ rfl | exact DW.ref _ _ _ rfl | exact DW.arr _ _ _ rfl | refine DW.int ?_ | refine dvb ?_ | exact OW.cells rfl rfl (DWl.same rfl) | skip
  all_goals repeat' (first | exact OW.cells rfl rfl (DWl.same rfl) | refine OW.cells rfl rfl ?_ | exact DW.nilArr _ rfl | refine DW.clol ?_ ?_ | refine DWl.cons ?_ ?_ | exact DWl.nil | exact DW.same _ rfl | exact DW.ref _ _ _ rfl | exact DW.arr _ _ _ rfl | refine DW.int ?_)
  all_goals try (simp_all; done)
  all_goals try (simp at *; omega)

theorem fit_facts {id : Int} {hf : HalfL} (h : fitB id hf = true) : hf.lines.length ≤ 1000000 ∧ 0 ≤ hf.miss ∧ hf.miss < 3 := by
  simp [fitB, fitH] at h
  omega

theorem plays_D (id : Int) (hf : HalfL) (l : List Int) (hn : l.length * 8 ≤ 140737488355328) : DPure Try.prog 3 [.v (.int .i64 id), halfD hf, .lst 1 (l.map intD)] (.v (.bool true)) := by
  have hD := fit15_D id hf
  cases hfit : fitB id hf with
  | false =>
    rw [hfit] at hD
    refine DFun.body Try.func3 rfl (by kernel_rfl) ?_
    repeat' (first | with_reducible rfl | ((conv => whnf); first | refine And.intro ?_ ?_ | (intro h; first | exact Bool.noConfusion h | with_reducible exact h | (have ht : true = true := h; clear ht h) | skip) | ((with_reducible refine DWl.mark ?_); repeat' (first | refine DWl.cons ?_ ?_ | exact DWl.nil | exact DW.same _ rfl | exact DW.ref _ _ _ rfl | exact DW.arr _ _ _ rfl | exact DW.nilLst _ | refine DW.aggl ?_ | refine DW.tupl ?_ | refine DW.clol ?_ ?_ | refine DW.int ?_ | refine DW.bool ?_ | refine DW.str ?_)) | ((with_reducible refine SCall.mark ?_); first | refine SCall.data (hD) rfl rfl ?_ | refine SCall.data (awake_D) rfl rfl ?_) | ((with_reducible refine GCall.mark ?_); first | refine GCall.data (fun _ => hD) rfl rfl ?_ | refine GCall.data (fun _ => awake_D) rfl rfl ?_) | refine dcell_ok rfl ?_))
    all_goals first | rfl | trivial | assumption | exact Nat.le_of_ble_eq_true rfl | (show entersB _ _ = true; kernel_rfl) | exact DW.same _ rfl | exact DW.ref _ _ _ rfl | exact DW.arr _ _ _ rfl | refine DW.int ?_ | refine dvb ?_ | exact OW.cells rfl rfl (DWl.same rfl) | skip
    all_goals repeat' (first | exact OW.cells rfl rfl (DWl.same rfl) | refine OW.cells rfl rfl ?_ | exact DW.nilArr _ rfl | refine DW.clol ?_ ?_ | refine DWl.cons ?_ ?_ | exact DWl.nil | exact DW.same _ rfl | exact DW.ref _ _ _ rfl | exact DW.arr _ _ _ rfl | refine DW.int ?_)
    all_goals try (simp_all; done)
    all_goals try (simp at *; omega)
  | true =>
    rw [hfit] at hD
    obtain ⟨f1, f2, f3⟩ := fit_facts hfit
    refine DFun.body Try.func3 rfl (by kernel_rfl) ?_
    repeat' (first | with_reducible rfl | ((conv => whnf); first | refine And.intro ?_ ?_ | (intro h; first | exact Bool.noConfusion h | with_reducible exact h | (have ht : true = true := h; clear ht h) | skip) | ((with_reducible refine DWl.mark ?_); repeat' (first | refine DWl.cons ?_ ?_ | exact DWl.nil | exact DW.same _ rfl | exact DW.ref _ _ _ rfl | exact DW.arr _ _ _ rfl | exact DW.nilLst _ | refine DW.aggl ?_ | refine DW.tupl ?_ | refine DW.clol ?_ ?_ | refine DW.int ?_ | refine DW.bool ?_ | refine DW.str ?_)) | ((with_reducible refine SCall.mark ?_); first | refine SCall.data (hD) rfl rfl ?_ | refine SCall.data (awake_D) rfl rfl ?_ | refine SCall.scal (awake_D) rfl rfl ?_ | refine SCall.data (play_D hf l f1 f2 f3 hn) rfl rfl ?_ | refine SCall.data (rplay_D hf l f1 f2 f3 hn) rfl rfl ?_ | refine SCall.scal (same_D (playH l hf []).1 (playH l hf []).1) rfl rfl ?_ | refine SCall.data (ints_D (playH l hf []).2 (playH l hf []).2) rfl rfl ?_ | refine SCall.scal (ints_D (playH l hf []).2 (playH l hf []).2) rfl rfl ?_) | ((with_reducible refine PCall.mark ?_); first | refine PCall.mk (awake_D) rfl rfl ?_ | refine PCall.mk (ints_D (playH l hf []).2 (playH l hf []).2) rfl rfl ?_) | ((with_reducible refine GCall.mark ?_); first | refine GCall.data (fun _ => hD) rfl rfl ?_ | refine GCall.data (fun _ => awake_D) rfl rfl ?_ | refine GCall.scal (fun _ => awake_D) rfl rfl ?_ | refine GCall.data (fun _ => play_D hf l f1 f2 f3 hn) rfl rfl ?_ | refine GCall.data (fun _ => rplay_D hf l f1 f2 f3 hn) rfl rfl ?_ | refine GCall.scal (fun _ => same_D (playH l hf []).1 (playH l hf []).1) rfl rfl ?_ | refine GCall.data (fun _ => ints_D (playH l hf []).2 (playH l hf []).2) rfl rfl ?_ | refine GCall.scal (fun _ => ints_D (playH l hf []).2 (playH l hf []).2) rfl rfl ?_) | refine dcell_ok rfl ?_))
    all_goals first | rfl | trivial | assumption | exact Nat.le_of_ble_eq_true rfl | (show entersB _ _ = true; kernel_rfl) | exact DW.same _ rfl | exact DW.ref _ _ _ rfl | exact DW.arr _ _ _ rfl | refine DW.int ?_ | refine dvb ?_ | exact OW.cells rfl rfl (DWl.same rfl) | skip
    all_goals repeat' (first | exact OW.cells rfl rfl (DWl.same rfl) | refine OW.cells rfl rfl ?_ | exact DW.nilArr _ rfl | refine DW.clol ?_ ?_ | refine DWl.cons ?_ ?_ | exact DWl.nil | exact DW.same _ rfl | exact DW.ref _ _ _ rfl | exact DW.arr _ _ _ rfl | refine DW.int ?_)
    all_goals try (simp_all; done)
    all_goals try (simp at *; omega)
end Go.Proofs.Ytopdllcpeaflaaa
