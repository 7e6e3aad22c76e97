/- The samples that are fit; alarms, states and samples with the other sign. -/
import Derived.Test.YtphgcgggbbcjgaaDoorS
namespace Go.Proofs.YtphgcgggbbcjgaaDoor
open Go.RowKit Go.Dl
attribute [local irreducible] Tri SCall DFun QSem PSem PCall GCall MCall Round Weak dloadE OW DWl Tells IntKind.wrap Retold ESem

def fitL (l : List Sm) : List Sm := l.filter sampleB
def fitK (l : List Sm) (k : Nat) : List Sm := (l.take k).filter sampleB
theorem fit_all (l : List Sm) : fitK l l.length = fitL l := by unfold fitK fitL; rw [List.take_of_length_le (Nat.le_refl _)]
theorem fit_succ {l : List Sm} {k : Nat} (h : k < l.length) : fitK l (k + 1) = fitK l k ++ (if sampleB (l.getD k sm0) = true then [l.getD k sm0] else []) := by
  unfold fitK
  rw [take_succ (d := sm0) h, List.filter_append]
  congr 1
  simp only [List.filter_cons, List.filter_nil]
theorem fit_zero (l : List Sm) : fitK l 0 = [] := rfl
theorem fit_len (l : List Sm) (k : Nat) : (fitK l k).length ≤ k := by
  unfold fitK
  have := List.length_filter_le sampleB (l.take k)
  rw [List.length_take] at this
  omega
def rowS (l : List Sm) : List DV := (l.map smD).flatten
theorem rowS_eq (l : List Sm) : rowS l = (l.map smD).flatten := rfl
theorem rowS_cons (x : Sm) (l : List Sm) : rowS (x :: l) = smD x ++ rowS l := rfl
theorem rowS_append (l m : List Sm) : rowS (l ++ m) = rowS l ++ rowS m := by simp [rowS]
theorem rowS_len (l : List Sm) : (rowS l).length = l.length * 3 := by
  induction l with
  | nil => rfl
  | cons a l ih => rw [rowS_cons, List.length_append, ih]; simp [smD]; omega
theorem rowS_all (l : List Sm) : (rowS l).all noId1 = true := by
  induction l with
  | nil => rfl
  | cons a l ih => rw [rowS_cons, List.all_append, ih]; rfl
theorem rowS_push (l : List Sm) (x : Sm) : (rowS l).take (l.length * 3) ++ smD x = rowS (l ++ [x]) := by
  rw [List.take_of_length_le (by rw [rowS_len]; exact Nat.le_refl _), rowS_append]; rfl
theorem rowS_zero : rowS [] = [] := rfl
theorem pushS (P : List Sm) (x : Sm) : P.length + 1 = (P ++ [x]).length := by simp
set_option maxRecDepth 20000 in
theorem rs_b1 (P : List Sm) : P.length * Tryd.prog.types[27].size ≤ (rowS P).length := by
  show P.length * 3 ≤ _
  rw [rowS_len]; exact Nat.le_refl _
set_option maxRecDepth 20000 in
theorem rs_b2 {P : List Sm} {n : Nat} (h : P.length < n) (hl : n * 24 ≤ 140737488355328) : (P.length + 1) * Tryd.prog.types[27].bytes ≤ 140737488355328 := by
  show (P.length + 1) * 24 ≤ _
  omega
theorem rs_b3 {P : List Sm} {n : Nat} (h : P.length < n) (hl : n * 24 ≤ 140737488355328) : P.length + 1 ≤ maxLen := by simp only [maxLen]; omega
def fitSt (l : List Sm) (i : Nat × List Sm) : St := ⟨0, tmOf [(0, sms l), (3, .arr 0 i.2.length), (4, int1 i.1)], .of [(0, ⟨27, 3, rowS i.2⟩)] 1⟩
def FitI (l : List Sm) (i : Nat × List Sm) : Prop := i.1 ≤ l.length ∧ i.2 = fitK l i.1
theorem fit_yes {l : List Sm} {i : Nat × List Sm} (hi : FitI l i) (hlt : i.1 < l.length) (h : sampleB (l.getD ((i.1 : Nat) : Int).toNat sm0) = true) : FitI l (i.1 + 1, i.2 ++ [l.getD ((i.1 : Nat) : Int).toNat sm0]) := by
  rw [Int.toNat_natCast] at *
  exact ⟨hlt, by rw [fit_succ hlt, if_pos h, hi.2]⟩
theorem fit_no {l : List Sm} {i : Nat × List Sm} (hi : FitI l i) (hlt : i.1 < l.length) (h : sampleB (l.getD ((i.1 : Nat) : Int).toNat sm0) = false) : FitI l (i.1 + 1, i.2) := by
  rw [Int.toNat_natCast] at *
  exact ⟨hlt, by rw [fit_succ hlt, if_neg (by rw [h]; decide), hi.2, List.append_nil]⟩
theorem fiti_len {l : List Sm} {i : Nat × List Sm} (hi : FitI l i) (hlt : i.1 < l.length) : i.2.length < l.length := by
  rw [hi.2]
  have := fit_len l i.1
  omega
attribute [local irreducible] sampleB fitK rowS
set_option maxRecDepth 20000 in
theorem fit23_D (l : List Sm) (hl : l.length * 24 ≤ 140737488355328) : DPure Tryd.prog 23 [sms l] (sms (fitL l)) := by
  refine DFun.data (DFun.body Tryd.func23 rfl (by kernel_rfl) ?_)
  repeat' (first | with_reducible rfl | ((conv => whnf); first | refine And.intro ?_ ?_ | (intro h; first | exact Bool.noConfusion h | with_reducible exact h | (have ht : true = true := h; clear ht h) | skip) | ((with_reducible refine DWl.mark ?_); repeat' (first | refine DWl.cons ?_ ?_ | exact DWl.nil | exact DW.same _ rfl | exact DW.ref _ _ _ rfl | exact DW.arr _ _ _ rfl | exact DW.sub _ _ _ _ rfl | exact DW.nilLst _ | refine DW.aggl ?_ | refine DW.tupl ?_ | refine DW.clol ?_ ?_ | refine DW.int ?_ | refine DW.bool ?_ | refine DW.str ?_)) | ((with_reducible refine SCall.mark ?_); first | refine SCall.data (sample11_D _) rfl rfl ?_ | refine SCall.scal (sample11_D _) rfl rfl ?_) | ((with_reducible refine PCall.mark ?_); first | refine PCall.mk (sample11_D _) rfl rfl ?_) | ((with_reducible refine GCall.mark ?_); first | refine GCall.data (fun _ => sample11_D _) rfl rfl ?_ | refine GCall.scal (fun _ => sample11_D _) rfl rfl ?_) | ((with_reducible refine MCall.mark ?_); first | refine MCall.data (fun _ => sample11_D _) rfl rfl ?_ | refine MCall.plain (PCall.mk (sample11_D _) rfl rfl ?_)) | ((with_reducible refine Tri.mark ?_); first | refine Tri.loop (fitSt l) (FitI l) (fun i => l.length - i.1) (0, []) (by kernel_rfl) (Weak.list [(0, none)] [] (by kernel_rfl) ?_ ?_) ?_ ?_) | refine dloadE_map (sm0) ?_ ?_ | refine dcell_ok rfl ?_ | refine AppC.new ?_))
  all_goals first | (with_reducible refine enters_mark ?_; kernel_rfl) | (with_reducible refine boolT_mark ?_; kernel_rfl) | rfl | trivial | assumption | exact Nat.le_of_ble_eq_true rfl | (show entersB _ _ = true; kernel_rfl) | exact DW.same _ rfl | exact DW.ref _ _ _ rfl | exact DW.arr _ _ _ rfl | refine DW.int ?_ | refine dvb ?_ | refine dvi ?_ | exact OW.cells rfl rfl (DWl.same rfl) | exact Nat.zero_le _ | omega | skip
  all_goals repeat' (first | refine OW.cells rfl rfl ?_ | exact DW.nilArr _ rfl | refine DWl.cons ?_ ?_ | exact DWl.nil | exact DW.same _ rfl | exact DW.ref _ _ _ rfl | exact DW.arr _ _ _ rfl | exact DW.sub _ _ _ _ rfl | exact DW.nilLst _ | refine DW.aggl ?_ | refine DW.tupl ?_ | refine DW.clol ?_ ?_)
  all_goals try ((conv => whnf); with_reducible first | refine Round.mark ?_ | refine Tells.mark ?_ | refine Retold.mark ?_)
  all_goals try first | (show (_ : Bool) = _; simp_all; done) | (show (_ : Int) < _; simp at *; omega) | (show (_ : Int) ≤ _; simp at *; omega) | (show (_ : Nat) < _; simp at *; omega) | (show (_ : Nat) ≤ _; simp at *; omega)
  · conv => whnf
    exact rowS_zero
  · exact (fit_zero l).symm
  · exact rs_b1 _
  · rename_i i hi e1
    exact rs_b2 (fiti_len hi (lt_of_test e1)) hl
  · rename_i i hi e1
    exact rs_b3 (fiti_len hi (lt_of_test e1)) hl
  · rename_i i hi e1
    have hlt := lt_of_test e1
    refine Round.go (fun _ => (i.1 + 1, i.2 ++ [l.getD ((i.1 : Nat) : Int).toNat sm0])) (fit_yes hi hlt h) (by show l.length - (i.1 + 1) < l.length - i.1; omega) (Weak.list [(0, some 2)] [] (by kernel_rfl) ?_ ?_)
    · repeat' (first | exact wsucc hlt (by omega) | exact DWl.eq (rowS_push i.2 _) (rowS_all _) | exact pushS i.2 _ | exact DW.same _ rfl | exact DW.ref _ _ _ rfl | exact DW.arr _ _ _ rfl | exact OW.cells rfl rfl (DWl.same rfl) | refine OW.cells rfl rfl ?_ | refine DWl.cons ?_ ?_ | exact DWl.nil | exact DW.nilArr _ rfl | exact DW.nilLst _ | refine DW.clol ?_ ?_ | refine DW.aggl ?_ | refine DW.tupl ?_ | refine DW.int ?_ | refine DW.bool ?_ | refine DW.str ?_ | refine DW.arrE rfl ?_ | ((conv => whnf); first | refine And.intro ?_ ?_ | trivial))
    · repeat' (first | exact wsucc hlt (by omega) | exact DWl.eq (rowS_push i.2 _) (rowS_all _) | exact pushS i.2 _ | exact DW.same _ rfl | exact DW.ref _ _ _ rfl | exact DW.arr _ _ _ rfl | exact OW.cells rfl rfl (DWl.same rfl) | refine OW.cells rfl rfl ?_ | refine DWl.cons ?_ ?_ | exact DWl.nil | exact DW.nilArr _ rfl | exact DW.nilLst _ | refine DW.clol ?_ ?_ | refine DW.aggl ?_ | refine DW.tupl ?_ | refine DW.int ?_ | refine DW.bool ?_ | refine DW.str ?_ | refine DW.arrE rfl ?_ | ((conv => whnf); first | refine And.intro ?_ ?_ | trivial))
  · rename_i i hi e1
    have hlt := lt_of_test e1
    refine Round.go (fun _ => (i.1 + 1, i.2)) (fit_no hi hlt h) (by show l.length - (i.1 + 1) < l.length - i.1; omega) (Weak.list [(0, some 0)] [] (by kernel_rfl) ?_ ?_)
    · repeat' (first | exact wsucc hlt (by omega) | exact DWl.eq (rfl : rowS i.2 = rowS i.2) (rowS_all _) | exact DW.same _ rfl | exact DW.ref _ _ _ rfl | exact DW.arr _ _ _ rfl | exact OW.cells rfl rfl (DWl.same rfl) | refine OW.cells rfl rfl ?_ | refine DWl.cons ?_ ?_ | exact DWl.nil | exact DW.nilArr _ rfl | exact DW.nilLst _ | refine DW.clol ?_ ?_ | refine DW.aggl ?_ | refine DW.tupl ?_ | refine DW.int ?_ | refine DW.bool ?_ | refine DW.str ?_ | refine DW.arrE rfl ?_ | ((conv => whnf); first | refine And.intro ?_ ?_ | trivial))
    · repeat' (first | exact wsucc hlt (by omega) | exact DWl.eq (rfl : rowS i.2 = rowS i.2) (rowS_all _) | exact DW.same _ rfl | exact DW.ref _ _ _ rfl | exact DW.arr _ _ _ rfl | exact OW.cells rfl rfl (DWl.same rfl) | refine OW.cells rfl rfl ?_ | refine DWl.cons ?_ ?_ | exact DWl.nil | exact DW.nilArr _ rfl | exact DW.nilLst _ | refine DW.clol ?_ ?_ | refine DW.aggl ?_ | refine DW.tupl ?_ | refine DW.int ?_ | refine DW.bool ?_ | refine DW.str ?_ | refine DW.arrE rfl ?_ | ((conv => whnf); first | refine And.intro ?_ ?_ | trivial))
  · rename_i i hi
    have hlt := ge_of_test h
    have e4 : i.2 = fitL l := by rw [hi.2, show i.1 = l.length by have := hi.1; omega, fit_all]
    conv => whnf
    exact Tells.of (r1 := sms i.2) (by rw [e4]) (Tells.mk (DW.pubM rfl rfl rfl rfl (smsRow _) (rowS_eq _)))
end Go.Proofs.YtphgcgggbbcjgaaDoor
