/- Rows copied, rows without one. -/
import Derived.Test.YtopdllcpeaflaaaR
import Derived.Test.YtopdllcpeaflaaaDl23
namespace Go.Proofs.Ytopdllcpeaflaaa
open Go.RowKit Go.Dl
attribute [local irreducible] Tri SCall DFun QSem PCall GCall MCall Round Weak dloadE OW DWl Tells IntKind.wrap Retold ESem

theorem intsRow (l : List Int) : ∀ r ∈ l.map intD, r.length = 1 ∧ r.all isData1 = true := by
  intro r hr
  obtain ⟨x, _, rfl⟩ := List.mem_map.1 hr
  exact ⟨rfl, rfl⟩
def rowC (l : List Int) : List DV := (l.map intD).flatten
theorem rowC_len (l : List Int) : (rowC l).length = l.length := by
  induction l with
  | nil => rfl
  | cons a l ih => simp only [rowC, List.map_cons, List.flatten_cons, List.length_append, List.length_cons] at *; rw [ih]; simp [intD]; omega
theorem rowC_app (a b : List Int) : rowC (a ++ b) = rowC a ++ rowC b := by simp [rowC]
theorem rowC_map (l : List Int) : rowC l = l.map fun x => .v (.int .i64 x) := by
  induction l with
  | nil => rfl
  | cons a l ih => simp only [rowC, List.map_cons, List.flatten_cons] at *; rw [ih]; rfl
theorem rowC_take (l : List Int) (k : Nat) : (rowC l).take k = rowC (l.take k) := by rw [rowC_map, rowC_map, List.map_take]
theorem rowC_drop (l : List Int) (k : Nat) : (rowC l).drop k = rowC (l.drop k) := by rw [rowC_map, rowC_map, List.map_drop]
theorem rowC_one (l : List Int) : (rowC l).all DV.one = true := by
  rw [rowC_map, List.all_map, List.all_eq_true]; intro x _; rfl
theorem rowC_all (l : List Int) : (rowC l).all noId1 = true := by
  rw [rowC_map, List.all_map, List.all_eq_true]; intro x _; rfl

/-- A copy, in new memory. -/
theorem clone57_O (l : List Int) (hl : l.length ≤ 1000000) :
    SCall Try.prog 57 [ints l] (.of [] 0) fun r s => r = .arr 0 l.length ∧ s = .of [(0, ⟨3, 1, rowC l⟩)] 1 := by
  refine SCall.nilSplit 0 rfl (fun he => ?_) (fun he a c => ?_) (fun he => ?_)
  · refine SCall.retell (SCall.run Try.func57 rfl (Nat.le_of_ble_eq_true rfl) (by kernel_rfl) ?_)
    repeat' (first | with_reducible rfl | ((conv => whnf); first | refine And.intro ?_ ?_ | (intro h; first | exact Bool.noConfusion h | with_reducible exact h | (have ht : true = true := h; clear ht h) | skip) | ((with_reducible refine DWl.mark ?_); repeat' (first | refine DWl.cons ?_ ?_ | exact DWl.nil | exact DW.same _ rfl | exact DW.ref _ _ _ rfl | exact DW.arr _ _ _ rfl | exact DW.sub _ _ _ _ rfl | exact DW.nilLst _ | refine DW.aggl ?_ | refine DW.tupl ?_ | refine DW.clol ?_ ?_ | refine DW.int ?_ | refine DW.bool ?_ | refine DW.str ?_)) | ((with_reducible refine ex_mark ?_); first | refine dq_nilV rfl ?_ rfl ?_ rfl ?_) | refine dcell_ok rfl ?_ | refine AppC.new ?_))
    all_goals first | (with_reducible refine enters_mark ?_; kernel_rfl) | (with_reducible refine boolT_mark ?_; kernel_rfl) | rfl | trivial | assumption | exact Nat.le_of_ble_eq_true rfl | (show entersB _ _ = true; kernel_rfl) | exact DW.same _ rfl | exact DW.ref _ _ _ rfl | exact DW.arr _ _ _ rfl | refine DW.int ?_ | refine dvb ?_ | refine dvi ?_ | exact OW.cells rfl rfl (DWl.same rfl) | exact Nat.zero_le _ | omega | skip
    all_goals repeat' (first | refine OW.cells rfl rfl ?_ | exact DW.nilArr _ rfl | refine DWl.cons ?_ ?_ | exact DWl.nil | exact DW.same _ rfl | exact DW.ref _ _ _ rfl | exact DW.arr _ _ _ rfl | exact DW.sub _ _ _ _ rfl | exact DW.nilLst _ | refine DW.aggl ?_ | refine DW.tupl ?_ | refine DW.clol ?_ ?_)
    all_goals try ((conv => whnf); with_reducible first | refine Round.mark ?_ | refine Tells.mark ?_ | refine Retold.mark ?_)
    all_goals try first | (show (_ : Bool) = _; simp_all; done) | (show (_ : Int) < _; simp at *; omega) | (show (_ : Int) ≤ _; simp at *; omega) | (show (_ : Nat) < _; simp at *; omega) | (show (_ : Nat) ≤ _; simp at *; omega)
    have he : l = [] := by simpa using he
    subst he
    refine Retold.list [(0, none)] [] _ [(0, ⟨3, 1, []⟩)] 1 (by kernel_rfl) ?_ ?_ ⟨rfl, rfl⟩
    · exact DW.nilArr _ rfl
    · repeat' (first | rfl | exact OW.same rfl rfl rfl (rowC_all _) | ((conv => whnf); first | refine And.intro ?_ ?_ | trivial))
  · refine SCall.retell (SCall.run Try.func57 rfl (Nat.le_of_ble_eq_true rfl) (by kernel_rfl) ?_)
    repeat' (first | with_reducible rfl | ((conv => whnf); first | refine And.intro ?_ ?_ | (intro h; first | exact Bool.noConfusion h | with_reducible exact h | (have ht : true = true := h; clear ht h) | skip) | ((with_reducible refine DWl.mark ?_); repeat' (first | refine DWl.cons ?_ ?_ | exact DWl.nil | exact DW.same _ rfl | exact DW.ref _ _ _ rfl | exact DW.arr _ _ _ rfl | exact DW.sub _ _ _ _ rfl | exact DW.nilLst _ | refine DW.aggl ?_ | refine DW.tupl ?_ | refine DW.clol ?_ ?_ | refine DW.int ?_ | refine DW.bool ?_ | refine DW.str ?_)) | ((with_reducible refine ex_mark ?_); first | refine dq_nilV rfl ?_ rfl ?_ rfl ?_) | refine dcell_ok rfl ?_ | refine AppC.new ?_))
    all_goals first | (with_reducible refine enters_mark ?_; kernel_rfl) | (with_reducible refine boolT_mark ?_; kernel_rfl) | rfl | trivial | assumption | exact Nat.le_of_ble_eq_true rfl | (show entersB _ _ = true; kernel_rfl) | exact DW.same _ rfl | exact DW.ref _ _ _ rfl | exact DW.arr _ _ _ rfl | refine DW.int ?_ | refine dvb ?_ | refine dvi ?_ | exact OW.cells rfl rfl (DWl.same rfl) | exact Nat.zero_le _ | omega | skip
    all_goals repeat' (first | refine OW.cells rfl rfl ?_ | exact DW.nilArr _ rfl | refine DWl.cons ?_ ?_ | exact DWl.nil | exact DW.same _ rfl | exact DW.ref _ _ _ rfl | exact DW.arr _ _ _ rfl | exact DW.sub _ _ _ _ rfl | exact DW.nilLst _ | refine DW.aggl ?_ | refine DW.tupl ?_ | refine DW.clol ?_ ?_)
    all_goals try ((conv => whnf); with_reducible first | refine Round.mark ?_ | refine Tells.mark ?_ | refine Retold.mark ?_)
    all_goals try first | (show (_ : Bool) = _; simp_all; done) | (show (_ : Int) < _; simp at *; omega) | (show (_ : Int) ≤ _; simp at *; omega) | (show (_ : Nat) < _; simp at *; omega) | (show (_ : Nat) ≤ _; simp at *; omega)
    have he : l = [] := by simpa using he
    subst he
    refine Retold.list [(0, some 1)] [] _ [(0, ⟨3, 1, []⟩)] 1 (by kernel_rfl) ?_ ?_ ⟨rfl, rfl⟩
    · exact DW.arrE rfl (by simp)
    · repeat' (first | rfl | exact OW.same rfl rfl rfl rfl | ((conv => whnf); first | refine And.intro ?_ ?_ | trivial))
  · refine SCall.retell (SCall.run Try.func57 rfl (Nat.le_of_ble_eq_true rfl) (by kernel_rfl) ?_)
    repeat' (first | with_reducible rfl | ((conv => whnf); first | refine And.intro ?_ ?_ | (intro h; first | exact Bool.noConfusion h | with_reducible exact h | (have ht : true = true := h; clear ht h) | skip) | ((with_reducible refine DWl.mark ?_); repeat' (first | refine DWl.cons ?_ ?_ | exact DWl.nil | exact DW.same _ rfl | exact DW.ref _ _ _ rfl | exact DW.arr _ _ _ rfl | exact DW.sub _ _ _ _ rfl | exact DW.nilLst _ | refine DW.aggl ?_ | refine DW.tupl ?_ | refine DW.clol ?_ ?_ | refine DW.int ?_ | refine DW.bool ?_ | refine DW.str ?_)) | ((with_reducible refine ex_mark ?_); first | refine dq_nilL rfl (fun _ => he) ?_ rfl ?_ rfl ?_) | refine dcell_ok rfl ?_ | refine AppC.new ?_))
    all_goals first | (with_reducible refine enters_mark ?_; kernel_rfl) | (with_reducible refine boolT_mark ?_; kernel_rfl) | rfl | trivial | assumption | exact Nat.le_of_ble_eq_true rfl | (show entersB _ _ = true; kernel_rfl) | exact DW.same _ rfl | exact DW.ref _ _ _ rfl | exact DW.arr _ _ _ rfl | refine DW.int ?_ | refine dvb ?_ | refine dvi ?_ | exact OW.cells rfl rfl (DWl.same rfl) | exact Nat.zero_le _ | omega | skip
    all_goals repeat' (first | refine OW.cells rfl rfl ?_ | exact DW.nilArr _ rfl | refine DWl.cons ?_ ?_ | exact DWl.nil | exact DW.same _ rfl | exact DW.ref _ _ _ rfl | exact DW.arr _ _ _ rfl | exact DW.sub _ _ _ _ rfl | exact DW.nilLst _ | refine DW.aggl ?_ | refine DW.tupl ?_ | refine DW.clol ?_ ?_)
    all_goals try ((conv => whnf); with_reducible first | refine Round.mark ?_ | refine Tells.mark ?_ | refine Retold.mark ?_)
    all_goals try first | (show (_ : Bool) = _; simp_all; done) | (show (_ : Int) < _; simp at *; omega) | (show (_ : Int) ≤ _; simp at *; omega) | (show (_ : Nat) < _; simp at *; omega) | (show (_ : Nat) ≤ _; simp at *; omega)
    · show (0 + (l.map intD).length) * 8 ≤ 140737488355328
      simp; omega
    · simp [maxLen]; omega
    · refine Retold.list [(0, some 1)] [] _ [(0, ⟨3, 1, rowC l⟩)] 1 (by kernel_rfl) ?_ ?_ ⟨rfl, rfl⟩
      · exact DW.arrE rfl (by simp)
      · repeat' (first | exact OW.same rfl rfl rfl (rowC_all _) | ((conv => whnf); first | refine And.intro ?_ ?_ | trivial))
def delI (n i : Nat) : Int := (n : Int) - ((i : Int) + 1)
def delC (l : List Int) (i : Nat) : List DV :=
  (rowC l).take ((i : Int).toNat * 1) ++ ((rowC l).drop (((i : Int) + 1).toNat * 1)).take ((delI l.length i).toNat * 1) ++ (rowC l).drop ((i : Int).toNat * 1 + (delI l.length i).toNat * 1)
theorem delC_eq (l : List Int) (i : Nat) (hi : i < l.length) : delC l i = rowC (l.eraseIdx i) ++ rowC (l.drop (l.length - 1)) := by
  unfold delC delI
  rw [show (i : Int).toNat * 1 = i by omega, show ((i : Int) + 1).toNat * 1 = i + 1 by omega, show ((l.length : Int) - ((i : Int) + 1)).toNat * 1 = l.length - (i + 1) by omega, rowC_take, rowC_drop, rowC_drop, rowC_take, ← rowC_app]
  congr 1
  · rw [List.eraseIdx_eq_take_drop_succ, List.take_of_length_le (l := l.drop (i + 1)) (by rw [List.length_drop]; omega)]
  · congr 2; omega
theorem delC_len (l : List Int) (i : Nat) (hi : i < l.length) : (delC l i).length = l.length := by
  rw [delC_eq l i hi, List.length_append, rowC_len, rowC_len, List.length_eraseIdx_of_lt hi, List.length_drop]; omega
theorem delC_end (l : List Int) (i : Nat) (hi : i < l.length) (z : List DV) (hz : z = intD 0) :
    (delC l i).take ((((i : Int).toNat + (delI l.length i).toNat : Nat) : Int).toNat * 1) ++ (List.replicate ((l.length : Int) - (((i : Int).toNat + (delI l.length i).toNat : Nat) : Int)).toNat z).flatten ++ (delC l i).drop ((((i : Int).toNat + (delI l.length i).toNat : Nat) : Int).toNat * 1 + ((l.length : Int) - (((i : Int).toNat + (delI l.length i).toNat : Nat) : Int)).toNat * 1) = rowC (l.eraseIdx i ++ [0]) := by
  subst hz
  have e1 : (((i : Int).toNat + (delI l.length i).toNat : Nat) : Int).toNat * 1 = l.length - 1 := by unfold delI; omega
  have e2 : ((l.length : Int) - (((i : Int).toNat + (delI l.length i).toNat : Nat) : Int)).toNat = 1 := by unfold delI; omega
  have hl : (rowC (l.eraseIdx i)).length = l.length - 1 := by rw [rowC_len, List.length_eraseIdx_of_lt hi]
  rw [e1, e2, List.drop_of_length_le (by rw [delC_len l i hi]; omega), List.append_nil, delC_eq l i hi, List.take_append_of_le_length (by omega), List.take_of_length_le (by omega), rowC_app]
  rfl
/-- Without the one at a place; what was the last place is zero. -/
theorem delete_O (l : List Int) (i : Nat) (hi : i < l.length) (hl : l.length ≤ 1000000) :
    SCall Try.prog 60 [.arr 0 l.length, int1 i, int1 (i + 1)] (.of [(0, ⟨3, 1, rowC l⟩)] 1) fun r s => r = .arr 0 (l.length - 1) ∧ s = .of [(0, ⟨3, 1, rowC (l.eraseIdx i ++ [0])⟩)] 1 := by
  refine SCall.retell (SCall.run Try.func60 rfl (Nat.le_of_ble_eq_true rfl) (by kernel_rfl) ?_)
  repeat' (first | with_reducible rfl | ((conv => whnf); first | refine And.intro ?_ ?_ | (intro h; first | exact Bool.noConfusion h | with_reducible exact h | (have ht : true = true := h; clear ht h) | skip) | ((with_reducible refine DWl.mark ?_); repeat' (first | refine DWl.cons ?_ ?_ | exact DWl.nil | exact DW.same _ rfl | exact DW.ref _ _ _ rfl | exact DW.arr _ _ _ rfl | exact DW.sub _ _ _ _ rfl | exact DW.nilLst _ | refine DW.aggl ?_ | refine DW.tupl ?_ | refine DW.clol ?_ ?_ | refine DW.int ?_ | refine DW.bool ?_ | refine DW.str ?_)) | ((with_reducible refine Tri.mark ?_); first | (refine Tri.movesN [0] [(true, 0), (true, 1), (true, 2), (true, 3), (true, 4), (true, 5), (false, 6), (false, 7)] ?_ (by kernel_rfl) ?_; rfl)) | refine AppC.here ?_ | refine dcell_ok rfl ?_ | refine AppC.new ?_))
  all_goals first | (with_reducible refine enters_mark ?_; kernel_rfl) | (with_reducible refine boolT_mark ?_; kernel_rfl) | rfl | trivial | assumption | exact Nat.le_of_ble_eq_true rfl | (show entersB _ _ = true; kernel_rfl) | exact DW.same _ rfl | exact DW.ref _ _ _ rfl | exact DW.arr _ _ _ rfl | refine DW.int ?_ | refine dvb ?_ | refine dvi ?_ | exact OW.cells rfl rfl (DWl.same rfl) | exact Nat.zero_le _ | omega | skip
  all_goals repeat' (first | refine OW.cells rfl rfl ?_ | exact DW.nilArr _ rfl | refine DWl.cons ?_ ?_ | exact DWl.nil | exact DW.same _ rfl | exact DW.ref _ _ _ rfl | exact DW.arr _ _ _ rfl | exact DW.sub _ _ _ _ rfl | exact DW.nilLst _ | refine DW.aggl ?_ | refine DW.tupl ?_ | refine DW.clol ?_ ?_)
  all_goals try ((conv => whnf); with_reducible first | refine Round.mark ?_ | refine Tells.mark ?_ | refine Retold.mark ?_)
  all_goals try first | (show (_ : Bool) = _; simp_all; done) | (show (_ : Int) < _; simp at *; omega) | (show (_ : Int) ≤ _; simp at *; omega) | (show (_ : Nat) < _; simp at *; omega) | (show (_ : Nat) ≤ _; simp at *; omega)
  · exact absurd h (by simp; omega)
  · show ((i : Int) + 1).toNat * 1 + (delI l.length i).toNat * 1 ≤ (rowC l).length
    rw [rowC_len]; unfold delI; omega
  · show (((rowC l).drop (((i : Int) + 1).toNat * 1)).take ((delI l.length i).toNat * 1)).all DV.one = true
    rw [rowC_drop, rowC_take]; exact rowC_one _
  · show ((i : Int).toNat + (delI l.length i).toNat) * 1 ≤ (rowC l).length
    rw [rowC_len]; unfold delI; omega
  · refine .inr ?_
    show ((1 : Nat) == 1 && decide (0 < 1) && decide ((l.length : Int).toNat * 1 ≤ (delC l i).length)) = true
    rw [delC_len l i hi]; simp
  · show (((i : Int).toNat + (delI l.length i).toNat : Nat) : Int).toNat * 1 + ((l.length : Int) - (((i : Int).toNat + (delI l.length i).toNat : Nat) : Int)).toNat * 1 ≤ (delC l i).length
    rw [delC_len l i hi]; unfold delI; omega
  · refine Retold.list [] [] _ [(0, ⟨3, 1, rowC (l.eraseIdx i ++ [0])⟩)] 1 (by kernel_rfl) ?_ ?_ ⟨rfl, rfl⟩
    · refine DW.arrE rfl ?_
      show (i : Int).toNat + (delI l.length i).toNat = l.length - 1
      unfold delI; omega
    · repeat' (first | exact OW.same rfl rfl (delC_end l i hi _ rfl) (rowC_all _) | ((conv => whnf); first | refine And.intro ?_ ?_ | trivial))
end Go.Proofs.Ytopdllcpeaflaaa
