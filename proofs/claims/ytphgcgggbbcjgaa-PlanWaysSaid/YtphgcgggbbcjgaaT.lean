/- Parts: the document's. -/
import Derived.Test.YtphgcgggbbcjgaaS
namespace Go.Proofs.Ytphgcgggbbcjgaa
open Go.RowKit Go.Dl
attribute [local irreducible] Tri SCall DFun QSem PCall GCall MCall Round Weak dloadE OW DWl Tells IntKind.wrap Retold ESem

def lsR (n : Nat) (l : List Lk) (k j : Nat) : Int := lsP (fun i => joinB n l k i) n k j
theorem lsR_zero (n : Nat) (l : List Lk) (k : Nat) : lsR n l k 0 = (k : Int) := rfl
theorem lsR_yes {n : Nat} {l : List Lk} {k j : Nat} (hj : j < n) (h : joinB n l k (n - 1 - j) = true) : lsR n l k (j + 1) = vI n j := by
  rw [lsR, lsP, if_pos h, vI_eq hj]
theorem lsR_no {n : Nat} {l : List Lk} {k j : Nat} (h : ¬ joinB n l k (n - 1 - j) = true) : lsR n l k (j + 1) = lsR n l k j := by
  rw [lsR, lsP, if_neg h]; rfl
theorem lf_succ (n : Nat) (l : List Lk) (k : Nat) : lfL n l (k + 1) = lfL n l k ++ [lsR n l k n] := by
  unfold lfL; rw [List.range_succ, List.map_append]; rfl
theorem lf_len (n : Nat) (l : List Lk) (k : Nat) : (lfL n l k).length = k := by simp [lfL]
theorem lf_push (n : Nat) (l : List Lk) (k : Nat) : (rowC (lfL n l k)).take (k * 1) ++ [.v (.int .i64 (lsR n l k n))] = rowC (lfL n l (k + 1)) := by
  rw [lf_succ, List.take_of_length_le (by rw [rowC_len, lf_len]; omega), rowC_map, rowC_map, List.map_append]; rfl
def o26 (n : Nat) (l : List Lk) (k : Nat) : St := ⟨0, tmOf [(0, int1 n), (1, links l), (5, .arr 0 k), (6, int1 k)], .of [(0, ⟨3, 1, rowC (lfL n l k)⟩)] 1⟩
def in26 (n : Nat) (l : List Lk) (k j : Nat) : St := ⟨0, tmOf [(0, int1 n), (1, links l), (5, .arr 0 k), (6, int1 k), (7, ints (distT n l k)), (8, int1 (lsR n l k j)), (9, int1 (vI n j))], .of [(0, ⟨3, 1, rowC (lfL n l k)⟩)] 1⟩
theorem lf_zero (n : Nat) (l : List Lk) : rowC (lfL n l 0) = [] := rfl
theorem parts_lf (n : Nat) (l : List Lk) : partsT n l = lfL n l n := rfl
attribute [local irreducible] rowC idL pfL mixL lfL distT vI mnP lsP joinB lsR partsT
set_option maxRecDepth 20000 in
set_option maxHeartbeats 1000000 in
theorem parts26_D (n : Nat) (l : List Lk) (hn : n ≤ 1000) (hl : inN n l) : DPure Try.prog 26 [int1 n, links l] (ints (partsT n l)) := by
  refine DFun.data (DFun.body Try.func26 rfl (by kernel_rfl) ?_)
  repeat' (first | with_reducible rfl | ((conv => whnf); first | refine And.intro ?_ ?_ | (intro h; first | exact Bool.noConfusion h | with_reducible exact h | (have ht : true = true := h; clear ht h) | skip) | ((with_reducible refine DWl.mark ?_); repeat' (first | refine DWl.cons ?_ ?_ | exact DWl.nil | exact DW.same _ rfl | exact DW.ref _ _ _ rfl | exact DW.arr _ _ _ rfl | exact DW.sub _ _ _ _ rfl | exact DW.nilLst _ | refine DW.aggl ?_ | refine DW.tupl ?_ | refine DW.clol ?_ ?_ | refine DW.int ?_ | refine DW.bool ?_ | refine DW.str ?_)) | ((with_reducible refine SCall.mark ?_); first | refine SCall.data (dist25_D n l _ hn hl) rfl rfl ?_) | ((with_reducible refine GCall.mark ?_); first | refine GCall.data (fun _ => dist25_D n l _ hn hl) rfl rfl ?_) | ((with_reducible refine MCall.mark ?_); first | refine MCall.data (fun _ => dist25_D n l _ hn hl) rfl rfl ?_) | ((with_reducible refine Tri.mark ?_); first | (refine Tri.at (6) (int1 0) (by rfl) ?_; refine Tri.loop (o26 n l) ((· ≤ n)) (fun k => n - k) (0) (by kernel_rfl) (Weak.list [(0, none)] [] ?_ ?_ ?_) ?_ ?_)) | refine dcell_ok rfl ?_ | refine AppC.new ?_))
  all_goals first | (with_reducible refine enters_mark ?_; kernel_rfl) | (with_reducible refine boolT_mark ?_; kernel_rfl) | rfl | trivial | assumption | exact Nat.le_of_ble_eq_true rfl | (show entersB _ _ = true; kernel_rfl) | exact DW.same _ rfl | exact DW.ref _ _ _ rfl | exact DW.arr _ _ _ rfl | refine DW.int ?_ | refine dvb ?_ | refine dvi ?_ | exact OW.cells rfl rfl (DWl.same rfl) | exact Nat.zero_le _ | omega | skip
  all_goals repeat' (first | refine OW.cells rfl rfl ?_ | exact DW.nilArr _ rfl | refine DWl.cons ?_ ?_ | exact DWl.nil | exact DW.same _ rfl | exact DW.ref _ _ _ rfl | exact DW.arr _ _ _ rfl | exact DW.sub _ _ _ _ rfl | exact DW.nilLst _ | refine DW.aggl ?_ | refine DW.tupl ?_ | refine DW.clol ?_ ?_)
  all_goals try ((conv => whnf); with_reducible first | refine Round.mark ?_ | refine Tells.mark ?_ | refine Retold.mark ?_)
  all_goals try first | (show (_ : Bool) = _; simp_all; done) | (show (_ : Int) < _; simp at *; omega) | (show (_ : Int) ≤ _; simp at *; omega) | (show (_ : Nat) < _; simp at *; omega) | (show (_ : Nat) ≤ _; simp at *; omega)
  · exact lf_zero n l
  · rename_i k hk
    have hkn := lt_int h
    have hD : (distT n l k).length = n := distT_len _ _ _
    conv => whnf
    refine Tri.loop (in26 n l k) (· ≤ n) (fun i => n - i) 0 (by kernel_rfl) (Weak.list [(0, some 0)] [] (by kernel_rfl) ?_ ?_) (Nat.zero_le _) ?_
    · repeat' (first | exact (lsR_zero n l k).symm | exact vI_zero n hn | exact DWl.eq rfl (rowC_all _) | exact DW.same _ rfl | exact DW.ref _ _ _ rfl | exact DW.arr _ _ _ rfl | exact OW.cells rfl rfl (DWl.same rfl) | refine OW.cells rfl rfl ?_ | refine DWl.cons ?_ ?_ | exact DWl.nil | exact DW.nilArr _ rfl | exact DW.nilLst _ | refine DW.clol ?_ ?_ | refine DW.aggl ?_ | refine DW.tupl ?_ | refine DW.int ?_ | refine DW.bool ?_ | refine DW.str ?_ | refine DW.arrE rfl ?_ | ((conv => whnf); first | refine And.intro ?_ ?_ | trivial))
    · repeat' (first | exact (lsR_zero n l k).symm | exact vI_zero n hn | exact DWl.eq rfl (rowC_all _) | exact DW.same _ rfl | exact DW.ref _ _ _ rfl | exact DW.arr _ _ _ rfl | exact OW.cells rfl rfl (DWl.same rfl) | refine OW.cells rfl rfl ?_ | refine DWl.cons ?_ ?_ | exact DWl.nil | exact DW.nilArr _ rfl | exact DW.nilLst _ | refine DW.clol ?_ ?_ | refine DW.aggl ?_ | refine DW.tupl ?_ | refine DW.int ?_ | refine DW.bool ?_ | refine DW.str ?_ | refine DW.arrE rfl ?_ | ((conv => whnf); first | refine And.intro ?_ ?_ | trivial))
    intro j hj
    repeat' (first | with_reducible rfl | ((conv => whnf); first | refine And.intro ?_ ?_ | (intro h; first | exact Bool.noConfusion h | with_reducible exact h | (have ht : true = true := h; clear ht h) | skip) | ((with_reducible refine DWl.mark ?_); repeat' (first | refine DWl.cons ?_ ?_ | exact DWl.nil | exact DW.same _ rfl | exact DW.ref _ _ _ rfl | exact DW.arr _ _ _ rfl | exact DW.sub _ _ _ _ rfl | exact DW.nilLst _ | refine DW.aggl ?_ | refine DW.tupl ?_ | refine DW.clol ?_ ?_ | refine DW.int ?_ | refine DW.bool ?_ | refine DW.str ?_)) | refine dloadE_map (0) ?_ ?_ | refine dcell_ok rfl ?_ | refine AppC.new ?_))
    all_goals try ((conv => whnf); with_reducible refine Round.mark ?_)
    all_goals try first | ((with_reducible show Option.isSome (slElem _ _) = true); kernel_rfl) | ((with_reducible show slElem _ _ = some _); kernel_rfl) | ((with_reducible refine enters_mark ?_); kernel_rfl) | (with_reducible assumption) | ((with_reducible show List.all _ DV.one = true); rfl) | ((with_reducible show (_ : Nat) = _); rfl) | ((with_reducible show (_ == true) = true); simpa using h) | ((with_reducible show (_ : Nat) ≤ _); exact Nat.le_of_ble_eq_true rfl) | ((with_reducible show (_ : Int) ≤ _); first | omega | decide) | ((with_reducible show (_ : Int) < _); first | omega | decide) | ((with_reducible show (_ : Nat) < _); omega) | ((with_reducible show (_ : Nat) ≤ _); omega)
    · exact of_decide_eq_true h
    · rw [List.length_map, hD, vI_eq (vI_ge.1 (of_decide_eq_true h))]
      have := vI_ge.1 (of_decide_eq_true h); omega
    · rw [hD, vI_eq (vI_ge.1 (of_decide_eq_true h))]
      have := vI_ge.1 (of_decide_eq_true h); omega
    · rename_i e1
      have hjn := vI_ge.1 (of_decide_eq_true e1)
      have hb : joinB n l k (n - 1 - j) = true := by rw [joinB_eq]; rw [vI_eq hjn] at h; exact h
      refine Round.go (· + 1) hjn (by show n - (j + 1) < n - j; omega) (Weak.list [(0, some 0)] [] (by kernel_rfl) ?_ ?_)
      · repeat' (first | exact vI_succ hn hjn | exact (lsR_yes hjn hb).symm | exact DWl.eq rfl (rowC_all _) | exact DW.same _ rfl | exact DW.ref _ _ _ rfl | exact DW.arr _ _ _ rfl | exact OW.cells rfl rfl (DWl.same rfl) | refine OW.cells rfl rfl ?_ | refine DWl.cons ?_ ?_ | exact DWl.nil | exact DW.nilArr _ rfl | exact DW.nilLst _ | refine DW.clol ?_ ?_ | refine DW.aggl ?_ | refine DW.tupl ?_ | refine DW.int ?_ | refine DW.bool ?_ | refine DW.str ?_ | refine DW.arrE rfl ?_ | ((conv => whnf); first | refine And.intro ?_ ?_ | trivial))
      · repeat' (first | exact vI_succ hn hjn | exact (lsR_yes hjn hb).symm | exact DWl.eq rfl (rowC_all _) | exact DW.same _ rfl | exact DW.ref _ _ _ rfl | exact DW.arr _ _ _ rfl | exact OW.cells rfl rfl (DWl.same rfl) | refine OW.cells rfl rfl ?_ | refine DWl.cons ?_ ?_ | exact DWl.nil | exact DW.nilArr _ rfl | exact DW.nilLst _ | refine DW.clol ?_ ?_ | refine DW.aggl ?_ | refine DW.tupl ?_ | refine DW.int ?_ | refine DW.bool ?_ | refine DW.str ?_ | refine DW.arrE rfl ?_ | ((conv => whnf); first | refine And.intro ?_ ?_ | trivial))
    · rename_i e1
      have hjn := vI_ge.1 (of_decide_eq_true e1)
      have hb : ¬ joinB n l k (n - 1 - j) = true := by rw [joinB_eq]; rw [vI_eq hjn] at h; exact fun hh => by rw [show decide (0 ≤ (distT n l (k : Int)).getD (n - 1 - j) 0) = false from h] at hh; cases hh
      refine Round.go (· + 1) hjn (by show n - (j + 1) < n - j; omega) (Weak.list [(0, some 0)] [] (by kernel_rfl) ?_ ?_)
      · repeat' (first | exact vI_succ hn hjn | exact (lsR_no hb).symm | exact DWl.eq rfl (rowC_all _) | exact DW.same _ rfl | exact DW.ref _ _ _ rfl | exact DW.arr _ _ _ rfl | exact OW.cells rfl rfl (DWl.same rfl) | refine OW.cells rfl rfl ?_ | refine DWl.cons ?_ ?_ | exact DWl.nil | exact DW.nilArr _ rfl | exact DW.nilLst _ | refine DW.clol ?_ ?_ | refine DW.aggl ?_ | refine DW.tupl ?_ | refine DW.int ?_ | refine DW.bool ?_ | refine DW.str ?_ | refine DW.arrE rfl ?_ | ((conv => whnf); first | refine And.intro ?_ ?_ | trivial))
      · repeat' (first | exact vI_succ hn hjn | exact (lsR_no hb).symm | exact DWl.eq rfl (rowC_all _) | exact DW.same _ rfl | exact DW.ref _ _ _ rfl | exact DW.arr _ _ _ rfl | exact OW.cells rfl rfl (DWl.same rfl) | refine OW.cells rfl rfl ?_ | refine DWl.cons ?_ ?_ | exact DWl.nil | exact DW.nilArr _ rfl | exact DW.nilLst _ | refine DW.clol ?_ ?_ | refine DW.aggl ?_ | refine DW.tupl ?_ | refine DW.int ?_ | refine DW.bool ?_ | refine DW.str ?_ | refine DW.arrE rfl ?_ | ((conv => whnf); first | refine And.intro ?_ ?_ | trivial))
    · show k * 1 ≤ (rowC (lfL n l k)).length
      rw [rowC_len, lf_len]; omega
    · show (k + 1) * 8 ≤ _
      omega
    · simp only [maxLen]; omega
    · have : j = n := by have := of_decide_eq_false h; rw [vI_ge] at this; omega
      subst this
      refine Round.go (· + 1) hkn (by show j - (k + 1) < j - k; omega) (Weak.list [(0, some 2)] [] (by kernel_rfl) ?_ ?_)
      · repeat' (first | exact wsucc hkn (by omega) | exact DWl.eq (lf_push j l k) (rowC_all _) | exact DW.same _ rfl | exact DW.ref _ _ _ rfl | exact DW.arr _ _ _ rfl | exact OW.cells rfl rfl (DWl.same rfl) | refine OW.cells rfl rfl ?_ | refine DWl.cons ?_ ?_ | exact DWl.nil | exact DW.nilArr _ rfl | exact DW.nilLst _ | refine DW.clol ?_ ?_ | refine DW.aggl ?_ | refine DW.tupl ?_ | refine DW.int ?_ | refine DW.bool ?_ | refine DW.str ?_ | refine DW.arrE rfl ?_ | ((conv => whnf); first | refine And.intro ?_ ?_ | trivial))
      · repeat' (first | exact wsucc hkn (by omega) | exact DWl.eq (lf_push j l k) (rowC_all _) | exact DW.same _ rfl | exact DW.ref _ _ _ rfl | exact DW.arr _ _ _ rfl | exact OW.cells rfl rfl (DWl.same rfl) | refine OW.cells rfl rfl ?_ | refine DWl.cons ?_ ?_ | exact DWl.nil | exact DW.nilArr _ rfl | exact DW.nilLst _ | refine DW.clol ?_ ?_ | refine DW.aggl ?_ | refine DW.tupl ?_ | refine DW.int ?_ | refine DW.bool ?_ | refine DW.str ?_ | refine DW.arrE rfl ?_ | ((conv => whnf); first | refine And.intro ?_ ?_ | trivial))
  · rename_i k hk
    have : k = n := by have := ge_int h; omega
    subst this
    exact Tells.of (r1 := ints (lfL k l k)) (by rw [parts_lf]) (Tells.mk (DW.pubM rfl (lf_len _ _ _) rfl rfl (intsRow _) (rowC_eq _)))
end Go.Proofs.Ytphgcgggbbcjgaa
