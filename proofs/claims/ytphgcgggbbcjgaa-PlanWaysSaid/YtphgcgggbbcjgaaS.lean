/- Parts: the program's and the document's. -/
import Derived.Test.YtphgcgggbbcjgaaQ
namespace Go.Proofs.Ytphgcgggbbcjgaa
open Go.RowKit Go.Dl
attribute [local irreducible] Tri SCall DFun QSem PCall GCall MCall Round Weak dloadE OW DWl Tells IntKind.wrap Retold ESem

def vI (n k : Nat) : Int := (n : Int) - 1 - k
theorem vI_eq {n k : Nat} (h : k < n) : vI n k = ((n - 1 - k : Nat) : Int) := by unfold vI; omega
theorem vI_ge {n k : Nat} : 0 ≤ vI n k ↔ k < n := by unfold vI; omega
theorem vI_zero (n : Nat) (h : n ≤ 1000) : IntKind.i64.wrap ((n : Int) - 1) = vI n 0 := by rw [wrapI (by omega) (by omega)]; unfold vI; omega
theorem vI_succ {n k : Nat} (h : n ≤ 1000) (hk : k < n) : IntKind.i64.wrap (vI n k - 1) = vI n (k + 1) := by unfold vI; rw [wrapI (by omega) (by omega)]; omega
def idL (n k : Nat) : List Int := ((List.range k).map fun (x : Nat) => (x : Int)) ++ List.replicate (n - k) 0
theorem id_len {n k : Nat} (h : k ≤ n) : (idL n k).length = n := by simp [idL]; omega
theorem id0 (n : Nat) : (List.replicate ((n : Int).toNat) [DV.v (.int .i64 0)]).flatten = rowC (idL n 0) := by
  rw [Int.toNat_natCast]
  simp [rowC, idL, intD]
theorem id_set {n k : Nat} (h : k < n) : (idL n k).set k (k : Int) = idL n (k + 1) := by
  unfold idL
  rw [List.set_append_right _ _ (by simp), List.length_map, List.length_range, Nat.sub_self, List.range_succ, List.map_append, List.append_assoc, show n - k = (n - (k + 1)) + 1 by omega, List.replicate_succ]
  rfl
theorem id_all (n : Nat) (l : List Lk) : idL n n = pfL n l 0 := by simp [idL, pfL, mnP]
def fillSt19 (n : Nat) (l : List Lk) (k : Nat) : St := ⟨0, tmOf [(0, int1 n), (1, links l), (5, .arr 0 n), (13, int1 n), (14, int1 k)], .of [(0, ⟨3, 1, rowC (idL n k)⟩)] 1⟩
def outSt19 (n : Nat) (l : List Lk) (k : Nat) : St := ⟨0, tmOf [(0, int1 n), (1, links l), (5, .arr 0 n), (7, int1 (vI n k))], .of [(0, ⟨3, 1, rowC (pfL n l k)⟩)] 1⟩
def inSt19 (n : Nat) (l : List Lk) (k i : Nat) : St := ⟨0, tmOf [(0, int1 n), (1, links l), (5, .arr 0 n), (7, int1 (vI n k)), (31, ints (distT n l (vI n k))), (32, int1 ((distT n l (vI n k)).map intD).length), (33, int1 i)], .of [(0, ⟨3, 1, rowC (mixL n l k i)⟩)] 1⟩
theorem joinB_eq (n : Nat) (l : List Lk) (v x : Nat) : joinB n l v x = decide (0 ≤ (distT n l (v : Int)).getD x 0) := rfl
theorem mix_go {n : Nat} {l : List Lk} {k i : Nat} (hk : k < n) (hi : i < n) (hj : joinB n l (n - 1 - k) i = true) :
    (mixL n l k i).set ((i : Int).toNat * 1) (if vI n k < (mixL n l k i).getD ((i : Int).toNat * 1) 0 then vI n k else (mixL n l k i).getD ((i : Int).toNat * 1) 0) = mixL n l k (i + 1) := by
  rw [Int.toNat_natCast, Nat.mul_one, mix_get hi, vI_eq hk]
  exact mix_set hi (by rw [mnP, if_pos hj])
attribute [local irreducible] rowC idL pfL mixL lfL distT vI mnP lsP joinB OwnR
set_option maxRecDepth 20000 in
set_option maxHeartbeats 1000000 in
theorem parts19_O (n : Nat) (l : List Lk) (hn : n ≤ 1000) (hl : inN n l) : DFun Try.prog 19 [int1 n, links l] (OwnR n (partsT n l)) := by
  refine DFun.body Try.func19 rfl (by kernel_rfl) ?_
  repeat' (first | with_reducible rfl | ((conv => whnf); first | refine And.intro ?_ ?_ | (intro h; first | exact Bool.noConfusion h | with_reducible exact h | (have ht : true = true := h; clear ht h) | skip) | ((with_reducible refine DWl.mark ?_); repeat' (first | refine DWl.cons ?_ ?_ | exact DWl.nil | exact DW.same _ rfl | exact DW.ref _ _ _ rfl | exact DW.arr _ _ _ rfl | exact DW.sub _ _ _ _ rfl | exact DW.nilLst _ | refine DW.aggl ?_ | refine DW.tupl ?_ | refine DW.clol ?_ ?_ | refine DW.int ?_ | refine DW.bool ?_ | refine DW.str ?_)) | ((with_reducible refine SCall.mark ?_); first | refine SCall.data (dist18_D n l _ hn hl) rfl rfl ?_) | ((with_reducible refine GCall.mark ?_); first | refine GCall.data (fun _ => dist18_D n l _ hn hl) rfl rfl ?_) | ((with_reducible refine MCall.mark ?_); first | refine MCall.data (fun _ => dist18_D n l _ hn hl) rfl rfl ?_) | ((with_reducible refine Tri.mark ?_); first | (refine Tri.at (14) (int1 0) (by rfl) ?_; refine Tri.loop (fillSt19 n l) ((· ≤ n)) (fun k => n - k) (0) (by kernel_rfl) (Weak.list [(0, some 0)] [] ?_ ?_ ?_) ?_ ?_) | (refine Tri.at (7) (int1 (IntKind.i64.wrap ((n : Int) - 1))) (by rfl) ?_; refine Tri.loop (outSt19 n l) ((· ≤ n)) (fun k => n - k) (0) (by kernel_rfl) (Weak.list [(0, some 0)] [] ?_ ?_ ?_) ?_ ?_)) | refine dloadE_map (0) ?_ ?_ | refine dcell_row ?_ ?_ | refine dcell_ok rfl ?_ | refine AppC.new ?_))
  all_goals first | (with_reducible refine enters_mark ?_; kernel_rfl) | (with_reducible refine boolT_mark ?_; kernel_rfl) | rfl | trivial | assumption | exact Nat.le_of_ble_eq_true rfl | (show entersB _ _ = true; kernel_rfl) | exact DW.same _ rfl | exact DW.ref _ _ _ rfl | exact DW.arr _ _ _ rfl | refine DW.int ?_ | refine dvb ?_ | refine dvi ?_ | exact OW.cells rfl rfl (DWl.same rfl) | exact Nat.zero_le _ | omega | skip
  all_goals repeat' (first | refine OW.cells rfl rfl ?_ | exact DW.nilArr _ rfl | refine DWl.cons ?_ ?_ | exact DWl.nil | exact DW.same _ rfl | exact DW.ref _ _ _ rfl | exact DW.arr _ _ _ rfl | exact DW.sub _ _ _ _ rfl | exact DW.nilLst _ | refine DW.aggl ?_ | refine DW.tupl ?_ | refine DW.clol ?_ ?_)
  all_goals try ((conv => whnf); with_reducible first | refine Round.mark ?_ | refine Tells.mark ?_ | refine Retold.mark ?_)
  all_goals try first | (show (_ : Bool) = _; simp_all; done) | (show (_ : Int) < _; simp at *; omega) | (show (_ : Int) ≤ _; simp at *; omega) | (show (_ : Nat) < _; simp at *; omega) | (show (_ : Nat) ≤ _; simp at *; omega)
  · show (n : Int) * 8 ≤ _
    omega
  · exact DWl.eq (id0 n) (rowC_all _)
  · rename_i k hk
    show (k : Int).toNat * 1 + 1 ≤ (rowC (idL n k)).length
    have := lt_int h
    rw [rowC_len, id_len hk]; omega
  · rename_i k hk
    have hkn := lt_int h
    refine Round.go (· + 1) hkn (by show n - (k + 1) < n - k; omega) (Weak.list [(0, some 0)] [] (by kernel_rfl) ?_ ?_)
    · repeat' (first | exact wsucc hkn (by omega) | exact DWl.eq ((rowC_set _ _ _).trans (congrArg rowC (by rw [Int.toNat_natCast, Nat.mul_one]; exact id_set hkn))) (rowC_all _) | exact DW.same _ rfl | exact DW.ref _ _ _ rfl | exact DW.arr _ _ _ rfl | exact OW.cells rfl rfl (DWl.same rfl) | refine OW.cells rfl rfl ?_ | refine DWl.cons ?_ ?_ | exact DWl.nil | exact DW.nilArr _ rfl | exact DW.nilLst _ | refine DW.clol ?_ ?_ | refine DW.aggl ?_ | refine DW.tupl ?_ | refine DW.int ?_ | refine DW.bool ?_ | refine DW.str ?_ | refine DW.arrE rfl ?_ | ((conv => whnf); first | refine And.intro ?_ ?_ | trivial))
    · repeat' (first | exact wsucc hkn (by omega) | exact DWl.eq ((rowC_set _ _ _).trans (congrArg rowC (by rw [Int.toNat_natCast, Nat.mul_one]; exact id_set hkn))) (rowC_all _) | exact DW.same _ rfl | exact DW.ref _ _ _ rfl | exact DW.arr _ _ _ rfl | exact OW.cells rfl rfl (DWl.same rfl) | refine OW.cells rfl rfl ?_ | refine DWl.cons ?_ ?_ | exact DWl.nil | exact DW.nilArr _ rfl | exact DW.nilLst _ | refine DW.clol ?_ ?_ | refine DW.aggl ?_ | refine DW.tupl ?_ | refine DW.int ?_ | refine DW.bool ?_ | refine DW.str ?_ | refine DW.arrE rfl ?_ | ((conv => whnf); first | refine And.intro ?_ ?_ | trivial))
  · exact vI_zero n hn
  · rename_i k hk
    have : k = n := by have := ge_int h; omega
    subst this
    exact DWl.eq (congrArg rowC (id_all k l)) (rowC_all _)
  · rename_i k0 hk0 e0 k hk
    have hkn : k < n := vI_ge.1 (of_decide_eq_true h)
    have hD : (distT n l (vI n k)).length = n := distT_len _ _ _
    conv => whnf
    refine Tri.loop (inSt19 n l k) (· ≤ n) (fun i => n - i) 0 (by kernel_rfl) (Weak.list [(0, some 0)] [] (by kernel_rfl) ?_ ?_) (Nat.zero_le _) ?_
    · repeat' (first | exact DWl.eq (congrArg rowC (mix_zero n l k).symm) (rowC_all _) | exact DW.same _ rfl | exact DW.ref _ _ _ rfl | exact DW.arr _ _ _ rfl | exact OW.cells rfl rfl (DWl.same rfl) | refine OW.cells rfl rfl ?_ | refine DWl.cons ?_ ?_ | exact DWl.nil | exact DW.nilArr _ rfl | exact DW.nilLst _ | refine DW.clol ?_ ?_ | refine DW.aggl ?_ | refine DW.tupl ?_ | refine DW.int ?_ | refine DW.bool ?_ | refine DW.str ?_ | refine DW.arrE rfl ?_ | ((conv => whnf); first | refine And.intro ?_ ?_ | trivial))
    · repeat' (first | exact DWl.eq (congrArg rowC (mix_zero n l k).symm) (rowC_all _) | exact DW.same _ rfl | exact DW.ref _ _ _ rfl | exact DW.arr _ _ _ rfl | exact OW.cells rfl rfl (DWl.same rfl) | refine OW.cells rfl rfl ?_ | refine DWl.cons ?_ ?_ | exact DWl.nil | exact DW.nilArr _ rfl | exact DW.nilLst _ | refine DW.clol ?_ ?_ | refine DW.aggl ?_ | refine DW.tupl ?_ | refine DW.int ?_ | refine DW.bool ?_ | refine DW.str ?_ | refine DW.arrE rfl ?_ | ((conv => whnf); first | refine And.intro ?_ ?_ | trivial))
    intro i hi
    have hml : (mixL n l k i).length = n := mix_len _ _ _ _
    repeat' (first | with_reducible rfl | ((conv => whnf); first | refine And.intro ?_ ?_ | (intro h; first | exact Bool.noConfusion h | with_reducible exact h | (have ht : true = true := h; clear ht h) | skip) | ((with_reducible refine DWl.mark ?_); repeat' (first | refine DWl.cons ?_ ?_ | exact DWl.nil | exact DW.same _ rfl | exact DW.ref _ _ _ rfl | exact DW.arr _ _ _ rfl | exact DW.sub _ _ _ _ rfl | exact DW.nilLst _ | refine DW.aggl ?_ | refine DW.tupl ?_ | refine DW.clol ?_ ?_ | refine DW.int ?_ | refine DW.bool ?_ | refine DW.str ?_)) | refine dloadE_map (0) ?_ ?_ | refine dcell_row ?_ ?_ | refine dcell_ok rfl ?_ | refine AppC.new ?_))
    all_goals try ((conv => whnf); with_reducible refine Round.mark ?_)
    all_goals try first | ((with_reducible show (_ : Int) < _); rw [List.length_map, hD]; have := lt_of_test h; omega) | ((with_reducible show (_ : Nat) < _); rw [hD]; have := lt_of_test h; omega) | ((with_reducible show Option.isSome (slElem _ _) = true); kernel_rfl) | ((with_reducible show slElem _ _ = some _); kernel_rfl) | ((with_reducible refine enters_mark ?_); kernel_rfl) | (with_reducible assumption) | ((with_reducible show List.all _ DV.one = true); rfl) | ((with_reducible show (_ : Nat) = _); rfl) | ((with_reducible show (_ == true) = true); simpa using h) | ((with_reducible show (_ : Nat) ≤ _); exact Nat.le_of_ble_eq_true rfl) | ((with_reducible show (_ : Int) ≤ _); first | omega | decide) | ((with_reducible show (_ : Int) < _); first | omega | decide) | ((with_reducible show (_ : Nat) < _); omega) | ((with_reducible show (_ : Nat) ≤ _); omega)
    · rename_i e1
      have := lt_of_test e1; omega
    · rename_i e1
      have := lt_of_test e1; omega
    · rename_i e1
      have := lt_of_test e1; omega
    · rename_i e1
      show (i : Int).toNat * 1 + 1 ≤ (rowC (mixL n l k i)).length
      have := lt_of_test e1; rw [rowC_len]; omega
    · rename_i e1
      have hin : i < n := by have := lt_of_test e1; omega
      have hj : joinB n l (n - 1 - k) i = true := by rw [joinB_eq, ← vI_eq hkn]; exact h
      refine Round.go (· + 1) hin (by show n - (i + 1) < n - i; omega) (Weak.list [(0, some 0)] [] (by kernel_rfl) ?_ ?_)
      · repeat' (first | exact wsucc hin (by omega) | exact DWl.eq ((rowC_set _ _ _).trans (congrArg rowC (mix_go hkn hin hj))) (rowC_all _) | exact DW.same _ rfl | exact DW.ref _ _ _ rfl | exact DW.arr _ _ _ rfl | exact OW.cells rfl rfl (DWl.same rfl) | refine OW.cells rfl rfl ?_ | refine DWl.cons ?_ ?_ | exact DWl.nil | exact DW.nilArr _ rfl | exact DW.nilLst _ | refine DW.clol ?_ ?_ | refine DW.aggl ?_ | refine DW.tupl ?_ | refine DW.int ?_ | refine DW.bool ?_ | refine DW.str ?_ | refine DW.arrE rfl ?_ | ((conv => whnf); first | refine And.intro ?_ ?_ | trivial))
      · repeat' (first | exact wsucc hin (by omega) | exact DWl.eq ((rowC_set _ _ _).trans (congrArg rowC (mix_go hkn hin hj))) (rowC_all _) | exact DW.same _ rfl | exact DW.ref _ _ _ rfl | exact DW.arr _ _ _ rfl | exact OW.cells rfl rfl (DWl.same rfl) | refine OW.cells rfl rfl ?_ | refine DWl.cons ?_ ?_ | exact DWl.nil | exact DW.nilArr _ rfl | exact DW.nilLst _ | refine DW.clol ?_ ?_ | refine DW.aggl ?_ | refine DW.tupl ?_ | refine DW.int ?_ | refine DW.bool ?_ | refine DW.str ?_ | refine DW.arrE rfl ?_ | ((conv => whnf); first | refine And.intro ?_ ?_ | trivial))
    · rename_i e1
      have hin : i < n := by have := lt_of_test e1; omega
      have hj : ¬ joinB n l (n - 1 - k) i = true := by rw [joinB_eq, ← vI_eq hkn]; exact fun hh => by rw [show decide (0 ≤ (distT n l (vI n k)).getD i 0) = false from h] at hh; cases hh
      refine Round.go (· + 1) hin (by show n - (i + 1) < n - i; omega) (Weak.list [(0, some 0)] [] (by kernel_rfl) ?_ ?_)
      · repeat' (first | exact wsucc hin (by omega) | exact DWl.eq (congrArg rowC (mix_keep hin hj)) (rowC_all _) | exact DW.same _ rfl | exact DW.ref _ _ _ rfl | exact DW.arr _ _ _ rfl | exact OW.cells rfl rfl (DWl.same rfl) | refine OW.cells rfl rfl ?_ | refine DWl.cons ?_ ?_ | exact DWl.nil | exact DW.nilArr _ rfl | exact DW.nilLst _ | refine DW.clol ?_ ?_ | refine DW.aggl ?_ | refine DW.tupl ?_ | refine DW.int ?_ | refine DW.bool ?_ | refine DW.str ?_ | refine DW.arrE rfl ?_ | ((conv => whnf); first | refine And.intro ?_ ?_ | trivial))
      · repeat' (first | exact wsucc hin (by omega) | exact DWl.eq (congrArg rowC (mix_keep hin hj)) (rowC_all _) | exact DW.same _ rfl | exact DW.ref _ _ _ rfl | exact DW.arr _ _ _ rfl | exact OW.cells rfl rfl (DWl.same rfl) | refine OW.cells rfl rfl ?_ | refine DWl.cons ?_ ?_ | exact DWl.nil | exact DW.nilArr _ rfl | exact DW.nilLst _ | refine DW.clol ?_ ?_ | refine DW.aggl ?_ | refine DW.tupl ?_ | refine DW.int ?_ | refine DW.bool ?_ | refine DW.str ?_ | refine DW.arrE rfl ?_ | ((conv => whnf); first | refine And.intro ?_ ?_ | trivial))
    · have : i = n := by have := ge_of_test h; omega
      subst this
      refine Round.go (· + 1) hkn (by show i - (k + 1) < i - k; omega) (Weak.list [(0, some 0)] [] (by kernel_rfl) ?_ ?_)
      · repeat' (first | exact vI_succ hn hkn | exact DWl.eq (congrArg rowC (mix_all i l k)) (rowC_all _) | exact DW.same _ rfl | exact DW.ref _ _ _ rfl | exact DW.arr _ _ _ rfl | exact OW.cells rfl rfl (DWl.same rfl) | refine OW.cells rfl rfl ?_ | refine DWl.cons ?_ ?_ | exact DWl.nil | exact DW.nilArr _ rfl | exact DW.nilLst _ | refine DW.clol ?_ ?_ | refine DW.aggl ?_ | refine DW.tupl ?_ | refine DW.int ?_ | refine DW.bool ?_ | refine DW.str ?_ | refine DW.arrE rfl ?_ | ((conv => whnf); first | refine And.intro ?_ ?_ | trivial))
      · repeat' (first | exact vI_succ hn hkn | exact DWl.eq (congrArg rowC (mix_all i l k)) (rowC_all _) | exact DW.same _ rfl | exact DW.ref _ _ _ rfl | exact DW.arr _ _ _ rfl | exact OW.cells rfl rfl (DWl.same rfl) | refine OW.cells rfl rfl ?_ | refine DWl.cons ?_ ?_ | exact DWl.nil | exact DW.nilArr _ rfl | exact DW.nilLst _ | refine DW.clol ?_ ?_ | refine DW.aggl ?_ | refine DW.tupl ?_ | refine DW.int ?_ | refine DW.bool ?_ | refine DW.str ?_ | refine DW.arrE rfl ?_ | ((conv => whnf); first | refine And.intro ?_ ?_ | trivial))
  · rename_i k0 hk0 e0 k hk
    have : k = n := by have := of_decide_eq_false h; rw [vI_ge] at this; omega
    subst this
    conv => whnf
    exact OwnR.of (pf_parts hl)
theorem partsT_len (n : Nat) (l : List Lk) : (partsT n l).length = n := by simp [partsT, lfL]
theorem parts19_D (n : Nat) (l : List Lk) (hn : n ≤ 1000) (hl : inN n l) : DPure Try.prog 19 [int1 n, links l] (ints (partsT n l)) := OwnR.data (partsT_len n l) (parts19_O n l hn hl)
end Go.Proofs.Ytphgcgggbbcjgaa
