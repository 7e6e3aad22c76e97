/- What TraceTwice computes. -/
import Derived.Test.YtkfbaeljcajjbaaGreatDoorPkV
import Derived.Test.YtkfbaeljcajjbaaGreatDoorPkF
import Derived.Test.YtkfbaeljcajjbaaGreatDoorPkU
import Derived.Test.YtkfbaeljcajjbaaGreatDoorPkZ
import Derived.Test.YtkfbaeljcajjbaaGreatDoorDl27
import Derived.ChangeMaps5

namespace Go.Proofs.YtkfbaeljcajjbaaGreatDoor
open Go.RowKit Go.Dl
attribute [local irreducible] Tri SCall TSem ECall Drawn DFun QSem PSem PCall GCall MCall Round Weak dloadE OW DWl Tells IntKind.wrap Retold ESem
theorem sel_idem (f : Fil) (l : List Mo) : selT f (selT f l) = selT f l := by
  unfold selT
  rw [List.filter_filter]
  congr 1
  funext m
  exact Bool.and_self _
theorem sel_comm (f g : Fil) (l : List Mo) : selT g (selT f l) = selT f (selT g l) := by
  unfold selT
  rw [List.filter_filter, List.filter_filter]
  congr 1
  funext m
  exact Bool.and_comm _ _
theorem sel_small {f : Fil} {l : List Mo} (hl : l.length * 56 ≤ 140737488355328) : (selT f l).length * 56 ≤ 140737488355328 := by
  have : (selT f l).length ≤ l.length := List.length_filter_le _ _
  omega
theorem same_self (l : List Mo) : DPure Tryz.prog 15 [mos l, mos l] (bl true) := by
  have := same15_D l l
  rw [decide_eq_true rfl] at this
  exact this
theorem mat_len (M : Nat → Nat → Int) : (matL M).length = 16 := rfl
theorem mat_row (M : Nat → Nat → Int) {i : Nat} (hi : i < 16) : (matL M).getD i [] = rowI M i := by
  have : i = 0 ∨ i = 1 ∨ i = 2 ∨ i = 3 ∨ i = 4 ∨ i = 5 ∨ i = 6 ∨ i = 7 ∨ i = 8 ∨ i = 9 ∨ i = 10 ∨ i = 11 ∨ i = 12 ∨ i = 13 ∨ i = 14 ∨ i = 15 := by omega
  rcases this with rfl | rfl | rfl | rfl | rfl | rfl | rfl | rfl | rfl | rfl | rfl | rfl | rfl | rfl | rfl | rfl <;> rfl
theorem row_at (M : Nat → Nat → Int) (a : Nat) {j : Nat} (hj : j < 7) : (rowI M a).getD j 0 = M a j := by
  have : j = 0 ∨ j = 1 ∨ j = 2 ∨ j = 3 ∨ j = 4 ∨ j = 5 ∨ j = 6 := by omega
  rcases this with rfl | rfl | rfl | rfl | rfl | rfl | rfl <;> rfl
theorem count16_L (l : List Mo) (hl : l.length * 56 ≤ 140737488355328) : DPure Tryz.prog 16 [mos l, int1 16] (.lst 1 ((matL (cntM l)).map fun r => [ints r])) := by
  have := count16_D l hl
  rw [matD, List.map_map] at this
  exact this
def t1St (l : List Mo) (k : Nat) : St := ⟨0, tmOf [(0, mos l), (8, int1 (countN (l.take k))), (9, int1 0), (37, mos l), (38, int1 (l.map moD).length), (39, int1 k)], .of [] 0⟩
def sumO (l : List Mo) (i : Nat) : Int := sumR (fun a => sumR (cntM l a) 7) i
def sumI (l : List Mo) (i j : Nat) : Int := sumO l i + sumR (cntM l i) j
def outSt (l : List Mo) (i : Nat) : St := ⟨0, tmOf [(8, int1 (countN l)), (9, int1 (sumO l i)), (67, .lst 1 ((matL (cntM l)).map fun r => [ints r])), (68, int1 16), (69, int1 i)], .of [] 0⟩
def innSt (l : List Mo) (i j : Nat) : St := ⟨0, tmOf [(8, int1 (countN l)), (9, int1 (sumI l i j)), (67, .lst 1 ((matL (cntM l)).map fun r => [ints r])), (68, int1 16), (69, int1 i), (73, ints (rowI (cntM l) i)), (74, int1 7), (75, int1 j)], .of [] 0⟩
theorem sumO_next (l : List Mo) (i : Nat) : sumI l i 7 = sumO l (i + 1) := rfl
theorem sumI_zero (l : List Mo) (i : Nat) : sumO l i = sumI l i 0 := (Int.add_zero _).symm
theorem sumI_next (l : List Mo) (i j : Nat) : sumI l i j + cntM l i j = sumI l i (j + 1) := by unfold sumI; show _ = sumO l i + (sumR (cntM l i) j + cntM l i j); omega
theorem sumI_in (l : List Mo) {i j : Nat} (hi : i < 16) (hj : j ≤ 7) : 0 ≤ sumI l i j ∧ sumI l i j ≤ (l.length : Nat) := by
  obtain ⟨h1, h2⟩ := all_count l
  have h3 := countN_le l
  have hn : ∀ b, 0 ≤ sumR (cntM l b) 7 := fun b => sumR_nn (h2 b) 7
  have h4 := sumR_le (h2 i) hj
  have h5 := sumR_nn (h2 i) j
  have h6 := sumR_le (f := fun b => sumR (cntM l b) 7) hn (i := i + 1) (n := 16) (by omega)
  have h7 := sumR_nn (f := fun b => sumR (cntM l b) 7) hn i
  have h8 : sumR (fun b => sumR (cntM l b) 7) (i + 1) = sumR (fun b => sumR (cntM l b) 7) i + sumR (cntM l i) 7 := rfl
  unfold allM at h1
  unfold sumI sumO
  omega
theorem sumO_all (l : List Mo) : sumO l 16 = countN l := (all_count l).1
theorem count_next {l : List Mo} {k : Nat} (hk : k < l.length) : countN (l.take (k + 1)) = if inB (l.getD ((k : Nat) : Int).toNat mo0) = true then countN (l.take k) + 1 else countN (l.take k) := by
  rw [take_succ (d := mo0) hk, countN_app, Int.toNat_natCast]
theorem count_wrap {l : List Mo} {k : Nat} (hk : k < l.length) (hl : l.length * 56 ≤ 140737488355328) : IntKind.i64.wrap (countN (l.take k) + 1) = countN (l.take k) + 1 := by
  have h1 := countN_nn (l.take k)
  have h2 := countN_le (l.take k)
  have h3 : (l.take k).length ≤ l.length := by rw [List.length_take]; omega
  exact wrapI (by omega) (by omega)
theorem sum_wrap {l : List Mo} {i j : Nat} (hi : i < 16) (hj : j < 7) (hl : l.length * 56 ≤ 140737488355328) : IntKind.i64.wrap (sumI l i j + cntM l i j) = sumI l i (j + 1) := by
  rw [sumI_next]
  have := sumI_in l hi (j := j + 1) (by omega)
  exact wrapI (by omega) (by omega)
theorem count_zero (l : List Mo) : 0 = countN (l.take 0) := rfl
theorem sumO_zero (l : List Mo) : 0 = sumO l 0 := rfl
theorem count_yes {l : List Mo} {k : Nat} (hk : k < l.length) (hl : l.length * 56 ≤ 140737488355328) (h : inB (l.getD ((k : Nat) : Int).toNat mo0) = true) : IntKind.i64.wrap (countN (l.take k) + 1) = countN (l.take (k + 1)) := by
  rw [count_wrap hk hl, count_next hk, if_pos h]
theorem count_no {l : List Mo} {k : Nat} (hk : k < l.length) (h : inB (l.getD ((k : Nat) : Int).toNat mo0) = false) : countN (l.take k) = countN (l.take (k + 1)) := by
  rw [count_next hk, if_neg (by rw [h]; decide)]
theorem count_all {l : List Mo} {k : Nat} (hk : l.length ≤ k) : countN (l.take k) = countN l := by rw [List.take_of_length_le hk]
theorem mat_int (l : List Mo) : (((matL (cntM l)).map fun r => [ints r]).length : Int) = 16 := rfl
theorem lt16 {i : Nat} (h : decide ((i : Int) < 16) = true) : i < 16 := by have := of_decide_eq_true h; omega
theorem ge16 {i : Nat} (h : decide ((i : Int) < 16) = false) : 16 ≤ i := by have := of_decide_eq_false h; omega
theorem lt7 {i : Nat} (h : decide ((i : Int) < 7) = true) : i < 7 := by have := of_decide_eq_true h; omega
theorem ge7 {i : Nat} (h : decide ((i : Int) < 7) = false) : 7 ≤ i := by have := of_decide_eq_false h; omega
theorem in16 (l : List Mo) {i : Nat} (h : i < 16) : (i : Int) < (((matL (cntM l)).map fun r => [ints r]).length : Nat) := by rw [List.length_map, mat_len]; omega
theorem at16 (l : List Mo) {i : Nat} (h : i < 16) : ((i : Nat) : Int).toNat < (matL (cntM l)).length := by rw [mat_len]; omega
theorem row_is (l : List Mo) {i : Nat} (h : i < 16) : ((matL (cntM l)).getD ((i : Nat) : Int).toNat []).map intD = (rowI (cntM l) i).map intD := by rw [Int.toNat_natCast, mat_row _ h]
theorem row_len (l : List Mo) {i : Nat} (h : i < 16) : ((((matL (cntM l)).getD ((i : Nat) : Int).toNat []).map intD).length : Int) = 7 := by rw [row_is l h]; rfl
theorem in7 (l : List Mo) (i : Nat) {j : Nat} (h : j < 7) : (j : Int) < (((rowI (cntM l) i).map intD).length : Nat) := by rw [List.length_map, show (rowI (cntM l) i).length = 7 from rfl]; omega
theorem at7 (l : List Mo) (i : Nat) {j : Nat} (h : j < 7) : ((j : Nat) : Int).toNat < (rowI (cntM l) i).length := by rw [show (rowI (cntM l) i).length = 7 from rfl]; omega
theorem sum_at {l : List Mo} {i j : Nat} (hi : i < 16) (hj : j < 7) (hl : l.length * 56 ≤ 140737488355328) : IntKind.i64.wrap (sumI l i j + (rowI (cntM l) i).getD ((j : Nat) : Int).toNat 0) = sumI l i (j + 1) := by
  rw [Int.toNat_natCast, row_at _ _ hj]; exact sum_wrap hi hj hl
attribute [local irreducible] selT passB countN cntM matL rowI sumR sumO sumI
set_option maxRecDepth 20000 in
set_option maxHeartbeats 4000000 in
theorem twice5_D (l : List Mo) (f g : Fil) (hl : l.length * 56 ≤ 140737488355328) : DPure Tryz.prog 5 [mos l, .agg (filD f), .agg (filD g)] (bl true) := by
  have h1 := select14_G l f hl
  have h2 := select14_G (selT f l) f (sel_small hl)
  rw [sel_idem] at h2
  have h3 := select14_G (selT f l) g (sel_small hl)
  have h4 := select14_G l g hl
  have h5 := select14_G (selT g l) f (sel_small hl)
  rw [← sel_comm] at h5
  have s1 := same_self (selT f l)
  have s2 := same_self (selT g (selT f l))
  refine DFun.data (DFun.body Tryz.func5 rfl (by kernel_rfl) ?_)
  repeat' (first | with_reducible rfl | ((conv => whnf); first | refine And.intro ?_ ?_ | (intro h; first | with_reducible exact tf_no h | with_reducible exact ft_no h | exact Bool.noConfusion h | with_reducible exact h | (refine not_t h ?_; rfl) | (refine not_f h ?_; rfl) | (have ht : true = true := h; clear ht h) | skip) | ((with_reducible refine DWl.mark ?_); repeat' (first | refine DWl.cons ?_ ?_ | exact DWl.nil | exact DW.same _ rfl | exact DW.ref _ _ _ rfl | exact DW.arr _ _ _ rfl | exact DW.sub _ _ _ _ rfl | exact DW.nilLst _ | refine DW.aggl ?_ | refine DW.tupl ?_ | refine DW.clol ?_ ?_ | refine DW.int ?_ | refine DW.bool ?_ | refine DW.str ?_)) | ((with_reducible refine SCall.mark ?_); first | refine SCall.data (h1) rfl rfl ?_ | refine SCall.scal (h1) rfl rfl ?_ | refine SCall.data (h2) rfl rfl ?_ | refine SCall.scal (h2) rfl rfl ?_ | refine SCall.data (h3) rfl rfl ?_ | refine SCall.scal (h3) rfl rfl ?_ | refine SCall.data (h4) rfl rfl ?_ | refine SCall.scal (h4) rfl rfl ?_ | refine SCall.data (h5) rfl rfl ?_ | refine SCall.scal (h5) rfl rfl ?_ | refine SCall.data (s1) rfl rfl ?_ | refine SCall.scal (s1) rfl rfl ?_ | refine SCall.data (s2) rfl rfl ?_ | refine SCall.scal (s2) rfl rfl ?_ | refine SCall.data (count16_L l hl) rfl rfl ?_ | refine SCall.scal (count16_L l hl) rfl rfl ?_ | refine SCall.data (awake13_D) rfl rfl ?_ | refine SCall.scal (awake13_D) rfl rfl ?_) | ((with_reducible refine PCall.mark ?_); first | refine PCall.mk (h1) rfl rfl ?_ | refine PCall.mk (h2) rfl rfl ?_ | refine PCall.mk (h3) rfl rfl ?_ | refine PCall.mk (h4) rfl rfl ?_ | refine PCall.mk (h5) rfl rfl ?_ | refine PCall.mk (s1) rfl rfl ?_ | refine PCall.mk (s2) rfl rfl ?_ | refine PCall.mk (count16_L l hl) rfl rfl ?_ | refine PCall.mk (awake13_D) rfl rfl ?_) | ((with_reducible refine GCall.mark ?_); first | refine GCall.data (fun _ => h1) rfl rfl ?_ | refine GCall.scal (fun _ => h1) rfl rfl ?_ | refine GCall.data (fun _ => h2) rfl rfl ?_ | refine GCall.scal (fun _ => h2) rfl rfl ?_ | refine GCall.data (fun _ => h3) rfl rfl ?_ | refine GCall.scal (fun _ => h3) rfl rfl ?_ | refine GCall.data (fun _ => h4) rfl rfl ?_ | refine GCall.scal (fun _ => h4) rfl rfl ?_ | refine GCall.data (fun _ => h5) rfl rfl ?_ | refine GCall.scal (fun _ => h5) rfl rfl ?_ | refine GCall.data (fun _ => s1) rfl rfl ?_ | refine GCall.scal (fun _ => s1) rfl rfl ?_ | refine GCall.data (fun _ => s2) rfl rfl ?_ | refine GCall.scal (fun _ => s2) rfl rfl ?_ | refine GCall.data (fun _ => count16_L l hl) rfl rfl ?_ | refine GCall.scal (fun _ => count16_L l hl) rfl rfl ?_ | refine GCall.data (fun _ => awake13_D) rfl rfl ?_ | refine GCall.scal (fun _ => awake13_D) rfl rfl ?_) | ((with_reducible refine MCall.mark ?_); first | refine MCall.data (fun _ => h1) rfl rfl ?_ | refine MCall.plain (PCall.mk (h1) rfl rfl ?_) | refine MCall.data (fun _ => h2) rfl rfl ?_ | refine MCall.plain (PCall.mk (h2) rfl rfl ?_) | refine MCall.data (fun _ => h3) rfl rfl ?_ | refine MCall.plain (PCall.mk (h3) rfl rfl ?_) | refine MCall.data (fun _ => h4) rfl rfl ?_ | refine MCall.plain (PCall.mk (h4) rfl rfl ?_) | refine MCall.data (fun _ => h5) rfl rfl ?_ | refine MCall.plain (PCall.mk (h5) rfl rfl ?_) | refine MCall.data (fun _ => s1) rfl rfl ?_ | refine MCall.plain (PCall.mk (s1) rfl rfl ?_) | refine MCall.data (fun _ => s2) rfl rfl ?_ | refine MCall.plain (PCall.mk (s2) rfl rfl ?_) | refine MCall.data (fun _ => count16_L l hl) rfl rfl ?_ | refine MCall.plain (PCall.mk (count16_L l hl) rfl rfl ?_) | refine MCall.data (fun _ => awake13_D) rfl rfl ?_ | refine MCall.plain (PCall.mk (awake13_D) rfl rfl ?_)) | ((with_reducible refine Tri.mark ?_); first | (refine Tri.treeX [] (MX.mv 0 0 (MX.mv 0 1 (MX.mv 0 3 (MX.mv 2 2 (MX.mv 2 4 (MX.mv 0 5 (MX.mv 0 6 (MX.mv 0 7 (MX.mv 0 10 (MX.mv 0 8 (MX.mv 0 11 (MX.mv 0 13 (MX.mv 2 9 (MX.mv 2 12 (MX.mv 2 14 (MX.mv 2 15 (MX.mv 0 16 (MX.mv 0 17 MX.done)))))))))))))))))) ?_ (by kernel_rfl) ?_; rfl) | (refine Tri.at (39) (int1 0) (by rfl) ?_; refine Tri.loop (t1St l) ((· ≤ l.length)) (fun k => l.length - k) (0) (by kernel_rfl) (Weak.list [] [] ?_ ?_ ?_) ?_ ?_) | (refine Tri.at (69) (int1 0) (by rfl) ?_; refine Tri.loop (outSt l) ((· ≤ 16)) (fun i => 16 - i) (0) (by kernel_rfl) (Weak.list [] [] ?_ ?_ ?_) ?_ ?_)) | ((with_reducible refine ECall.mark ?_); first | refine ECall.only ?_ (fun h => nomatch h) | refine ECall.only ?_ ?_) | ((with_reducible refine Drawn.mark ?_); first | (refine Drawn.tree ?_; refine Tri.treeX [] (MX.mv 0 0 (MX.mv 0 1 (MX.mv 0 3 (MX.mv 2 2 (MX.mv 2 4 (MX.mv 0 5 (MX.mv 0 6 (MX.mv 0 7 (MX.mv 0 10 (MX.mv 0 8 (MX.mv 0 11 (MX.mv 0 13 (MX.mv 2 9 (MX.mv 2 12 (MX.mv 2 14 (MX.mv 2 15 (MX.mv 0 16 (MX.mv 0 17 MX.done)))))))))))))))))) ?_ (by kernel_rfl) ?_; rfl) | refine Drawn.quiet (by kernel_rfl) ?_) | refine dloadE_map (mo0) ?_ ?_ | refine dloadE_map (([] : List Int)) ?_ ?_ | refine dloadE_map ((0 : Int)) ?_ ?_ | refine dcell_ok rfl ?_ | refine AppC.new ?_))
  all_goals first | (with_reducible refine enters_mark ?_; kernel_rfl) | (with_reducible refine boolT_mark ?_; kernel_rfl) | rfl | trivial | assumption | exact Nat.le_of_ble_eq_true rfl | (show entersB _ _ = true; kernel_rfl) | exact DW.same _ rfl | exact DW.ref _ _ _ rfl | exact DW.arr _ _ _ rfl | refine DW.int ?_ | refine dvb ?_ | refine dvi ?_ | exact OW.cells rfl rfl (DWl.same rfl) | exact Nat.zero_le _ | omega | skip
  all_goals repeat' (first | refine OW.cells rfl rfl ?_ | exact DW.nilArr _ rfl | refine DWl.cons ?_ ?_ | exact DWl.nil | exact DW.same _ rfl | exact DW.ref _ _ _ rfl | exact DW.arr _ _ _ rfl | exact DW.sub _ _ _ _ rfl | exact DW.nilLst _ | refine DW.aggl ?_ | refine DW.tupl ?_ | refine DW.clol ?_ ?_)
  all_goals try ((conv => whnf); with_reducible first | refine Round.mark ?_ | refine Tells.mark ?_ | refine Retold.mark ?_)
  all_goals try first | (show (_ : Bool) = _; simp_all; done) | (show (_ : Int) < _; simp at *; omega) | (show (_ : Int) ≤ _; simp at *; omega) | (show (_ : Nat) < _; simp at *; omega) | (show (_ : Nat) ≤ _; simp at *; omega)
  · exact count_zero l
  · rename_i k hk e1
    have hlt := lt_of_test e1
    refine Round.go (· + 1) hlt (by show l.length - (k + 1) < l.length - k; omega) (Weak.list [] [] (by kernel_rfl) ?_ ?_)
    · repeat' (first | exact wsucc hlt (by omega) | exact DW.int (count_yes hlt hl h) | exact DW.same _ rfl | exact DW.ref _ _ _ rfl | exact DW.arr _ _ _ rfl | exact OW.cells rfl rfl (DWl.same rfl) | refine OW.cells rfl rfl ?_ | refine DWl.cons ?_ ?_ | exact DWl.nil | exact DW.nilArr _ rfl | exact DW.nilLst _ | refine DW.clol ?_ ?_ | refine DW.aggl ?_ | refine DW.tupl ?_ | refine DW.int ?_ | refine DW.bool ?_ | refine DW.str ?_ | refine DW.arrE rfl ?_ | ((conv => whnf); first | refine And.intro ?_ ?_ | trivial))
    · repeat' (first | exact wsucc hlt (by omega) | exact DW.int (count_yes hlt hl h) | exact DW.same _ rfl | exact DW.ref _ _ _ rfl | exact DW.arr _ _ _ rfl | exact OW.cells rfl rfl (DWl.same rfl) | refine OW.cells rfl rfl ?_ | refine DWl.cons ?_ ?_ | exact DWl.nil | exact DW.nilArr _ rfl | exact DW.nilLst _ | refine DW.clol ?_ ?_ | refine DW.aggl ?_ | refine DW.tupl ?_ | refine DW.int ?_ | refine DW.bool ?_ | refine DW.str ?_ | refine DW.arrE rfl ?_ | ((conv => whnf); first | refine And.intro ?_ ?_ | trivial))
  · rename_i k hk e1
    have hlt := lt_of_test e1
    refine Round.go (· + 1) hlt (by show l.length - (k + 1) < l.length - k; omega) (Weak.list [] [] (by kernel_rfl) ?_ ?_)
    · repeat' (first | exact wsucc hlt (by omega) | exact DW.int (count_no hlt h) | exact DW.same _ rfl | exact DW.ref _ _ _ rfl | exact DW.arr _ _ _ rfl | exact OW.cells rfl rfl (DWl.same rfl) | refine OW.cells rfl rfl ?_ | refine DWl.cons ?_ ?_ | exact DWl.nil | exact DW.nilArr _ rfl | exact DW.nilLst _ | refine DW.clol ?_ ?_ | refine DW.aggl ?_ | refine DW.tupl ?_ | refine DW.int ?_ | refine DW.bool ?_ | refine DW.str ?_ | refine DW.arrE rfl ?_ | ((conv => whnf); first | refine And.intro ?_ ?_ | trivial))
    · repeat' (first | exact wsucc hlt (by omega) | exact DW.int (count_no hlt h) | exact DW.same _ rfl | exact DW.ref _ _ _ rfl | exact DW.arr _ _ _ rfl | exact OW.cells rfl rfl (DWl.same rfl) | refine OW.cells rfl rfl ?_ | refine DWl.cons ?_ ?_ | exact DWl.nil | exact DW.nilArr _ rfl | exact DW.nilLst _ | refine DW.clol ?_ ?_ | refine DW.aggl ?_ | refine DW.tupl ?_ | refine DW.int ?_ | refine DW.bool ?_ | refine DW.str ?_ | refine DW.arrE rfl ?_ | ((conv => whnf); first | refine And.intro ?_ ?_ | trivial))
  · exact count_all (ge_of_test h)
  · exact sumO_zero l
  · exact mat_int l
  · exact in16 l (lt16 h)
  · exact at16 l (lt16 h)
  · rename_i k hk e1 i hi
    have hi16 := lt16 h
    conv => whnf
    refine Tri.loop (innSt l i) (· ≤ 7) (fun j => 7 - j) 0 (by kernel_rfl) (Weak.list [] [] (by kernel_rfl) ?_ ?_) (Nat.zero_le _) ?_
    · repeat' (first | exact DW.int (sumI_zero l i) | exact DW.lstE (row_is l hi16) | exact DW.int (row_len l hi16) | exact DW.same _ rfl | exact DW.ref _ _ _ rfl | exact DW.arr _ _ _ rfl | exact OW.cells rfl rfl (DWl.same rfl) | refine OW.cells rfl rfl ?_ | refine DWl.cons ?_ ?_ | exact DWl.nil | exact DW.nilArr _ rfl | exact DW.nilLst _ | refine DW.clol ?_ ?_ | refine DW.aggl ?_ | refine DW.tupl ?_ | refine DW.int ?_ | refine DW.bool ?_ | refine DW.str ?_ | refine DW.arrE rfl ?_ | ((conv => whnf); first | refine And.intro ?_ ?_ | trivial))
    · repeat' (first | exact DW.int (sumI_zero l i) | exact DW.lstE (row_is l hi16) | exact DW.int (row_len l hi16) | exact DW.same _ rfl | exact DW.ref _ _ _ rfl | exact DW.arr _ _ _ rfl | exact OW.cells rfl rfl (DWl.same rfl) | refine OW.cells rfl rfl ?_ | refine DWl.cons ?_ ?_ | exact DWl.nil | exact DW.nilArr _ rfl | exact DW.nilLst _ | refine DW.clol ?_ ?_ | refine DW.aggl ?_ | refine DW.tupl ?_ | refine DW.int ?_ | refine DW.bool ?_ | refine DW.str ?_ | refine DW.arrE rfl ?_ | ((conv => whnf); first | refine And.intro ?_ ?_ | trivial))
    intro j hj
    have hj7 : j ≤ 7 := hj
    show dcode _ _ _ _ (innSt l i j) _
    repeat' (first | with_reducible rfl | ((conv => whnf); first | refine And.intro ?_ ?_ | (intro h; first | with_reducible exact tf_no h | with_reducible exact ft_no h | exact Bool.noConfusion h | with_reducible exact h | (have ht : true = true := h; clear ht h) | skip) | ((with_reducible refine DWl.mark ?_); repeat' (first | refine DWl.cons ?_ ?_ | exact DWl.nil | exact DW.same _ rfl | exact DW.ref _ _ _ rfl | exact DW.arr _ _ _ rfl | exact DW.sub _ _ _ _ rfl | exact DW.nilLst _ | refine DW.aggl ?_ | refine DW.tupl ?_ | refine DW.clol ?_ ?_ | refine DW.int ?_ | refine DW.bool ?_ | refine DW.str ?_)) | ((with_reducible refine ECall.mark ?_); first | refine ECall.only ?_ (fun h => nomatch h) | refine ECall.only ?_ ?_) | ((with_reducible refine Drawn.mark ?_); first | refine Drawn.quiet (by kernel_rfl) ?_) | refine dloadE_map ((0 : Int)) ?_ ?_ | refine dcell_ok rfl ?_ | refine AppC.new ?_))
    all_goals try ((conv => whnf); with_reducible refine Round.mark ?_)
    all_goals try first | (show (j : Int) < _; exact in7 l i (lt7 h)) | exact at7 l i (lt7 h) | ((with_reducible show Option.isSome (slElem _ _) = true); kernel_rfl) | ((with_reducible show slElem _ _ = some _); kernel_rfl) | ((with_reducible refine enters_mark ?_); kernel_rfl) | (with_reducible assumption) | ((with_reducible show List.all _ DV.one = true); rfl) | ((with_reducible show (_ : Nat) = _); rfl) | ((with_reducible show (_ == true) = true); simpa using h) | ((with_reducible show (_ : Nat) ≤ _); exact Nat.le_of_ble_eq_true rfl) | ((with_reducible show (_ : Int) ≤ _); first | omega | decide) | ((with_reducible show (_ : Int) < _); first | omega | decide) | ((with_reducible show (_ : Nat) < _); omega) | ((with_reducible show (_ : Nat) ≤ _); omega)
    · have hj := lt7 h
      refine Round.go (· + 1) (by show j + 1 ≤ 7; omega) (by show 7 - (j + 1) < 7 - j; omega) (Weak.list [] [] (by kernel_rfl) ?_ ?_)
      · repeat' (first | exact wsucc (n := 7) hj (by decide) | exact DW.int (sum_at hi16 hj hl) | exact DW.same _ rfl | exact DW.ref _ _ _ rfl | exact DW.arr _ _ _ rfl | exact OW.cells rfl rfl (DWl.same rfl) | refine OW.cells rfl rfl ?_ | refine DWl.cons ?_ ?_ | exact DWl.nil | exact DW.nilArr _ rfl | exact DW.nilLst _ | refine DW.clol ?_ ?_ | refine DW.aggl ?_ | refine DW.tupl ?_ | refine DW.int ?_ | refine DW.bool ?_ | refine DW.str ?_ | refine DW.arrE rfl ?_ | ((conv => whnf); first | refine And.intro ?_ ?_ | trivial))
      · repeat' (first | exact wsucc (n := 7) hj (by decide) | exact DW.int (sum_at hi16 hj hl) | exact DW.same _ rfl | exact DW.ref _ _ _ rfl | exact DW.arr _ _ _ rfl | exact OW.cells rfl rfl (DWl.same rfl) | refine OW.cells rfl rfl ?_ | refine DWl.cons ?_ ?_ | exact DWl.nil | exact DW.nilArr _ rfl | exact DW.nilLst _ | refine DW.clol ?_ ?_ | refine DW.aggl ?_ | refine DW.tupl ?_ | refine DW.int ?_ | refine DW.bool ?_ | refine DW.str ?_ | refine DW.arrE rfl ?_ | ((conv => whnf); first | refine And.intro ?_ ?_ | trivial))
    · have hj : j = 7 := by have := ge7 h; omega
      subst hj
      refine Round.go (· + 1) (by show i + 1 ≤ 16; omega) (by show 16 - (i + 1) < 16 - i; omega) (Weak.list [] [] (by kernel_rfl) ?_ ?_)
      · repeat' (first | exact wsucc (n := 16) hi16 (by decide) | exact DW.int (sumO_next l i) | exact DW.same _ rfl | exact DW.ref _ _ _ rfl | exact DW.arr _ _ _ rfl | exact OW.cells rfl rfl (DWl.same rfl) | refine OW.cells rfl rfl ?_ | refine DWl.cons ?_ ?_ | exact DWl.nil | exact DW.nilArr _ rfl | exact DW.nilLst _ | refine DW.clol ?_ ?_ | refine DW.aggl ?_ | refine DW.tupl ?_ | refine DW.int ?_ | refine DW.bool ?_ | refine DW.str ?_ | refine DW.arrE rfl ?_ | ((conv => whnf); first | refine And.intro ?_ ?_ | trivial))
      · repeat' (first | exact wsucc (n := 16) hi16 (by decide) | exact DW.int (sumO_next l i) | exact DW.same _ rfl | exact DW.ref _ _ _ rfl | exact DW.arr _ _ _ rfl | exact OW.cells rfl rfl (DWl.same rfl) | refine OW.cells rfl rfl ?_ | refine DWl.cons ?_ ?_ | exact DWl.nil | exact DW.nilArr _ rfl | exact DW.nilLst _ | refine DW.clol ?_ ?_ | refine DW.aggl ?_ | refine DW.tupl ?_ | refine DW.int ?_ | refine DW.bool ?_ | refine DW.str ?_ | refine DW.arrE rfl ?_ | ((conv => whnf); first | refine And.intro ?_ ?_ | trivial))
  · rename_i k hk e1 i hi
    have hi : i = 16 := by have := ge16 h; have : i ≤ 16 := hi; omega
    subst hi
    conv => whnf
    refine Tells.mk (DW.bool ?_)
    rw [sumO_all]
    simp
end Go.Proofs.YtkfbaeljcajjbaaGreatDoor

/- What outcomes tell: the plain law. -/
namespace Go.Proofs.YtkfbaeljcajjbaaGreatDoor
open Go.RowKit Go.Dl
/-- What is told, and an outcome. -/
structure Td where
  node : Int
  kind : Int
  peer : Int
  name : ByteArray
  num : Int
structure Oc where
  err : Int
  evs : List Td
def td0 : Td := ⟨0, 0, 0, ⟨#[]⟩, 0⟩
def oc0 : Oc := ⟨0, []⟩
def tdD (t : Td) : List DV := [int1 t.node, int1 t.kind, int1 t.peer, strV t.name, int1 t.num]
def tds (l : List Td) : DV := .lst 5 (l.map tdD)
def ocD (o : Oc) : List DV := [int1 o.err, tds o.evs]
def ocs (l : List Oc) : DV := .lst 2 (l.map ocD)
def moT (k : Nat) (t : Td) : Mo := ⟨k, t.node, t.kind, t.peer, t.name, t.num⟩
def momP (l : List Oc) (i : Nat) : List Mo := (List.range i).flatMap fun k => (l.getD k oc0).evs.map (moT k)
def momI (l : List Oc) (i j : Nat) : List Mo := momP l i ++ ((l.getD i oc0).evs.take j).map (moT i)
def momT (l : List Oc) : List Mo := momP l l.length
theorem mom_zero (l : List Oc) (i : Nat) : momP l i = momI l i 0 := by simp [momI]
theorem mom_next (l : List Oc) (i : Nat) {j : Nat} (h : (l.getD i oc0).evs.length ≤ j) : momI l i j = momP l (i + 1) := by
  rw [momI, List.take_of_length_le h, momP, momP, List.range_succ, List.flatMap_append]; simp
theorem mom_step (l : List Oc) (i : Nat) {j : Nat} (h : j < (l.getD i oc0).evs.length) : momI l i (j + 1) = momI l i j ++ [moT i ((l.getD i oc0).evs.getD j td0)] := by
  rw [momI, take_succ (d := td0) h, List.map_append, momI, List.append_assoc]; rfl
theorem mom_mono (l : List Oc) {i n : Nat} (h : i ≤ n) : (momP l i).length ≤ (momP l n).length := by
  induction n with
  | zero => have : i = 0 := by omega
            subst this; exact Nat.le_refl _
  | succ n ih =>
    rcases Nat.lt_or_ge i (n + 1) with h1 | h1
    · have := ih (by omega)
      rw [← mom_next l n (Nat.le_refl _), momI, List.length_append]; omega
    · have : i = n + 1 := by omega
      subst this; exact Nat.le_refl _
theorem mom_lt {l : List Oc} {i j : Nat} (hi : i < l.length) (hj : j < (l.getD i oc0).evs.length) : (momI l i j).length < (momT l).length := by
  have h1 := mom_mono l (i := i + 1) (n := l.length) hi
  rw [← mom_next l i (Nat.le_refl _)] at h1
  have h2 : (momI l i (j + 1)).length ≤ (momI l i (l.getD i oc0).evs.length).length := by
    rw [momI, momI, List.length_append, List.length_append, List.length_map, List.length_map, List.length_take, List.length_take]; omega
  rw [mom_step l i hj, List.length_append, List.length_singleton] at h2
  unfold momT
  omega
theorem mom_len1 (l : List Oc) (i : Nat) {j : Nat} (h : j < (l.getD i oc0).evs.length) : (momI l i j).length + 1 = (momI l i (j + 1)).length := by rw [mom_step l i h, List.length_append]; rfl
theorem mom_row (l : List Oc) (i : Nat) {j : Nat} (h : j < (l.getD i oc0).evs.length) : (rowM (momI l i j)).take ((momI l i j).length * 6) ++ moD (moT i ((l.getD i oc0).evs.getD j td0)) = rowM (momI l i (j + 1)) := by
  rw [rowM_push, mom_step l i h]
end Go.Proofs.YtkfbaeljcajjbaaGreatDoor

/- What outcomes tell: the document's. -/
namespace Go.Proofs.YtkfbaeljcajjbaaGreatDoor
open Go.RowKit Go.Dl
attribute [local irreducible] Tri SCall TSem ECall Drawn DFun QSem PSem PCall GCall MCall Round Weak dloadE OW DWl Tells Retold ESem IntKind.wrap
theorem DW.nilArrE {ρ : Nat → Option Nat} {s : Sto} {pub : Nat → Prop} {id n : Nat} (h : ρ id = none) (hn : n = 0) : DW ρ s pub (.v (.slice none 0 0)) (.arr id n) := by subst hn; exact DW.nilArr _ h
theorem mom_len0 (l : List Oc) : (momP l 0).length = 0 := rfl
theorem mom_rowz (l : List Oc) : rowM (momP l 0) = [] := rfl
theorem ev_small {l : List Oc} {i j : Nat} (hi : i < l.length) (hj : j < (l.getD i oc0).evs.length) (hl : (momT l).length * 56 ≤ 140737488355328) : (l.getD i oc0).evs.length ≤ 9223372036854775807 := by
  have h1 := mom_lt hi (j := (l.getD i oc0).evs.length - 1) (by omega)
  have h2 : (momI l i ((l.getD i oc0).evs.length - 1)).length = (momP l i).length + ((l.getD i oc0).evs.length - 1) := by
    rw [momI, List.length_append, List.length_map, List.length_take, Nat.min_eq_left (by omega)]
  omega
theorem ev_at {l : List Oc} {i j : Nat} (h : decide ((j : Int) < (((l.getD (i : Int).toNat oc0).evs.map tdD).length : Nat)) = true) : j < (l.getD i oc0).evs.length := lt_of_test h
theorem ev_ge {l : List Oc} {i j : Nat} (h : decide ((j : Int) < (((l.getD (i : Int).toNat oc0).evs.map tdD).length : Nat)) = false) : (l.getD i oc0).evs.length ≤ j := ge_of_test h
attribute [local irreducible] rowM momP momI
def oSt (l : List Oc) (i : Nat) : St := ⟨0, tmOf [(0, ocs l), (3, .arr 0 (momP l i).length), (4, int1 i)], .of [(0, ⟨25, 6, rowM (momP l i)⟩)] 1⟩
def iSt (l : List Oc) (i j : Nat) : St := ⟨0, tmOf [(0, ocs l), (3, .arr 0 (momI l i j).length), (4, int1 i), (5, int1 j)], .of [(0, ⟨25, 6, rowM (momI l i j)⟩)] 1⟩
set_option maxRecDepth 100000 in
set_option maxHeartbeats 1000000 in
theorem moments19_D (l : List Oc) (hl : (momT l).length * 56 ≤ 140737488355328) : DPure Tryz.prog 19 [ocs l] (mos (momT l)) := by
  refine DFun.bound 0 rfl fun ha => ?_
  have ha : l.length ≤ 9223372036854775807 := by simpa [maxLen] using ha
  refine DFun.data (DFun.body Tryz.func19 rfl (by kernel_rfl) ?_)
  repeat' (first | with_reducible rfl | ((conv => whnf); first | refine And.intro ?_ ?_ | (intro h; first | with_reducible exact tf_no h | with_reducible exact ft_no h | exact Bool.noConfusion h | with_reducible exact h | (have ht : true = true := h; clear ht h) | skip) | ((with_reducible refine DWl.mark ?_); repeat' (first | refine DWl.cons ?_ ?_ | exact DWl.nil | exact DW.same _ rfl | exact DW.ref _ _ _ rfl | exact DW.arr _ _ _ rfl | exact DW.sub _ _ _ _ rfl | exact DW.nilLst _ | refine DW.aggl ?_ | refine DW.tupl ?_ | refine DW.clol ?_ ?_ | refine DW.int ?_ | refine DW.bool ?_ | refine DW.str ?_)) | ((with_reducible refine Tri.mark ?_); first | (refine Tri.at (4) (int1 0) (by rfl) ?_; refine Tri.loop (oSt l) ((· ≤ l.length)) (fun i => l.length - i) (0) (by kernel_rfl) (Weak.list [(0, none)] [] ?_ ?_ ?_) ?_ ?_)) | ((with_reducible refine ECall.mark ?_); first | refine ECall.only ?_ (fun h => nomatch h) | refine ECall.only ?_ ?_) | ((with_reducible refine Drawn.mark ?_); first | refine Drawn.quiet (by kernel_rfl) ?_) | refine dloadE_map (oc0) ?_ ?_ | refine dloadE_map (td0) ?_ ?_ | refine dcell_ok rfl ?_ | refine AppC.new ?_))
  all_goals first | (with_reducible refine enters_mark ?_; kernel_rfl) | (with_reducible refine boolT_mark ?_; kernel_rfl) | rfl | trivial | assumption | exact Nat.le_of_ble_eq_true rfl | (show entersB _ _ = true; kernel_rfl) | exact DW.same _ rfl | exact DW.ref _ _ _ rfl | exact DW.arr _ _ _ rfl | refine DW.int ?_ | refine dvb ?_ | refine dvi ?_ | exact OW.cells rfl rfl (DWl.same rfl) | exact Nat.zero_le _ | omega | skip
  all_goals repeat' (first | refine OW.cells rfl rfl ?_ | exact DW.nilArr _ rfl | refine DWl.cons ?_ ?_ | exact DWl.nil | exact DW.same _ rfl | exact DW.ref _ _ _ rfl | exact DW.arr _ _ _ rfl | exact DW.sub _ _ _ _ rfl | exact DW.nilLst _ | refine DW.aggl ?_ | refine DW.tupl ?_ | refine DW.clol ?_ ?_)
  all_goals try ((conv => whnf); with_reducible first | refine Round.mark ?_ | refine Tells.mark ?_ | refine Retold.mark ?_)
  all_goals try first | (show (_ : Bool) = _; simp_all; done) | (show (_ : Int) < _; simp at *; omega) | (show (_ : Int) ≤ _; simp at *; omega) | (show (_ : Nat) < _; simp at *; omega) | (show (_ : Nat) ≤ _; simp at *; omega)
  · exact DW.nilArrE rfl (mom_len0 l)
  · exact mom_rowz l
  · rename_i i hi
    have hlt := lt_of_test h
    have hi : i < l.length := hlt
    conv => whnf
    refine Tri.loop (iSt l i) (· ≤ (l.getD i oc0).evs.length) (fun j => (l.getD i oc0).evs.length - j) 0 (by kernel_rfl) (Weak.list [(0, some 0)] [] (by kernel_rfl) ?_ ?_) (Nat.zero_le _) ?_
    · repeat' (first | exact DWl.eq (congrArg rowM (mom_zero l i)) (rowM_all _) | exact congrArg List.length (mom_zero l i) | exact DW.same _ rfl | exact DW.ref _ _ _ rfl | exact DW.arr _ _ _ rfl | exact OW.cells rfl rfl (DWl.same rfl) | refine OW.cells rfl rfl ?_ | refine DWl.cons ?_ ?_ | exact DWl.nil | exact DW.nilArr _ rfl | exact DW.nilLst _ | refine DW.clol ?_ ?_ | refine DW.aggl ?_ | refine DW.tupl ?_ | refine DW.int ?_ | refine DW.bool ?_ | refine DW.str ?_ | refine DW.arrE rfl ?_ | ((conv => whnf); first | refine And.intro ?_ ?_ | trivial))
    · repeat' (first | exact DWl.eq (congrArg rowM (mom_zero l i)) (rowM_all _) | exact congrArg List.length (mom_zero l i) | exact DW.same _ rfl | exact DW.ref _ _ _ rfl | exact DW.arr _ _ _ rfl | exact OW.cells rfl rfl (DWl.same rfl) | refine OW.cells rfl rfl ?_ | refine DWl.cons ?_ ?_ | exact DWl.nil | exact DW.nilArr _ rfl | exact DW.nilLst _ | refine DW.clol ?_ ?_ | refine DW.aggl ?_ | refine DW.tupl ?_ | refine DW.int ?_ | refine DW.bool ?_ | refine DW.str ?_ | refine DW.arrE rfl ?_ | ((conv => whnf); first | refine And.intro ?_ ?_ | trivial))
    intro j hj
    have hj : j ≤ (l.getD i oc0).evs.length := hj
    show dcode _ _ _ _ (iSt l i j) _
    repeat' (first | with_reducible rfl | ((conv => whnf); first | refine And.intro ?_ ?_ | (intro h; first | with_reducible exact tf_no h | with_reducible exact ft_no h | exact Bool.noConfusion h | with_reducible exact h | (have ht : true = true := h; clear ht h) | skip) | ((with_reducible refine DWl.mark ?_); repeat' (first | refine DWl.cons ?_ ?_ | exact DWl.nil | exact DW.same _ rfl | exact DW.ref _ _ _ rfl | exact DW.arr _ _ _ rfl | exact DW.sub _ _ _ _ rfl | exact DW.nilLst _ | refine DW.aggl ?_ | refine DW.tupl ?_ | refine DW.clol ?_ ?_ | refine DW.int ?_ | refine DW.bool ?_ | refine DW.str ?_)) | ((with_reducible refine ECall.mark ?_); first | refine ECall.only ?_ (fun h => nomatch h) | refine ECall.only ?_ ?_) | ((with_reducible refine Drawn.mark ?_); first | refine Drawn.quiet (by kernel_rfl) ?_) | refine dloadE_map (oc0) ?_ ?_ | refine dloadE_map (td0) ?_ ?_ | refine dcell_ok rfl ?_ | refine AppC.new ?_))
    all_goals try ((conv => whnf); with_reducible refine Round.mark ?_)
    all_goals try first | ((with_reducible show Option.isSome (slElem _ _) = true); kernel_rfl) | ((with_reducible show slElem _ _ = some _); kernel_rfl) | ((with_reducible refine enters_mark ?_); kernel_rfl) | (with_reducible assumption) | ((with_reducible show List.all _ DV.one = true); rfl) | ((with_reducible show (_ : Nat) = _); rfl) | ((with_reducible show (_ == true) = true); simpa using h) | ((with_reducible show (_ : Nat) ≤ _); exact Nat.le_of_ble_eq_true rfl) | ((with_reducible show (_ : Int) ≤ _); first | omega | decide) | ((with_reducible show (_ : Int) < _); first | omega | decide) | ((with_reducible show (_ : Nat) < _); omega) | ((with_reducible show (_ : Nat) ≤ _); omega)
    · show (i : Int) < ((l.map ocD).length : Nat)
      rw [List.length_map]; omega
    · show (i : Int) < ((l.map ocD).length : Nat)
      rw [List.length_map]; omega
    · exact of_decide_eq_true h
    · exact ev_at h
    · exact rm_b1 _
    · exact rm_b2 (mom_lt hi (ev_at h)) hl
    · exact rm_b3 (mom_lt hi (ev_at h)) hl
    · have hj1 := ev_at h
      refine Round.go (· + 1) hj1 (by show (l.getD i oc0).evs.length - (j + 1) < (l.getD i oc0).evs.length - j; omega) (Weak.list [(0, some 3)] [] (by kernel_rfl) ?_ ?_)
      · repeat' (first | exact wsucc (n := (l.getD i oc0).evs.length) hj1 (ev_small hi hj1 hl) | exact DWl.eq (mom_row l i hj1) (rowM_all _) | exact mom_len1 l i hj1 | exact DW.same _ rfl | exact DW.ref _ _ _ rfl | exact DW.arr _ _ _ rfl | exact OW.cells rfl rfl (DWl.same rfl) | refine OW.cells rfl rfl ?_ | refine DWl.cons ?_ ?_ | exact DWl.nil | exact DW.nilArr _ rfl | exact DW.nilLst _ | refine DW.clol ?_ ?_ | refine DW.aggl ?_ | refine DW.tupl ?_ | refine DW.int ?_ | refine DW.bool ?_ | refine DW.str ?_ | refine DW.arrE rfl ?_ | ((conv => whnf); first | refine And.intro ?_ ?_ | trivial))
      · repeat' (first | exact wsucc (n := (l.getD i oc0).evs.length) hj1 (ev_small hi hj1 hl) | exact DWl.eq (mom_row l i hj1) (rowM_all _) | exact mom_len1 l i hj1 | exact DW.same _ rfl | exact DW.ref _ _ _ rfl | exact DW.arr _ _ _ rfl | exact OW.cells rfl rfl (DWl.same rfl) | refine OW.cells rfl rfl ?_ | refine DWl.cons ?_ ?_ | exact DWl.nil | exact DW.nilArr _ rfl | exact DW.nilLst _ | refine DW.clol ?_ ?_ | refine DW.aggl ?_ | refine DW.tupl ?_ | refine DW.int ?_ | refine DW.bool ?_ | refine DW.str ?_ | refine DW.arrE rfl ?_ | ((conv => whnf); first | refine And.intro ?_ ?_ | trivial))
    · have hj1 := ev_ge h
      have hjj : momI l i j = momP l (i + 1) := mom_next l i hj1
      refine Round.go (· + 1) hi (by show l.length - (i + 1) < l.length - i; omega) (Weak.list [(0, some 0)] [] (by kernel_rfl) ?_ ?_)
      · repeat' (first | exact wsucc hi ha | exact DWl.eq (congrArg rowM hjj) (rowM_all _) | exact congrArg List.length hjj | exact DW.same _ rfl | exact DW.ref _ _ _ rfl | exact DW.arr _ _ _ rfl | exact OW.cells rfl rfl (DWl.same rfl) | refine OW.cells rfl rfl ?_ | refine DWl.cons ?_ ?_ | exact DWl.nil | exact DW.nilArr _ rfl | exact DW.nilLst _ | refine DW.clol ?_ ?_ | refine DW.aggl ?_ | refine DW.tupl ?_ | refine DW.int ?_ | refine DW.bool ?_ | refine DW.str ?_ | refine DW.arrE rfl ?_ | ((conv => whnf); first | refine And.intro ?_ ?_ | trivial))
      · repeat' (first | exact wsucc hi ha | exact DWl.eq (congrArg rowM hjj) (rowM_all _) | exact congrArg List.length hjj | exact DW.same _ rfl | exact DW.ref _ _ _ rfl | exact DW.arr _ _ _ rfl | exact OW.cells rfl rfl (DWl.same rfl) | refine OW.cells rfl rfl ?_ | refine DWl.cons ?_ ?_ | exact DWl.nil | exact DW.nilArr _ rfl | exact DW.nilLst _ | refine DW.clol ?_ ?_ | refine DW.aggl ?_ | refine DW.tupl ?_ | refine DW.int ?_ | refine DW.bool ?_ | refine DW.str ?_ | refine DW.arrE rfl ?_ | ((conv => whnf); first | refine And.intro ?_ ?_ | trivial))
  · rename_i i hi
    have hi : i = l.length := by have := ge_of_test h; have : i ≤ l.length := hi; omega
    subst hi
    conv => whnf
    exact Tells.of (r1 := mos (momP l l.length)) rfl (Tells.mk (DW.pubM rfl rfl rfl rfl mosRow (rowM_eq _)))
end Go.Proofs.YtkfbaeljcajjbaaGreatDoor

/- What outcomes tell: the program's. -/
namespace Go.Proofs.YtkfbaeljcajjbaaGreatDoor
open Go.RowKit Go.Dl
attribute [local irreducible] Tri SCall TSem ECall Drawn DFun QSem PSem PCall GCall MCall Round Weak dloadE OW DWl Tells Retold ESem IntKind.wrap
def mOut (l : List Oc) (lb i : Nat) : St := ⟨⟨2, [.normal]⟩, tmOf [(0, .clo (.yield lb) [] []), (7, ocs l), (8, int1 (l.map ocD).length), (9, int1 i)], .of [(0, ⟨36, 1, [.arr 2 (momP l i).length]⟩), (1, ⟨45, 1, [ocs l]⟩), (2, ⟨25, 6, rowM (momP l i)⟩)] 3⟩
def mIn (l : List Oc) (lb i j : Nat) : St := ⟨⟨2, [.normal]⟩, tmOf [(0, .clo (.yield lb) [] []), (3, int1 i), (7, ocs l), (8, int1 (l.map ocD).length), (9, int1 i), (15, tds (l.getD i oc0).evs), (16, int1 ((l.getD i oc0).evs.map tdD).length), (17, int1 j)], .of [(0, ⟨36, 1, [.arr 2 (momI l i j).length]⟩), (1, ⟨45, 1, [ocs l]⟩), (2, ⟨25, 6, rowM (momI l i j)⟩)] 3⟩
attribute [local irreducible] rowM momP momI
set_option maxRecDepth 100000 in
set_option maxHeartbeats 1000000 in
theorem moments18_D (l : List Oc) (hl : (momT l).length * 56 ≤ 140737488355328) : DPure Tryz.prog 18 [ocs l] (mos (momT l)) := by
  refine DFun.bound 0 rfl fun ha => ?_
  have ha : l.length ≤ 9223372036854775807 := by simpa [maxLen] using ha
  refine DFun.data (DFun.body Tryz.func18 rfl (by kernel_rfl) ?_)
  repeat' (first | with_reducible rfl | ((conv => whnf); first | refine And.intro ?_ ?_ | (intro h; first | with_reducible exact tf_no h | with_reducible exact ft_no h | exact Bool.noConfusion h | with_reducible exact h | (have ht : true = true := h; clear ht h) | skip) | ((with_reducible refine DWl.mark ?_); repeat' (first | refine DWl.cons ?_ ?_ | exact DWl.nil | exact DW.same _ rfl | exact DW.ref _ _ _ rfl | exact DW.arr _ _ _ rfl | exact DW.sub _ _ _ _ rfl | exact DW.nilLst _ | refine DW.aggl ?_ | refine DW.tupl ?_ | refine DW.clol ?_ ?_ | refine DW.int ?_ | refine DW.bool ?_ | refine DW.str ?_)) | ((with_reducible refine SCall.mark ?_); first | refine SCall.run Tryz.func41 rfl (Nat.le_of_ble_eq_true rfl) (by kernel_rfl) ?_) | ((with_reducible refine ECall.mark ?_); first | refine ECall.only ?_ (fun h => nomatch h) | refine ECall.only ?_ ?_) | ((with_reducible refine Drawn.mark ?_); first | refine Drawn.quiet (by kernel_rfl) ?_) | refine dcell_ok rfl ?_ | refine AppC.new ?_))
  all_goals first | (with_reducible refine enters_mark ?_; kernel_rfl) | (with_reducible refine boolT_mark ?_; kernel_rfl) | rfl | trivial | assumption | exact Nat.le_of_ble_eq_true rfl | (show entersB _ _ = true; kernel_rfl) | exact DW.same _ rfl | exact DW.ref _ _ _ rfl | exact DW.arr _ _ _ rfl | refine DW.int ?_ | refine dvb ?_ | refine dvi ?_ | exact OW.cells rfl rfl (DWl.same rfl) | exact Nat.zero_le _ | omega | skip
  all_goals repeat' (first | refine OW.cells rfl rfl ?_ | exact DW.nilArr _ rfl | refine DWl.cons ?_ ?_ | exact DWl.nil | exact DW.same _ rfl | exact DW.ref _ _ _ rfl | exact DW.arr _ _ _ rfl | exact DW.sub _ _ _ _ rfl | exact DW.nilLst _ | refine DW.aggl ?_ | refine DW.tupl ?_ | refine DW.clol ?_ ?_)
  all_goals try ((conv => whnf); with_reducible first | refine Round.mark ?_ | refine Tells.mark ?_ | refine Retold.mark ?_)
  all_goals try first | (show (_ : Bool) = _; simp_all; done) | (show (_ : Int) < _; simp at *; omega) | (show (_ : Int) ≤ _; simp at *; omega) | (show (_ : Nat) < _; simp at *; omega) | (show (_ : Nat) ≤ _; simp at *; omega)
  conv => whnf
  refine Tri.range rfl (by kernel_rfl) rfl rfl (by rfl) (by kernel_rfl) fun lb => ?_
  repeat' (first | with_reducible rfl | ((conv => whnf); first | refine And.intro ?_ ?_ | (intro h; first | with_reducible exact tf_no h | with_reducible exact ft_no h | exact Bool.noConfusion h | with_reducible exact h | (have ht : true = true := h; clear ht h) | skip) | ((with_reducible refine DWl.mark ?_); repeat' (first | refine DWl.cons ?_ ?_ | exact DWl.nil | exact DW.same _ rfl | exact DW.ref _ _ _ rfl | exact DW.arr _ _ _ rfl | exact DW.sub _ _ _ _ rfl | exact DW.nilLst _ | refine DW.aggl ?_ | refine DW.tupl ?_ | refine DW.clol ?_ ?_ | refine DW.int ?_ | refine DW.bool ?_ | refine DW.str ?_)) | ((with_reducible refine ECall.mark ?_); first | refine ECall.only ?_ (fun h => nomatch h) | refine ECall.only ?_ ?_) | ((with_reducible refine Drawn.mark ?_); first | refine Drawn.quiet (by kernel_rfl) ?_) | refine dloadE_map (oc0) ?_ ?_ | refine dcell_ok rfl ?_ | refine AppC.new ?_))
  all_goals first | (with_reducible refine enters_mark ?_; kernel_rfl) | (with_reducible refine boolT_mark ?_; kernel_rfl) | rfl | trivial | assumption | exact Nat.le_of_ble_eq_true rfl | (show entersB _ _ = true; kernel_rfl) | exact DW.same _ rfl | exact DW.ref _ _ _ rfl | exact DW.arr _ _ _ rfl | refine DW.int ?_ | refine dvb ?_ | refine dvi ?_ | exact OW.cells rfl rfl (DWl.same rfl) | exact Nat.zero_le _ | omega | skip
  all_goals repeat' (first | refine OW.cells rfl rfl ?_ | exact DW.nilArr _ rfl | refine DWl.cons ?_ ?_ | exact DWl.nil | exact DW.same _ rfl | exact DW.ref _ _ _ rfl | exact DW.arr _ _ _ rfl | exact DW.sub _ _ _ _ rfl | exact DW.nilLst _ | refine DW.aggl ?_ | refine DW.tupl ?_ | refine DW.clol ?_ ?_)
  all_goals try ((conv => whnf); with_reducible first | refine Round.mark ?_ | refine Tells.mark ?_ | refine Retold.mark ?_)
  all_goals try first | (show (_ : Bool) = _; simp_all; done) | (show (_ : Int) < _; simp at *; omega) | (show (_ : Int) ≤ _; simp at *; omega) | (show (_ : Nat) < _; simp at *; omega) | (show (_ : Nat) ≤ _; simp at *; omega)
  conv => whnf
  refine Tri.loop (mOut l lb) (· ≤ l.length) (fun a => l.length - a) 0 (by kernel_rfl) (Weak.list [(2, none)] [] (by kernel_rfl) ?_ ?_) (Nat.zero_le _) ?_
  · repeat' (first | exact mom_rowz _ | exact DW.nilArrE rfl (mom_len0 l) | exact DW.same _ rfl | exact DW.ref _ _ _ rfl | exact DW.arr _ _ _ rfl | exact OW.cells rfl rfl (DWl.same rfl) | refine OW.cells rfl rfl ?_ | refine DWl.cons ?_ ?_ | exact DWl.nil | exact DW.nilArr _ rfl | exact DW.nilLst _ | refine DW.clol ?_ ?_ | refine DW.aggl ?_ | refine DW.tupl ?_ | refine DW.int ?_ | refine DW.bool ?_ | refine DW.str ?_ | refine DW.arrE rfl ?_ | ((conv => whnf); first | refine And.intro ?_ ?_ | trivial))
  · repeat' (first | exact mom_rowz _ | exact DW.nilArrE rfl (mom_len0 l) | exact DW.same _ rfl | exact DW.ref _ _ _ rfl | exact DW.arr _ _ _ rfl | exact OW.cells rfl rfl (DWl.same rfl) | refine OW.cells rfl rfl ?_ | refine DWl.cons ?_ ?_ | exact DWl.nil | exact DW.nilArr _ rfl | exact DW.nilLst _ | refine DW.clol ?_ ?_ | refine DW.aggl ?_ | refine DW.tupl ?_ | refine DW.int ?_ | refine DW.bool ?_ | refine DW.str ?_ | refine DW.arrE rfl ?_ | ((conv => whnf); first | refine And.intro ?_ ?_ | trivial))
  intro i hi
  have hil : i ≤ l.length := hi
  show dcode _ _ _ _ (mOut l lb i) _
  repeat' (first | with_reducible rfl | ((conv => whnf); first | refine And.intro ?_ ?_ | (intro h; first | with_reducible exact tf_no h | with_reducible exact ft_no h | exact Bool.noConfusion h | with_reducible exact h | (have ht : true = true := h; clear ht h) | skip) | ((with_reducible refine DWl.mark ?_); repeat' (first | refine DWl.cons ?_ ?_ | exact DWl.nil | exact DW.same _ rfl | exact DW.ref _ _ _ rfl | exact DW.arr _ _ _ rfl | exact DW.sub _ _ _ _ rfl | exact DW.nilLst _ | refine DW.aggl ?_ | refine DW.tupl ?_ | refine DW.clol ?_ ?_ | refine DW.int ?_ | refine DW.bool ?_ | refine DW.str ?_)) | ((with_reducible refine ECall.mark ?_); first | refine ECall.only ?_ (fun h => nomatch h) | refine ECall.only ?_ ?_) | ((with_reducible refine Drawn.mark ?_); first | refine Drawn.quiet (by kernel_rfl) ?_) | refine dloadE_map (oc0) ?_ ?_ | refine dcell_ok rfl ?_ | refine AppC.new ?_))
  all_goals try ((conv => whnf); with_reducible refine Round.mark ?_)
  all_goals try first | ((with_reducible show Option.isSome (slElem _ _) = true); kernel_rfl) | ((with_reducible show slElem _ _ = some _); kernel_rfl) | ((with_reducible refine enters_mark ?_); kernel_rfl) | (with_reducible assumption) | ((with_reducible show List.all _ DV.one = true); rfl) | ((with_reducible show (_ : Nat) = _); rfl) | ((with_reducible show (_ == true) = true); simpa using h) | ((with_reducible show (_ : Nat) ≤ _); exact Nat.le_of_ble_eq_true rfl) | ((with_reducible show (_ : Int) ≤ _); first | omega | decide) | ((with_reducible show (_ : Int) < _); first | omega | decide) | ((with_reducible show (_ : Nat) < _); omega) | ((with_reducible show (_ : Nat) ≤ _); omega)
  · show (i : Int) < ((l.map ocD).length : Nat)
    exact of_decide_eq_true h
  · exact lt_of_test h
  · have hil : i < l.length := lt_of_test h
    conv => whnf
    refine Tri.loop (mIn l lb i) (· ≤ (l.getD i oc0).evs.length) (fun j => (l.getD i oc0).evs.length - j) 0 (by kernel_rfl) (Weak.list [(2, some 2)] [] (by kernel_rfl) ?_ ?_) (Nat.zero_le _) ?_
    · repeat' (first | exact DWl.eq (congrArg rowM (mom_zero l i)) (rowM_all _) | exact congrArg List.length (mom_zero l i) | exact DW.same _ rfl | exact DW.ref _ _ _ rfl | exact DW.arr _ _ _ rfl | exact OW.cells rfl rfl (DWl.same rfl) | refine OW.cells rfl rfl ?_ | refine DWl.cons ?_ ?_ | exact DWl.nil | exact DW.nilArr _ rfl | exact DW.nilLst _ | refine DW.clol ?_ ?_ | refine DW.aggl ?_ | refine DW.tupl ?_ | refine DW.int ?_ | refine DW.bool ?_ | refine DW.str ?_ | refine DW.arrE rfl ?_ | ((conv => whnf); first | refine And.intro ?_ ?_ | trivial))
    · repeat' (first | exact DWl.eq (congrArg rowM (mom_zero l i)) (rowM_all _) | exact congrArg List.length (mom_zero l i) | exact DW.same _ rfl | exact DW.ref _ _ _ rfl | exact DW.arr _ _ _ rfl | exact OW.cells rfl rfl (DWl.same rfl) | refine OW.cells rfl rfl ?_ | refine DWl.cons ?_ ?_ | exact DWl.nil | exact DW.nilArr _ rfl | exact DW.nilLst _ | refine DW.clol ?_ ?_ | refine DW.aggl ?_ | refine DW.tupl ?_ | refine DW.int ?_ | refine DW.bool ?_ | refine DW.str ?_ | refine DW.arrE rfl ?_ | ((conv => whnf); first | refine And.intro ?_ ?_ | trivial))
    intro j hj
    have hj : j ≤ (l.getD i oc0).evs.length := hj
    show dcode _ _ _ _ (mIn l lb i j) _
    repeat' (first | with_reducible rfl | ((conv => whnf); first | refine And.intro ?_ ?_ | (intro h; first | with_reducible exact tf_no h | with_reducible exact ft_no h | exact Bool.noConfusion h | with_reducible exact h | (have ht : true = true := h; clear ht h) | skip) | ((with_reducible refine DWl.mark ?_); repeat' (first | refine DWl.cons ?_ ?_ | exact DWl.nil | exact DW.same _ rfl | exact DW.ref _ _ _ rfl | exact DW.arr _ _ _ rfl | exact DW.sub _ _ _ _ rfl | exact DW.nilLst _ | refine DW.aggl ?_ | refine DW.tupl ?_ | refine DW.clol ?_ ?_ | refine DW.int ?_ | refine DW.bool ?_ | refine DW.str ?_)) | ((with_reducible refine ECall.mark ?_); first | refine ECall.only ?_ (fun h => nomatch h) | refine ECall.only ?_ ?_) | ((with_reducible refine Drawn.mark ?_); first | refine Drawn.quiet (by kernel_rfl) ?_) | refine dloadE_map (oc0) ?_ ?_ | refine dloadE_map (td0) ?_ ?_ | refine dcell_ok rfl ?_ | refine AppC.new ?_))
    all_goals try ((conv => whnf); with_reducible refine Round.mark ?_)
    all_goals try first | ((with_reducible show Option.isSome (slElem _ _) = true); kernel_rfl) | ((with_reducible show slElem _ _ = some _); kernel_rfl) | ((with_reducible refine enters_mark ?_); kernel_rfl) | (with_reducible assumption) | ((with_reducible show List.all _ DV.one = true); rfl) | ((with_reducible show (_ : Nat) = _); rfl) | ((with_reducible show (_ == true) = true); simpa using h) | ((with_reducible show (_ : Nat) ≤ _); exact Nat.le_of_ble_eq_true rfl) | ((with_reducible show (_ : Int) ≤ _); first | omega | decide) | ((with_reducible show (_ : Int) < _); first | omega | decide) | ((with_reducible show (_ : Nat) < _); omega) | ((with_reducible show (_ : Nat) ≤ _); omega)
    · exact of_decide_eq_true h
    · exact lt_of_test h
    · exact rm_b1 _
    · exact rm_b2 (mom_lt hil (lt_of_test h)) hl
    · exact rm_b3 (mom_lt hil (lt_of_test h)) hl
    · rename_i e1
      have hj1 : j < (l.getD i oc0).evs.length := lt_of_test e1
      refine Round.go (· + 1) hj1 (by show (l.getD i oc0).evs.length - (j + 1) < (l.getD i oc0).evs.length - j; omega) (Weak.list [(2, some 6)] [] (by kernel_rfl) ?_ ?_)
      · repeat' (first | exact wsucc (n := (l.getD i oc0).evs.length) hj1 (ev_small hil hj1 hl) | exact DWl.eq (mom_row l i hj1) (rowM_all _) | exact mom_len1 l i hj1 | exact DW.same _ rfl | exact DW.ref _ _ _ rfl | exact DW.arr _ _ _ rfl | exact OW.cells rfl rfl (DWl.same rfl) | refine OW.cells rfl rfl ?_ | refine DWl.cons ?_ ?_ | exact DWl.nil | exact DW.nilArr _ rfl | exact DW.nilLst _ | refine DW.clol ?_ ?_ | refine DW.aggl ?_ | refine DW.tupl ?_ | refine DW.int ?_ | refine DW.bool ?_ | refine DW.str ?_ | refine DW.arrE rfl ?_ | ((conv => whnf); first | refine And.intro ?_ ?_ | trivial))
      · repeat' (first | exact wsucc (n := (l.getD i oc0).evs.length) hj1 (ev_small hil hj1 hl) | exact DWl.eq (mom_row l i hj1) (rowM_all _) | exact mom_len1 l i hj1 | exact DW.same _ rfl | exact DW.ref _ _ _ rfl | exact DW.arr _ _ _ rfl | exact OW.cells rfl rfl (DWl.same rfl) | refine OW.cells rfl rfl ?_ | refine DWl.cons ?_ ?_ | exact DWl.nil | exact DW.nilArr _ rfl | exact DW.nilLst _ | refine DW.clol ?_ ?_ | refine DW.aggl ?_ | refine DW.tupl ?_ | refine DW.int ?_ | refine DW.bool ?_ | refine DW.str ?_ | refine DW.arrE rfl ?_ | ((conv => whnf); first | refine And.intro ?_ ?_ | trivial))
    · have hj1 : (l.getD i oc0).evs.length ≤ j := ge_of_test h
      have hjj : momI l i j = momP l (i + 1) := mom_next l i hj1
      refine Round.go (· + 1) hil (by show l.length - (i + 1) < l.length - i; omega) (Weak.list [(2, some 2)] [] (by kernel_rfl) ?_ ?_)
      · repeat' (first | exact wsucc hil ha | exact DWl.eq (congrArg rowM hjj) (rowM_all _) | exact congrArg List.length hjj | exact DW.same _ rfl | exact DW.ref _ _ _ rfl | exact DW.arr _ _ _ rfl | exact OW.cells rfl rfl (DWl.same rfl) | refine OW.cells rfl rfl ?_ | refine DWl.cons ?_ ?_ | exact DWl.nil | exact DW.nilArr _ rfl | exact DW.nilLst _ | refine DW.clol ?_ ?_ | refine DW.aggl ?_ | refine DW.tupl ?_ | refine DW.int ?_ | refine DW.bool ?_ | refine DW.str ?_ | refine DW.arrE rfl ?_ | ((conv => whnf); first | refine And.intro ?_ ?_ | trivial))
      · repeat' (first | exact wsucc hil ha | exact DWl.eq (congrArg rowM hjj) (rowM_all _) | exact congrArg List.length hjj | exact DW.same _ rfl | exact DW.ref _ _ _ rfl | exact DW.arr _ _ _ rfl | exact OW.cells rfl rfl (DWl.same rfl) | refine OW.cells rfl rfl ?_ | refine DWl.cons ?_ ?_ | exact DWl.nil | exact DW.nilArr _ rfl | exact DW.nilLst _ | refine DW.clol ?_ ?_ | refine DW.aggl ?_ | refine DW.tupl ?_ | refine DW.int ?_ | refine DW.bool ?_ | refine DW.str ?_ | refine DW.arrE rfl ?_ | ((conv => whnf); first | refine And.intro ?_ ?_ | trivial))
  · have hi : i = l.length := by have := ge_of_test h; omega
    subst hi
    conv => whnf
    exact Tells.of (r1 := mos (momP l l.length)) rfl (Tells.mk (DW.pubM rfl rfl rfl rfl mosRow (rowM_eq _)))
end Go.Proofs.YtkfbaeljcajjbaaGreatDoor

/- What TraceSelects computes. -/
namespace Go.Proofs.YtkfbaeljcajjbaaGreatDoor
open Go.RowKit Go.Dl
attribute [local irreducible] Tri SCall TSem ECall Drawn DFun QSem PSem PCall GCall MCall Round Weak dloadE OW DWl Tells IntKind.wrap Retold ESem
set_option maxRecDepth 20000 in
theorem copied17_D (l : List Mo) (hl : l.length * 56 ≤ 140737488355328) : DPure Tryz.prog 17 [mos l] (mos l) := by
  refine DFun.data (DFun.body Tryz.func17 rfl (by kernel_rfl) ?_)
  repeat' (first | with_reducible rfl | ((conv => whnf); first | refine And.intro ?_ ?_ | (intro h; first | with_reducible exact tf_no h | with_reducible exact ft_no h | exact Bool.noConfusion h | with_reducible exact h | (have ht : true = true := h; clear ht h) | skip) | ((with_reducible refine DWl.mark ?_); repeat' (first | refine DWl.cons ?_ ?_ | exact DWl.nil | exact DW.same _ rfl | exact DW.ref _ _ _ rfl | exact DW.arr _ _ _ rfl | exact DW.sub _ _ _ _ rfl | exact DW.nilLst _ | refine DW.aggl ?_ | refine DW.tupl ?_ | refine DW.clol ?_ ?_ | refine DW.int ?_ | refine DW.bool ?_ | refine DW.str ?_)) | ((with_reducible refine ECall.mark ?_); first | refine ECall.only ?_ (fun h => nomatch h) | refine ECall.only ?_ ?_) | ((with_reducible refine Drawn.mark ?_); first | refine Drawn.quiet (by kernel_rfl) ?_) | refine dloadE_map (mo0) ?_ ?_ | refine dcell_ok rfl ?_ | refine AppC.new ?_))
  all_goals first | (with_reducible refine enters_mark ?_; kernel_rfl) | (with_reducible refine boolT_mark ?_; kernel_rfl) | rfl | trivial | assumption | exact Nat.le_of_ble_eq_true rfl | (show entersB _ _ = true; kernel_rfl) | exact DW.same _ rfl | exact DW.ref _ _ _ rfl | exact DW.arr _ _ _ rfl | refine DW.int ?_ | refine dvb ?_ | refine dvi ?_ | exact OW.cells rfl rfl (DWl.same rfl) | exact Nat.zero_le _ | omega | skip
  all_goals repeat' (first | refine OW.cells rfl rfl ?_ | exact DW.nilArr _ rfl | refine DWl.cons ?_ ?_ | exact DWl.nil | exact DW.same _ rfl | exact DW.ref _ _ _ rfl | exact DW.arr _ _ _ rfl | exact DW.sub _ _ _ _ rfl | exact DW.nilLst _ | refine DW.aggl ?_ | refine DW.tupl ?_ | refine DW.clol ?_ ?_)
  all_goals try ((conv => whnf); with_reducible first | refine Round.mark ?_ | refine Tells.mark ?_ | refine Retold.mark ?_)
  all_goals try first | (show (_ : Bool) = _; simp_all; done) | (show (_ : Int) < _; simp at *; omega) | (show (_ : Int) ≤ _; simp at *; omega) | (show (_ : Nat) < _; simp at *; omega) | (show (_ : Nat) ≤ _; simp at *; omega)
  · show (l.map moD).length * 56 ≤ _
    rw [List.length_map]; exact hl
  · rw [List.length_map]; simp only [maxLen]; omega
  · conv => whnf
    first | exact Tells.mk (DW.pubM rfl (List.length_map _) rfl rfl mosRow rfl) | exact Tells.mk (DW.pubM rfl (List.length_map _).symm rfl rfl mosRow rfl)
attribute [local irreducible] selT passB momT
set_option maxRecDepth 20000 in
set_option maxHeartbeats 4000000 in
theorem selects6_D (o : List Oc) (l : List Mo) (f : Fil) (ho : (momT o).length * 56 ≤ 140737488355328) (hl : l.length * 56 ≤ 140737488355328) : DPure Tryz.prog 6 [ocs o, mos l, .agg (filD f)] (bl true) := by
  have c1 := copied17_D l hl
  have m1 := moments18_D o ho
  have m2 := moments19_D o ho
  have s0 := same_self (momT o)
  have s1 := select14_G l f hl
  have s2 := select20_G l f hl
  have s3 := same_self (selT f l)
  have s4 := same_self l
  refine DFun.data (DFun.body Tryz.func6 rfl (by kernel_rfl) ?_)
  repeat' (first | with_reducible rfl | ((conv => whnf); first | refine And.intro ?_ ?_ | (intro h; first | with_reducible exact tf_no h | with_reducible exact ft_no h | exact Bool.noConfusion h | with_reducible exact h | (refine not_t h ?_; rfl) | (refine not_f h ?_; rfl) | (have ht : true = true := h; clear ht h) | skip) | ((with_reducible refine DWl.mark ?_); repeat' (first | refine DWl.cons ?_ ?_ | exact DWl.nil | exact DW.same _ rfl | exact DW.ref _ _ _ rfl | exact DW.arr _ _ _ rfl | exact DW.sub _ _ _ _ rfl | exact DW.nilLst _ | refine DW.aggl ?_ | refine DW.tupl ?_ | refine DW.clol ?_ ?_ | refine DW.int ?_ | refine DW.bool ?_ | refine DW.str ?_)) | ((with_reducible refine SCall.mark ?_); first | refine SCall.data (c1) rfl rfl ?_ | refine SCall.scal (c1) rfl rfl ?_ | refine SCall.data (m1) rfl rfl ?_ | refine SCall.scal (m1) rfl rfl ?_ | refine SCall.data (m2) rfl rfl ?_ | refine SCall.scal (m2) rfl rfl ?_ | refine SCall.data (s0) rfl rfl ?_ | refine SCall.scal (s0) rfl rfl ?_ | refine SCall.data (s1) rfl rfl ?_ | refine SCall.scal (s1) rfl rfl ?_ | refine SCall.data (s2) rfl rfl ?_ | refine SCall.scal (s2) rfl rfl ?_ | refine SCall.data (s3) rfl rfl ?_ | refine SCall.scal (s3) rfl rfl ?_ | refine SCall.data (s4) rfl rfl ?_ | refine SCall.scal (s4) rfl rfl ?_ | refine SCall.data (awake13_D) rfl rfl ?_ | refine SCall.scal (awake13_D) rfl rfl ?_) | ((with_reducible refine PCall.mark ?_); first | refine PCall.mk (c1) rfl rfl ?_ | refine PCall.mk (m1) rfl rfl ?_ | refine PCall.mk (m2) rfl rfl ?_ | refine PCall.mk (s0) rfl rfl ?_ | refine PCall.mk (s1) rfl rfl ?_ | refine PCall.mk (s2) rfl rfl ?_ | refine PCall.mk (s3) rfl rfl ?_ | refine PCall.mk (s4) rfl rfl ?_ | refine PCall.mk (awake13_D) rfl rfl ?_) | ((with_reducible refine GCall.mark ?_); first | refine GCall.data (fun _ => c1) rfl rfl ?_ | refine GCall.scal (fun _ => c1) rfl rfl ?_ | refine GCall.data (fun _ => m1) rfl rfl ?_ | refine GCall.scal (fun _ => m1) rfl rfl ?_ | refine GCall.data (fun _ => m2) rfl rfl ?_ | refine GCall.scal (fun _ => m2) rfl rfl ?_ | refine GCall.data (fun _ => s0) rfl rfl ?_ | refine GCall.scal (fun _ => s0) rfl rfl ?_ | refine GCall.data (fun _ => s1) rfl rfl ?_ | refine GCall.scal (fun _ => s1) rfl rfl ?_ | refine GCall.data (fun _ => s2) rfl rfl ?_ | refine GCall.scal (fun _ => s2) rfl rfl ?_ | refine GCall.data (fun _ => s3) rfl rfl ?_ | refine GCall.scal (fun _ => s3) rfl rfl ?_ | refine GCall.data (fun _ => s4) rfl rfl ?_ | refine GCall.scal (fun _ => s4) rfl rfl ?_ | refine GCall.data (fun _ => awake13_D) rfl rfl ?_ | refine GCall.scal (fun _ => awake13_D) rfl rfl ?_) | ((with_reducible refine MCall.mark ?_); first | refine MCall.data (fun _ => c1) rfl rfl ?_ | refine MCall.plain (PCall.mk (c1) rfl rfl ?_) | refine MCall.data (fun _ => m1) rfl rfl ?_ | refine MCall.plain (PCall.mk (m1) rfl rfl ?_) | refine MCall.data (fun _ => m2) rfl rfl ?_ | refine MCall.plain (PCall.mk (m2) rfl rfl ?_) | refine MCall.data (fun _ => s0) rfl rfl ?_ | refine MCall.plain (PCall.mk (s0) rfl rfl ?_) | refine MCall.data (fun _ => s1) rfl rfl ?_ | refine MCall.plain (PCall.mk (s1) rfl rfl ?_) | refine MCall.data (fun _ => s2) rfl rfl ?_ | refine MCall.plain (PCall.mk (s2) rfl rfl ?_) | refine MCall.data (fun _ => s3) rfl rfl ?_ | refine MCall.plain (PCall.mk (s3) rfl rfl ?_) | refine MCall.data (fun _ => s4) rfl rfl ?_ | refine MCall.plain (PCall.mk (s4) rfl rfl ?_) | refine MCall.data (fun _ => awake13_D) rfl rfl ?_ | refine MCall.plain (PCall.mk (awake13_D) rfl rfl ?_)) | ((with_reducible refine Tri.mark ?_); first | (refine Tri.treeX [] (MX.mv 0 0 (MX.mv 0 2 (MX.mv 2 1 (MX.mv 2 3 (MX.mv 2 4 (MX.mv 0 5 (MX.mv 0 6 (MX.mv 0 9 (MX.mv 0 7 (MX.mv 0 10 (MX.mv 2 8 (MX.mv 2 11 (MX.mv 2 12 (MX.mv 0 13 (MX.mv 0 14 (MX.mv 0 15 (MX.mv 0 16 (MX.mv 2 17 (MX.mv 0 18 (MX.mv 0 19 (MX.mv 2 20 (MX.mv 0 21 (MX.mv 0 22 MX.done))))))))))))))))))))))) ?_ (by kernel_rfl) ?_; rfl)) | ((with_reducible refine ECall.mark ?_); first | refine ECall.only ?_ (fun h => nomatch h) | refine ECall.only ?_ ?_) | ((with_reducible refine Drawn.mark ?_); first | (refine Drawn.tree ?_; refine Tri.treeX [] (MX.mv 0 0 (MX.mv 0 2 (MX.mv 2 1 (MX.mv 2 3 (MX.mv 2 4 (MX.mv 0 5 (MX.mv 0 6 (MX.mv 0 9 (MX.mv 0 7 (MX.mv 0 10 (MX.mv 2 8 (MX.mv 2 11 (MX.mv 2 12 (MX.mv 0 13 (MX.mv 0 14 (MX.mv 0 15 (MX.mv 0 16 (MX.mv 2 17 (MX.mv 0 18 (MX.mv 0 19 (MX.mv 2 20 (MX.mv 0 21 (MX.mv 0 22 MX.done))))))))))))))))))))))) ?_ (by kernel_rfl) ?_; rfl) | refine Drawn.quiet (by kernel_rfl) ?_) | refine dcell_ok rfl ?_ | refine AppC.new ?_))
  all_goals first | (with_reducible refine enters_mark ?_; kernel_rfl) | (with_reducible refine boolT_mark ?_; kernel_rfl) | rfl | trivial | assumption | exact Nat.le_of_ble_eq_true rfl | (show entersB _ _ = true; kernel_rfl) | exact DW.same _ rfl | exact DW.ref _ _ _ rfl | exact DW.arr _ _ _ rfl | refine DW.int ?_ | refine dvb ?_ | refine dvi ?_ | exact OW.cells rfl rfl (DWl.same rfl) | exact Nat.zero_le _ | omega | skip
  all_goals repeat' (first | refine OW.cells rfl rfl ?_ | exact DW.nilArr _ rfl | refine DWl.cons ?_ ?_ | exact DWl.nil | exact DW.same _ rfl | exact DW.ref _ _ _ rfl | exact DW.arr _ _ _ rfl | exact DW.sub _ _ _ _ rfl | exact DW.nilLst _ | refine DW.aggl ?_ | refine DW.tupl ?_ | refine DW.clol ?_ ?_)
  all_goals try ((conv => whnf); with_reducible first | refine Round.mark ?_ | refine Tells.mark ?_ | refine Retold.mark ?_)
  all_goals try first | (show (_ : Bool) = _; simp_all; done) | (show (_ : Int) < _; simp at *; omega) | (show (_ : Int) ≤ _; simp at *; omega) | (show (_ : Nat) < _; simp at *; omega) | (show (_ : Nat) ≤ _; simp at *; omega)
  conv => whnf
  exact Tells.mk (DW.bool rfl)
end Go.Proofs.YtkfbaeljcajjbaaGreatDoor

/- Filters and outcomes, as they come in. -/
namespace Go.Proofs.YtkfbaeljcajjbaaGreatDoor
open Go.RowKit Go.Dl
theorem tab39 : fldTab Tryz.prog 39 = some [(37, 0, 1), (37, 1, 1), (37, 2, 1), (9, 3, 1), (3, 4, 1), (3, 5, 1)] := by kernel_rfl
theorem cells39 : Tryz.prog.cellsOf 39 = 6 := by kernel_rfl
theorem cells3 : Tryz.prog.cellsOf 3 = 1 := by kernel_rfl
theorem isS39 : isStructT Tryz.prog 39 = true := by kernel_rfl
theorem int_row (r : List DV) (h : Shp Tryz.prog 3 r) : ∃ x : Int, r = intD x ∧ True := by
  obtain ⟨x, e, _⟩ := Shp.int_inv Tryz.underlying3 h
  exact ⟨x, e, trivial⟩
set_option maxRecDepth 20000 in
theorem ints_in {r : List DV} (h : Shp Tryz.prog 37 r) : ∃ l : List Int, r = [ints l] := by
  have h0 := Shp.slice_inv (α := Int) (f := intD) (p := fun _ => True) Tryz.underlying37 int_row h
  rw [cells3] at h0
  exact h0.imp fun l h1 => h1.1
set_option maxRecDepth 20000 in
theorem fil_arg {d : DV} (h : ShpV Tryz.prog 39 d) : ∃ f : Fil, d = .agg (filD f) := by
  obtain ⟨ds, rfl, h2⟩ := ShpV.agg isS39 h
  obtain ⟨hl, h1, h2, h3, h4, h5, h6, _⟩ := Shp.struct_inv tab39 h2
  rw [cells39] at hl
  match ds, hl with
  | [a, b, c, d, e, f], _ =>
    obtain ⟨x1, e1⟩ := ints_in h1
    obtain ⟨x2, e2⟩ := ints_in h2
    obtain ⟨x3, e3⟩ := ints_in h3
    obtain ⟨x4, e4, _⟩ := Shp.str_inv Tryz.underlying9 h4
    obtain ⟨x5, e5, _⟩ := Shp.int_inv Tryz.underlying3 h5
    obtain ⟨x6, e6, _⟩ := Shp.int_inv Tryz.underlying3 h6
    cases e1; cases e2; cases e3; cases e4; cases e5; cases e6
    exact ⟨⟨x1, x2, x3, x4, x5, x6⟩, rfl⟩
theorem tab82 : fldTab Tryz.prog 82 = some [(3, 0, 1), (23, 1, 4)] := by kernel_rfl
theorem tab80 : fldTab Tryz.prog 80 = some [(26, 0, 1), (78, 1, 1)] := by kernel_rfl
theorem cells82 : Tryz.prog.cellsOf 82 = 5 := by kernel_rfl
theorem cells80' : Tryz.prog.cellsOf 80 = 2 := by kernel_rfl
theorem td_row (r : List DV) (h : Shp Tryz.prog 82 r) : ∃ t : Td, r = tdD t ∧ True := by
  obtain ⟨hl, h1, h3, _⟩ := Shp.struct_inv tab82 h
  rw [cells82] at hl
  match r, hl with
  | [a, c, d, e, f], _ =>
    obtain ⟨x1, e1, w1⟩ := Shp.int_inv Tryz.underlying3 h1
    obtain ⟨hl', g1, g2, g3, g4, _⟩ := Shp.struct_inv tab23 h3
    obtain ⟨x3, e3, w3⟩ := Shp.int_inv Tryz.underlying3 g1
    obtain ⟨x4, e4, w4⟩ := Shp.int_inv Tryz.underlying3 g2
    obtain ⟨x5, e5, w5⟩ := Shp.str_inv Tryz.underlying9 g3
    obtain ⟨x6, e6, w6⟩ := Shp.int_inv Tryz.underlying2 g4
    cases e1; cases e3; cases e4; cases e5; cases e6
    exact ⟨⟨x1, x3, x4, x5, x6⟩, rfl, trivial⟩
set_option maxRecDepth 20000 in
theorem oc_row (r : List DV) (h : Shp Tryz.prog 80 r) : ∃ o : Oc, r = ocD o ∧ True := by
  obtain ⟨hl, h1, h2, _⟩ := Shp.struct_inv tab80 h
  rw [cells80'] at hl
  match r, hl with
  | [a, b], _ =>
    obtain ⟨x1, e1, _⟩ := Shp.int_inv Tryz.underlying26 h1
    obtain ⟨l, e2, _⟩ := Shp.slice_inv Tryz.underlying78 td_row h2
    rw [cells82] at e2
    cases e1; cases e2
    exact ⟨⟨x1, l⟩, rfl, trivial⟩
set_option maxRecDepth 20000 in
theorem ocs_arg {d : DV} (h : ShpV Tryz.prog 45 d) : ∃ l : List Oc, d = ocs l := by
  obtain ⟨l, h1, _⟩ := ShpV.slice_inv Tryz.underlying45 oc_row h
  rw [cells80'] at h1
  exact ⟨l, h1⟩
end Go.Proofs.YtkfbaeljcajjbaaGreatDoor

/- How much a list of outcomes holds, at most: its bulk. -/
namespace Go.Proofs.YtkfbaeljcajjbaaGreatDoor
open Go Go.RowKit Go.Dl Go.ChangeShapes Go.ChangeMaps
theorem bulk_pos {H : Type} (d : DataW H) : 1 ≤ Rows.uptoBulk d := by
  cases d with
  | lit l => cases l <;> simp [Rows.uptoBulk]
  | nil => simp [Rows.uptoBulk]
  | ptr d => simp [Rows.uptoBulk]
  | slice a b => simp [Rows.uptoBulk]
  | agg a => simp [Rows.uptoBulk]
  | iface a b => simp [Rows.uptoBulk]
  | map a => simp [Rows.uptoBulk]
  | held a => simp [Rows.uptoBulk]
theorem bulk_len {H : Type} : ∀ l : List (DataW H), l.length ≤ Rows.uptoBulkAll l
  | [] => Nat.zero_le _
  | d :: l => by
    have h1 := bulk_pos d
    have h2 := bulk_len l
    rw [Rows.uptoBulkAll, List.length_cons]; omega
theorem bulk_mem {H : Type} : ∀ (l : List (DataW H)) (i : Nat) (d : DataW H), l[i]? = some d → Rows.uptoBulk d ≤ Rows.uptoBulkAll l
  | [], i, d, h => by simp at h
  | e :: l, 0, d, h => by
    simp only [List.getElem?_cons_zero, Option.some.injEq] at h
    subst h
    rw [Rows.uptoBulkAll]; omega
  | e :: l, i + 1, d, h => by
    have := bulk_mem l i d (by simpa using h)
    rw [Rows.uptoBulkAll]; omega
theorem bulk_sum {H α : Type} (g : α → Nat) : ∀ (es : List (DataW H)) (l : List α), es.length = l.length → (∀ (i : Nat) e a, es[i]? = some e → l[i]? = some a → g a ≤ Rows.uptoBulk e) → (l.map g).sum ≤ Rows.uptoBulkAll es
  | [], [], _, _ => Nat.le_refl _
  | [], _ :: _, h, _ => by simp at h
  | _ :: _, [], h, _ => by simp at h
  | e :: es, a :: l, h, hg => by
    have h1 := hg 0 e a rfl rfl
    have h2 := bulk_sum g es l (by simpa using h) fun i e a h1 h2 => hg (i + 1) e a (by simpa using h1) (by simpa using h2)
    rw [List.map_cons, List.sum_cons, Rows.uptoBulkAll]; omega
theorem mom_sum (l : List Oc) : (momT l).length = (l.map fun o => o.evs.length).sum := by
  have key : ∀ n, n ≤ l.length → (momP l n).length = ((l.take n).map fun o => o.evs.length).sum := by
    intro n
    induction n with
    | zero => intro _; rfl
    | succ n ih =>
      intro hn
      rw [← mom_next l n (Nat.le_refl _), momI, List.length_append, ih (by omega), List.length_map, List.take_length, take_succ (d := oc0) (by omega), List.map_append, List.sum_append]
      simp
  unfold momT
  rw [key _ (Nat.le_refl _), List.take_length]
theorem fld80 : ∃ fs, Tryz.prog.underlying 80 = some (.struct fs) ∧ (fs[1]?).map (fun f => (f.type, f.offset)) = some (78, 1) := ⟨_, Tryz.underlying80, by kernel_rfl⟩
theorem cells80 : Tryz.prog.cellsOf 80 = 2 := by kernel_rfl
theorem cells78 : Tryz.prog.cellsOf 78 = 1 := by kernel_rfl
set_option maxRecDepth 20000 in
theorem ocs_bulk {H : Type} {enc : TypeId × Value → H} {W : World} {F : Nat → Prop} {β : Beta} {sp : Nat → Bool} {held : Bool} {l : List Oc} {v : Value} {d : DataW H} {ps : List MemPlace} (hv : RV W F β (ocs l) v)
    (ht : DataW.Trod enc Tryz.prog W 0 sp held 45 v d ps) : (momT l).length ≤ Rows.uptoBulk d := by
  rw [mom_sum]
  unfold ocs at hv
  generalize hes : l.map ocD = es at hv
  have hel : es.length = l.length := by rw [← hes, List.length_map]
  obtain ⟨fuel, hf⟩ := ht
  cases hv with
  | data hd =>
    cases hd with
    | lst _ _ a b off cap g ha hn hc hm hsz hcell hd =>
      rcases DataW.trod_slice Tryz.underlying45 hf with ⟨h0, _⟩ | ⟨a', len, cap', elems, rest, n', _, h0, hx, _, _, _, hlen, hels, _⟩
      · simp [Value.cells] at h0
        have : l = [] := List.eq_nil_of_length_eq_zero (by omega)
        subst this
        exact Nat.zero_le _
      · simp [Value.cells] at h0
        obtain ⟨h01, h02, h03⟩ := h0
        simp only [Prod.mk.injEq] at hx
        obtain ⟨rfl, _⟩ := hx
        rw [Rows.uptoBulk]
        have hsum := bulk_sum (fun o : Oc => o.evs.length) (elems.map (·.1)) l (by rw [List.length_map]; omega) fun i e o h1 h2 => by
          rw [List.getElem?_map, Option.map_eq_some_iff] at h1
          obtain ⟨e', h1, rfl⟩ := h1
          have hil : i < l.length := (List.getElem?_eq_some_iff.1 h2).1
          have hE := hels i (by omega)
          rw [h1, Option.bind_eq_some_iff] at hE
          obtain ⟨cs, hcs, htr⟩ := hE
          rw [cells80] at hcs
          obtain ⟨_, hcl, hcc⟩ := World.cells?_some hcs
          have hne : es ≠ [] := fun e => by rw [e] at hel; simp at hel; omega
          have hr : es[i]? = some (ocD o) := by rw [← hes, List.getElem?_map, h2]; rfl
          have hc1 := (hcell i _ 1 _ hr rfl).1
          have hd1 := hd i _ 1 _ hr rfl
          have ha' := ha hne
          rw [ha'] at h01
          cases h01
          have hc2 := hcc 1 (by omega)
          have e1 : (Addr.mk b off none).add (i * 2) = ⟨b, off + i * 2, none⟩ := by simp [Addr.add]
          have hg1 : cs[1]? = some (g i 1) := by
            rw [← hc2, ← hc1, e1]; simp [Addr.add]
          obtain ⟨fs, hfs, hf1⟩ := fld80
          obtain ⟨xs, n2, _, rfl, _, hxl, hxf⟩ := DataW.trod_struct hfs htr
          rw [Option.map_eq_some_iff] at hf1
          obtain ⟨f1, hf1, hf2⟩ := hf1
          simp only [Prod.mk.injEq] at hf2
          have hx1 := hxf 1 f1 hf1
          rw [hf2.1, hf2.2, cells78] at hx1
          have hxs : 1 < xs.length := by rw [hxl]; exact (Array.getElem?_eq_some_iff.1 hf1).1
          obtain ⟨x, hx⟩ : ∃ x, xs[1]? = some x := ⟨_, List.getElem?_eq_getElem hxs⟩
          rw [hx] at hx1
          have hcs1 : (cs.drop 1).take 1 = [g i 1] := by
            match cs, hcl, hg1 with
            | [c0, c1], _, hg1 => simp at hg1; simp [hg1]
          rw [hcs1] at hx1
          rw [Rows.uptoBulk]
          have h3 := bulk_mem (xs.map (·.1)) 1 x.1 (by rw [List.getElem?_map, hx]; rfl)
          refine Nat.le_trans ?_ (Nat.le_succ_of_le h3)
          generalize g i 1 = y at hd1 hx1
          unfold tds at hd1
          generalize htd : o.evs.map tdD = ts at hd1
          have htl : ts.length = o.evs.length := by rw [← htd, List.length_map]
          cases hd1 with
          | lst _ _ a2 b2 off2 cap2 g2 ha2 hn2 hc2 hm2 hsz2 hcell2 hd2 =>
            rcases DataW.trod_slice Tryz.underlying78 hx1 with ⟨k0, _⟩ | ⟨a3, len3, cap3, el3, rest3, n3, _, k0, kx, _, _, _, klen, _⟩
            · simp at k0
              omega
            · simp at k0
              rw [kx, Rows.uptoBulk]
              have := bulk_len (el3.map (·.1))
              rw [List.length_map] at this
              omega
        omega
end Go.Proofs.YtkfbaeljcajjbaaGreatDoor
