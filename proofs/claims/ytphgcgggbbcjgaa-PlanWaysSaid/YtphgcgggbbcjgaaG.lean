/- The greatest distance. -/
import Derived.Test.YtphgcgggbbcjgaaF
namespace Go.Proofs.Ytphgcgggbbcjgaa
open Go.RowKit Go.Dl
attribute [local irreducible] Tri SCall DFun QSem PCall GCall MCall Round Weak dloadE OW DWl Tells IntKind.wrap Retold ESem

def imax (a b : Int) : Int := if a < b then b else a
def maxS (D : List Int) : Int := (D.drop 1).foldl imax (D.getD 0 0)
theorem imax_max (a b : Int) : imax a b = max a b := by unfold imax; omega
theorem foldl_imax (D : List Int) : ∀ a b, D.foldl imax (imax a b) = imax a (D.foldl imax b) := by
  induction D with
  | nil => intro a b; rfl
  | cons x D ih =>
    intro a b
    rw [List.foldl_cons, List.foldl_cons, ← ih]
    congr 1
    simp only [imax_max]; omega
theorem maxS_fold {D : List Int} (h : D ≠ []) (w : Int) : D.foldl imax w = imax w (maxS D) := by
  cases D with
  | nil => exact absurd rfl h
  | cons x D => simp [maxS, foldl_imax]
def maxSt (D : List Int) (k : Nat) : St := ⟨0, tmOf [(0, ints D), (3, int1 ((D.take k).drop 1 |>.foldl imax (D.getD 0 0))), (4, int1 k)], .of [] 0⟩
theorem max35_D (D : List Int) (hne : D ≠ []) : DPure Try.prog 35 [ints D] (int1 (maxS D)) := by
  have hpos := List.length_pos_iff.2 hne
  refine DFun.bound 0 rfl fun ha => ?_
  have ha : D.length ≤ 9223372036854775807 := by simpa [maxLen] using ha
  refine DFun.body Try.func35 rfl (by kernel_rfl) ?_
  repeat' (first | with_reducible rfl | ((conv => whnf); first | refine And.intro ?_ ?_ | (intro h; first | exact Bool.noConfusion h | with_reducible exact h | (exfalso; rw [List.length_map] at h; have h := of_decide_eq_true h; omega) | (have ht : true = true := h; clear ht h) | skip) | ((with_reducible refine DWl.mark ?_); repeat' (first | refine DWl.cons ?_ ?_ | exact DWl.nil | exact DW.same _ rfl | exact DW.ref _ _ _ rfl | exact DW.arr _ _ _ rfl | exact DW.sub _ _ _ _ rfl | exact DW.nilLst _ | refine DW.aggl ?_ | refine DW.tupl ?_ | refine DW.clol ?_ ?_ | refine DW.int ?_ | refine DW.bool ?_ | refine DW.str ?_)) | ((with_reducible refine Tri.mark ?_); first | refine Tri.loop (maxSt D) (fun k => 1 ≤ k ∧ k ≤ D.length) (fun k => D.length - k) (1) (by kernel_rfl) (Weak.list [] [] ?_ ?_ ?_) ?_ ?_) | ((with_reducible refine Round.mark ?_); first | refine Round.go ((· + 1)) ?_ ?_ (Weak.list [] [] ?_ ?_ ?_)) | refine dloadE_map (0) ?_ ?_ | refine dcell_ok rfl ?_ | refine AppC.new ?_))
  all_goals first | (with_reducible refine enters_mark ?_; kernel_rfl) | (with_reducible refine boolT_mark ?_; kernel_rfl) | rfl | trivial | assumption | exact Nat.le_of_ble_eq_true rfl | (show entersB _ _ = true; kernel_rfl) | exact DW.same _ rfl | exact DW.ref _ _ _ rfl | exact DW.arr _ _ _ rfl | refine DW.int ?_ | refine dvb ?_ | refine dvi ?_ | exact OW.cells rfl rfl (DWl.same rfl) | exact Nat.zero_le _ | omega | skip
  all_goals repeat' (first | refine OW.cells rfl rfl ?_ | exact DW.nilArr _ rfl | refine DWl.cons ?_ ?_ | exact DWl.nil | exact DW.same _ rfl | exact DW.ref _ _ _ rfl | exact DW.arr _ _ _ rfl | exact DW.sub _ _ _ _ rfl | exact DW.nilLst _ | refine DW.aggl ?_ | refine DW.tupl ?_ | refine DW.clol ?_ ?_)
  all_goals try ((conv => whnf); with_reducible first | refine Round.mark ?_ | refine Tells.mark ?_ | refine Retold.mark ?_)
  all_goals try first | (show (_ : Bool) = _; simp_all; done) | (show (_ : Int) < _; simp at *; omega) | (show (_ : Int) ≤ _; simp at *; omega) | (show (_ : Nat) < _; simp at *; omega) | (show (_ : Nat) ≤ _; simp at *; omega)
  · show D.getD 0 0 = _
    cases D with
    | nil => exact absurd rfl hne
    | cons x D => simp
  · rename_i k hk
    have hk2 := lt_of_test h
    rw [take_succ (d := 0) hk2, List.drop_append_of_le_length (by rw [List.length_take]; omega), List.foldl_append]
    rfl
  · exact wsucc (lt_of_test h) ha
  · rename_i k hk
    rw [List.take_of_length_le (ge_of_test h)]; rfl

def widthP (n : Nat) (l : List Lk) (k : Nat) : Int := (List.range k).foldl (fun w (v : Nat) => imax w (maxS (distT n l v))) 0
def widthT (n : Nat) (l : List Lk) : Int := widthP n l n
theorem width_succ (n : Nat) (l : List Lk) (k : Nat) : widthP n l (k + 1) = imax (widthP n l k) (maxS (distT n l k)) := by
  unfold widthP; rw [List.range_succ, List.foldl_append]; rfl
def widSt20 (n : Nat) (l : List Lk) (k : Nat) : St := ⟨0, tmOf [(0, int1 n), (1, links l), (5, int1 (widthP n l k)), (7, int1 n), (8, int1 k)], .of [] 0⟩
theorem width20_D (n : Nat) (l : List Lk) (hn : n ≤ 1000) (hl : inN n l) : DPure Try.prog 20 [int1 n, links l] (int1 (widthT n l)) := by
  refine DFun.body Try.func20 rfl (by kernel_rfl) ?_
  repeat' (first | with_reducible rfl | ((conv => whnf); first | refine And.intro ?_ ?_ | (intro h; first | exact Bool.noConfusion h | with_reducible exact h | (have ht : true = true := h; clear ht h) | skip) | ((with_reducible refine DWl.mark ?_); repeat' (first | refine DWl.cons ?_ ?_ | exact DWl.nil | exact DW.same _ rfl | exact DW.ref _ _ _ rfl | exact DW.arr _ _ _ rfl | exact DW.sub _ _ _ _ rfl | exact DW.nilLst _ | refine DW.aggl ?_ | refine DW.tupl ?_ | refine DW.clol ?_ ?_ | refine DW.int ?_ | refine DW.bool ?_ | refine DW.str ?_)) | ((with_reducible refine SCall.mark ?_); first | refine SCall.data (dist18_D n l _ hn hl) rfl rfl ?_ | refine SCall.data (max35_D (distT n l _) ?_) rfl rfl ?_ | refine SCall.scal (max35_D (distT n l _) ?_) rfl rfl ?_) | ((with_reducible refine PCall.mark ?_); first | refine PCall.mk (max35_D (distT n l _) ?_) rfl rfl ?_) | ((with_reducible refine GCall.mark ?_); first | refine GCall.data (fun _ => dist18_D n l _ hn hl) rfl rfl ?_ | refine GCall.data (fun _ => max35_D (distT n l _) ?_) rfl rfl ?_ | refine GCall.scal (fun _ => max35_D (distT n l _) ?_) rfl rfl ?_) | ((with_reducible refine MCall.mark ?_); first | refine MCall.data (fun _ => dist18_D n l _ hn hl) rfl rfl ?_ | refine MCall.data (fun _ => max35_D (distT n l _) ?_) rfl rfl ?_ | refine MCall.plain (PCall.mk (max35_D (distT n l _) ?_) rfl rfl ?_)) | ((with_reducible refine Tri.mark ?_); first | refine Tri.loop (widSt20 n l) ((· ≤ n)) (fun k => n - k) (0) (by kernel_rfl) (Weak.list [] [] ?_ ?_ ?_) ?_ ?_) | ((with_reducible refine Round.mark ?_); first | refine Round.go ((· + 1)) ?_ ?_ (Weak.list [] [] ?_ ?_ ?_)) | refine dcell_ok rfl ?_ | refine AppC.new ?_))
  all_goals first | (with_reducible refine enters_mark ?_; kernel_rfl) | (with_reducible refine boolT_mark ?_; kernel_rfl) | rfl | trivial | assumption | exact Nat.le_of_ble_eq_true rfl | (show entersB _ _ = true; kernel_rfl) | exact DW.same _ rfl | exact DW.ref _ _ _ rfl | exact DW.arr _ _ _ rfl | refine DW.int ?_ | refine dvb ?_ | refine dvi ?_ | exact OW.cells rfl rfl (DWl.same rfl) | exact Nat.zero_le _ | omega | skip
  all_goals repeat' (first | refine OW.cells rfl rfl ?_ | exact DW.nilArr _ rfl | refine DWl.cons ?_ ?_ | exact DWl.nil | exact DW.same _ rfl | exact DW.ref _ _ _ rfl | exact DW.arr _ _ _ rfl | exact DW.sub _ _ _ _ rfl | exact DW.nilLst _ | refine DW.aggl ?_ | refine DW.tupl ?_ | refine DW.clol ?_ ?_)
  all_goals try ((conv => whnf); with_reducible first | refine Round.mark ?_ | refine Tells.mark ?_ | refine Retold.mark ?_)
  all_goals try first | (show (_ : Bool) = _; simp_all; done) | (show (_ : Int) < _; simp at *; omega) | (show (_ : Int) ≤ _; simp at *; omega) | (show (_ : Nat) < _; simp at *; omega) | (show (_ : Nat) ≤ _; simp at *; omega)
  · rename_i k hk e0
    have := distT_len n l k
    rw [h] at this
    have := lt_int e0
    simp at *; omega
  · exact (width_succ n l _).symm
  · exact wsucc (lt_int h) (by omega)
  · rename_i k hk
    have : k = n := by have := ge_int h; omega
    subst this; rfl

theorem fold_at (D : List Int) (w : Int) {i : Nat} (h : i < D.length) : (D.take (i + 1)).foldl imax w = (if (D.take i).foldl imax w < D.getD i 0 then D.getD i 0 else (D.take i).foldl imax w) := by
  rw [take_succ (d := 0) h, List.foldl_append]; rfl
def widSt27 (n : Nat) (l : List Lk) (k : Nat) : St := ⟨0, tmOf [(0, int1 n), (1, links l), (5, int1 (widthP n l k)), (6, int1 k)], .of [] 0⟩
def widIn27 (n : Nat) (l : List Lk) (k i : Nat) : St := ⟨0, tmOf [(0, int1 n), (1, links l), (5, int1 (((distT n l k).take i).foldl imax (widthP n l k))), (6, int1 k), (7, ints (distT n l k)), (8, int1 i)], .of [] 0⟩
theorem width27_D (n : Nat) (l : List Lk) (hn : n ≤ 1000) (hl : inN n l) : DPure Try.prog 27 [int1 n, links l] (int1 (widthT n l)) := by
  refine DFun.body Try.func27 rfl (by kernel_rfl) ?_
  repeat' (first | with_reducible rfl | ((conv => whnf); first | refine And.intro ?_ ?_ | (intro h; first | exact Bool.noConfusion h | with_reducible exact h | (have ht : true = true := h; clear ht h) | skip) | ((with_reducible refine DWl.mark ?_); repeat' (first | refine DWl.cons ?_ ?_ | exact DWl.nil | exact DW.same _ rfl | exact DW.ref _ _ _ rfl | exact DW.arr _ _ _ rfl | exact DW.sub _ _ _ _ rfl | exact DW.nilLst _ | refine DW.aggl ?_ | refine DW.tupl ?_ | refine DW.clol ?_ ?_ | refine DW.int ?_ | refine DW.bool ?_ | refine DW.str ?_)) | ((with_reducible refine SCall.mark ?_); first | refine SCall.data (dist25_D n l _ hn hl) rfl rfl ?_) | ((with_reducible refine GCall.mark ?_); first | refine GCall.data (fun _ => dist25_D n l _ hn hl) rfl rfl ?_) | ((with_reducible refine MCall.mark ?_); first | refine MCall.data (fun _ => dist25_D n l _ hn hl) rfl rfl ?_) | ((with_reducible refine Tri.mark ?_); first | (refine Tri.at (6) (int1 0) (by rfl) ?_; refine Tri.loop (widSt27 n l) ((· ≤ n)) (fun k => n - k) (0) (by kernel_rfl) (Weak.list [] [] ?_ ?_ ?_) ?_ ?_)) | ((with_reducible refine Round.mark ?_); first | refine Round.go ((· + 1)) ?_ ?_ (Weak.list [] [] ?_ ?_ ?_)) | refine dcell_ok rfl ?_ | refine AppC.new ?_))
  all_goals first | (with_reducible refine enters_mark ?_; kernel_rfl) | (with_reducible refine boolT_mark ?_; kernel_rfl) | rfl | trivial | assumption | exact Nat.le_of_ble_eq_true rfl | (show entersB _ _ = true; kernel_rfl) | exact DW.same _ rfl | exact DW.ref _ _ _ rfl | exact DW.arr _ _ _ rfl | refine DW.int ?_ | refine dvb ?_ | refine dvi ?_ | exact OW.cells rfl rfl (DWl.same rfl) | exact Nat.zero_le _ | omega | skip
  all_goals repeat' (first | refine OW.cells rfl rfl ?_ | exact DW.nilArr _ rfl | refine DWl.cons ?_ ?_ | exact DWl.nil | exact DW.same _ rfl | exact DW.ref _ _ _ rfl | exact DW.arr _ _ _ rfl | exact DW.sub _ _ _ _ rfl | exact DW.nilLst _ | refine DW.aggl ?_ | refine DW.tupl ?_ | refine DW.clol ?_ ?_)
  all_goals try ((conv => whnf); with_reducible first | refine Round.mark ?_ | refine Tells.mark ?_ | refine Retold.mark ?_)
  all_goals try first | (show (_ : Bool) = _; simp_all; done) | (show (_ : Int) < _; simp at *; omega) | (show (_ : Int) ≤ _; simp at *; omega) | (show (_ : Nat) < _; simp at *; omega) | (show (_ : Nat) ≤ _; simp at *; omega)
  · rename_i k hk
    have hkn := lt_int h
    have hkz : distT n l k ≠ [] := fun e => by have := distT_len n l k; rw [e] at this; simp at this; omega
    conv => whnf
    refine Tri.loop (widIn27 n l k) (· ≤ n) (fun i => n - i) 0 (by kernel_rfl) (Weak.list [] [] (by kernel_rfl) ?_ ?_) (Nat.zero_le _) ?_
    · repeat' (first | exact DW.same _ rfl | exact DW.ref _ _ _ rfl | exact DW.arr _ _ _ rfl | exact OW.cells rfl rfl (DWl.same rfl) | refine OW.cells rfl rfl ?_ | refine DWl.cons ?_ ?_ | exact DWl.nil | exact DW.nilArr _ rfl | exact DW.nilLst _ | refine DW.clol ?_ ?_ | refine DW.aggl ?_ | refine DW.tupl ?_ | refine DW.int ?_ | refine DW.bool ?_ | refine DW.str ?_ | refine DW.arrE rfl ?_ | ((conv => whnf); first | refine And.intro ?_ ?_ | trivial))
    · repeat' (first | exact DW.same _ rfl | exact DW.ref _ _ _ rfl | exact DW.arr _ _ _ rfl | exact OW.cells rfl rfl (DWl.same rfl) | refine OW.cells rfl rfl ?_ | refine DWl.cons ?_ ?_ | exact DWl.nil | exact DW.nilArr _ rfl | exact DW.nilLst _ | refine DW.clol ?_ ?_ | refine DW.aggl ?_ | refine DW.tupl ?_ | refine DW.int ?_ | refine DW.bool ?_ | refine DW.str ?_ | refine DW.arrE rfl ?_ | ((conv => whnf); first | refine And.intro ?_ ?_ | trivial))
    intro i hi
    have hdl := distT_len n l k
    repeat' (first | with_reducible rfl | ((conv => whnf); first | refine And.intro ?_ ?_ | (intro h; first | exact Bool.noConfusion h | with_reducible exact h | (have ht : true = true := h; clear ht h) | skip) | ((with_reducible refine DWl.mark ?_); repeat' (first | refine DWl.cons ?_ ?_ | exact DWl.nil | exact DW.same _ rfl | exact DW.ref _ _ _ rfl | exact DW.arr _ _ _ rfl | exact DW.sub _ _ _ _ rfl | exact DW.nilLst _ | refine DW.aggl ?_ | refine DW.tupl ?_ | refine DW.clol ?_ ?_ | refine DW.int ?_ | refine DW.bool ?_ | refine DW.str ?_)) | refine dloadE_map (0) ?_ ?_ | refine dcell_ok rfl ?_ | refine AppC.new ?_))
    all_goals try ((conv => whnf); with_reducible refine Round.mark ?_)
    all_goals try first | ((with_reducible show (_ : Int) < _); rw [List.length_map, hdl]; have := lt_int h; omega) | ((with_reducible show (_ : Nat) < _); rw [hdl]; have := lt_int h; omega) | ((with_reducible show Option.isSome (slElem _ _) = true); kernel_rfl) | ((with_reducible show slElem _ _ = some _); kernel_rfl) | ((with_reducible refine enters_mark ?_); kernel_rfl) | (with_reducible assumption) | ((with_reducible show List.all _ DV.one = true); rfl) | ((with_reducible show (_ : Nat) = _); rfl) | ((with_reducible show (_ == true) = true); simpa using h) | ((with_reducible show (_ : Nat) ≤ _); exact Nat.le_of_ble_eq_true rfl) | ((with_reducible show (_ : Int) ≤ _); first | omega | decide) | ((with_reducible show (_ : Int) < _); first | omega | decide) | ((with_reducible show (_ : Nat) < _); omega) | ((with_reducible show (_ : Nat) ≤ _); omega)
    · have hin := lt_int h
      refine Round.go (· + 1) (by omega) (by show n - (i + 1) < n - i; omega) (Weak.list [] [] (by kernel_rfl) ?_ ?_)
      · repeat' (first | exact wsucc hin (by omega) | exact (fold_at (distT n l k) _ (by omega)).symm | exact DW.same _ rfl | exact DW.ref _ _ _ rfl | exact DW.arr _ _ _ rfl | exact OW.cells rfl rfl (DWl.same rfl) | refine OW.cells rfl rfl ?_ | refine DWl.cons ?_ ?_ | exact DWl.nil | exact DW.nilArr _ rfl | exact DW.nilLst _ | refine DW.clol ?_ ?_ | refine DW.aggl ?_ | refine DW.tupl ?_ | refine DW.int ?_ | refine DW.bool ?_ | refine DW.str ?_ | refine DW.arrE rfl ?_ | ((conv => whnf); first | refine And.intro ?_ ?_ | trivial))
      · repeat' (first | exact wsucc hin (by omega) | exact (fold_at (distT n l k) _ (by omega)).symm | exact DW.same _ rfl | exact DW.ref _ _ _ rfl | exact DW.arr _ _ _ rfl | exact OW.cells rfl rfl (DWl.same rfl) | refine OW.cells rfl rfl ?_ | refine DWl.cons ?_ ?_ | exact DWl.nil | exact DW.nilArr _ rfl | exact DW.nilLst _ | refine DW.clol ?_ ?_ | refine DW.aggl ?_ | refine DW.tupl ?_ | refine DW.int ?_ | refine DW.bool ?_ | refine DW.str ?_ | refine DW.arrE rfl ?_ | ((conv => whnf); first | refine And.intro ?_ ?_ | trivial))
    · have : i = n := by have := ge_int h; omega
      subst this
      refine Round.go (· + 1) (by omega) (by show i - (k + 1) < i - k; omega) (Weak.list [] [] (by kernel_rfl) ?_ ?_)
      · repeat' (first | exact wsucc hkn (by omega) | exact (by rw [List.take_of_length_le (by omega), maxS_fold hkz]; exact (width_succ i l k).symm) | exact DW.same _ rfl | exact DW.ref _ _ _ rfl | exact DW.arr _ _ _ rfl | exact OW.cells rfl rfl (DWl.same rfl) | refine OW.cells rfl rfl ?_ | refine DWl.cons ?_ ?_ | exact DWl.nil | exact DW.nilArr _ rfl | exact DW.nilLst _ | refine DW.clol ?_ ?_ | refine DW.aggl ?_ | refine DW.tupl ?_ | refine DW.int ?_ | refine DW.bool ?_ | refine DW.str ?_ | refine DW.arrE rfl ?_ | ((conv => whnf); first | refine And.intro ?_ ?_ | trivial))
      · repeat' (first | exact wsucc hkn (by omega) | exact (by rw [List.take_of_length_le (by omega), maxS_fold hkz]; exact (width_succ i l k).symm) | exact DW.same _ rfl | exact DW.ref _ _ _ rfl | exact DW.arr _ _ _ rfl | exact OW.cells rfl rfl (DWl.same rfl) | refine OW.cells rfl rfl ?_ | refine DWl.cons ?_ ?_ | exact DWl.nil | exact DW.nilArr _ rfl | exact DW.nilLst _ | refine DW.clol ?_ ?_ | refine DW.aggl ?_ | refine DW.tupl ?_ | refine DW.int ?_ | refine DW.bool ?_ | refine DW.str ?_ | refine DW.arrE rfl ?_ | ((conv => whnf); first | refine And.intro ?_ ?_ | trivial))
  · rename_i k hk
    have : k = n := by have := ge_int h; omega
    subst this; rfl
end Go.Proofs.Ytphgcgggbbcjgaa
